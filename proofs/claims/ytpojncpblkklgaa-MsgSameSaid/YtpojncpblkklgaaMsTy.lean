/- Tables, records and messages among a law's arguments. -/
import Derived.Test.YtpojncpblkklgaaMsRef
import Derived.Test.YtpojncpblkklgaaTy
set_option linter.unusedVariables false
set_option linter.unusedSimpArgs false
namespace Go.Proofs.Ytpojncpblkklgaa
open Go.RowKit
abbrev TyTab : Ty := .st (.cons (.sl (.int .u64)) (.cons (.int .i64) .nil))
abbrev TyRec : Ty := .st (.cons (.int .u64) (.cons (.sl (.int .u8)) .nil))
abbrev TyMsg : Ty := .st (.cons (.int .i64) (.cons (.int .i64) (.cons (.int .i64) (.cons (.int .i64) (.cons (.int .i64) (.cons (.int .i64) (.cons (.sl TyRec) (.cons TyTab .nil))))))))
theorem rep_tab {w : World} {cs : List Value} {x : TyTab.den} (h : Rep w TyTab cs x) : ∃ a n c, cs = [.slice a n c, .int .i64 x.2.1] ∧ Sl .u64 w a n c x.1 ∧ IsW x.1 ∧ (Lit.int .i64 x.2.1).wf = true := by
  obtain ⟨c1, r1, rfl, _, h2, c2, r2, rfl, _, ⟨rfl, h4⟩, h5⟩ := h
  obtain ⟨a, n, c, rfl, hs⟩ := rep_sl h2
  obtain ⟨s1, s2⟩ := slT_int hs
  refine ⟨a, n, c, ?_, s1, isW_of_mem fun z hz => wf_bd_u64 (s2 z hz), h4⟩
  rw [show r2 = [] from h5]
  rfl
theorem slT_recQ {w : World} {a : Option Addr} {n c : Nat} {l : List TyRec.den} (h : SlT w TyRec a n c l) : ∃ (R : List RV) (L : List (Int × List Int)), SlQ w a n c R ∧ BytesAt w R L ∧ ∀ x ∈ L, (0 ≤ x.1 ∧ x.1 ≤ 18446744073709551615) ∧ IsB x.2 := by
  obtain ⟨h1, h2, h3, h4⟩ := h
  have hall : ∀ i, i < n → ∃ x : RV × (Int × List Int), rvOk x.1 ∧ x.1.at' = x.2.1 ∧ IsB x.2.2 ∧ Sl .u8 w x.1.a x.1.n x.1.c x.2.2 ∧ ∃ b o, a = some ⟨b, o, none⟩ ∧ w.cell? ⟨b, o + i * 2, none⟩ = some (.int .u64 x.1.at') ∧ w.cell? ⟨b, o + i * 2 + 1, none⟩ = some (.slice x.1.a x.1.n x.1.c) := by
    intro i hi
    obtain ⟨b, o, cs', rfl, hb, hl, hc, hr⟩ := h4 i l[i] (List.getElem?_eq_getElem (by omega))
    obtain ⟨c1, r1, rfl, _, ⟨rfl, hw⟩, c2, r2, rfl, _, h6, h7⟩ := hr
    obtain ⟨a', n', c', rfl, hs⟩ := rep_sl h6
    have q0 := hc 0 (.int .u64 l[i].1) rfl
    have q1 := hc 1 (.slice a' n' c') rfl
    obtain ⟨s1, s2⟩ := slT_int hs
    have hw' := wf_bd_u64 hw
    refine ⟨(⟨l[i].1, a', n', c'⟩, (l[i].1, l[i].2.1)), ⟨hw'.1, hw'.2, by have := s1.2.1; have := s1.2.2.1; show n' ≤ maxLen; omega⟩, rfl, isB_of_wf s2, s1, b, o, rfl, ?_, ?_⟩
    · simp [Ty.size] at q0; exact q0
    · simp [Ty.size] at q1; exact q1
  obtain ⟨f, hf⟩ : ∃ f : Fin n → RV × (Int × List Int), ∀ i : Fin n, rvOk (f i).1 ∧ (f i).1.at' = (f i).2.1 ∧ IsB (f i).2.2 ∧ Sl .u8 w (f i).1.a (f i).1.n (f i).1.c (f i).2.2 ∧ ∃ b o, a = some ⟨b, o, none⟩ ∧ w.cell? ⟨b, o + i.1 * 2, none⟩ = some (.int .u64 (f i).1.at') ∧ w.cell? ⟨b, o + i.1 * 2 + 1, none⟩ = some (.slice (f i).1.a (f i).1.n (f i).1.c) :=
    ⟨fun i => Classical.choose (hall i.1 i.2), fun i => Classical.choose_spec (hall i.1 i.2)⟩
  refine ⟨List.ofFn fun i => (f i).1, List.ofFn fun i => (f i).2, ⟨by simp, h2, h3, fun i r hr => ?_⟩, ⟨by simp, fun i r x hr hx => ?_⟩, fun x hx => ?_⟩
  · have hi : i < n := by
      rcases Nat.lt_or_ge i n with h' | h'
      · exact h'
      · simp [List.getElem?_eq_none, h'] at hr
    simp [hi] at hr
    obtain ⟨g1, g2, _, g3, b, o, g4, g5, g6⟩ := hf ⟨i, hi⟩
    rw [hr] at g1 g5 g6
    exact ⟨g1, b, o, g4, g5, g6⟩
  · have hi : i < n := by
      rcases Nat.lt_or_ge i n with h' | h'
      · exact h'
      · simp [List.getElem?_eq_none, h'] at hr
    simp [hi] at hr hx
    obtain ⟨g1, g2, _, g3, _⟩ := hf ⟨i, hi⟩
    rw [hr, hx] at g2 g3
    exact ⟨g2, g3⟩
  · obtain ⟨i, rfl⟩ := List.mem_ofFn.1 hx
    obtain ⟨g1, g2, g3, _⟩ := hf i
    refine ⟨?_, g3⟩
    rw [← g2]
    exact ⟨g1.1, g1.2.1⟩
theorem repV_msg {w : World} {v : Value} {x : TyMsg.den} (h : RepV w TyMsg v x) : ∃ (m : MV) (R : List RV) (L : List (Int × List Int)) (T : List Int), v = .agg m.cs ∧ SlQ w m.la m.ln m.lc R ∧ BytesAt w R L ∧ (∀ l ∈ L, (0 ≤ l.1 ∧ l.1 ≤ 18446744073709551615) ∧ IsB l.2) ∧ Sl .u64 w m.ta m.tn m.tc T ∧ IsW T := by
  obtain ⟨hr, cs, rfl⟩ := h
  simp only [Value.cells] at hr
  obtain ⟨x0, x1, x2, x3, x4, x5, x6, ⟨T, te, _⟩, _⟩ := x
  obtain ⟨_, r1, e1, _, ⟨rfl, _⟩, _, r2, rfl, _, ⟨rfl, _⟩, _, r3, rfl, _, ⟨rfl, _⟩, _, r4, rfl, _, ⟨rfl, _⟩, _, r5, rfl, _, ⟨rfl, _⟩, _, r6, rfl, _, ⟨rfl, _⟩, _, r7, rfl, _, g7, _, r8, rfl, _, g8, g9⟩ := hr
  obtain ⟨la, ln, lc, rfl, hs⟩ := rep_sl g7
  obtain ⟨ta, tn, tc, rfl, ht, wt, _⟩ := rep_tab g8
  obtain ⟨R, L, h1, h2, h3⟩ := slT_recQ hs
  refine ⟨⟨x0, x1, x2, x3, x4, x5, la, ln, lc, ta, tn, tc, te⟩, R, L, T, ?_, h1, h2, h3, ht, wt⟩
  rw [show r8 = [] from g9] at e1
  congr 1
  exact Array.ext' (by simpa [MV.cs] using e1)
end Go.Proofs.Ytpojncpblkklgaa
