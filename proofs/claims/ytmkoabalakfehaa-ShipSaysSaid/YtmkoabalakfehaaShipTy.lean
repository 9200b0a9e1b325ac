/- Tables, records and messages among a law's arguments. -/
import Derived.Test.YtmkoabalakfehaaShipRises
import Derived.Test.YtmkoabalakfehaaTy
set_option linter.unusedVariables false
set_option linter.unusedSimpArgs false
namespace Go.Proofs.Ytmkoabalakfehaa
open Go.RowKit
abbrev TyTab : Ty := .st (.cons (.sl (.int .u64)) (.cons (.int .i64) .nil))
abbrev TyRec : Ty := .st (.cons (.int .u64) (.cons (.sl (.int .u8)) .nil))
abbrev TyMsg : Ty := .st (.cons (.int .i64) (.cons (.int .i64) (.cons (.int .i64) (.cons (.int .i64) (.cons (.int .i64) (.cons (.int .i64) (.cons (.sl TyRec) (.cons TyTab .nil))))))))
theorem rep_tab {w : World} {cs : List Value} {x : TyTab.den} (h : Rep w TyTab cs x) : ∃ a n c, cs = [.slice a n c, .int .i64 x.2.1] ∧ Sl .u64 w a n c x.1 ∧ IsW x.1 ∧ (Lit.int .i64 x.2.1).wf = true := by
  obtain ⟨c1, r1, rfl, _, h2, c2, r2, rfl, _, ⟨rfl, h4⟩, h5⟩ := h
  obtain ⟨a, n, c, rfl, hs⟩ := rep_sl h2
  obtain ⟨s1, s2⟩ := slT_int hs
  refine ⟨a, n, c, ?_, s1, isW_of_mem fun z hz => wf_bd_u64 (s2 z hz), h4⟩
  rw [show r2 = [] from h5]
  rfl
theorem repV_tab {w : World} {v : Value} {x : TyTab.den} (h : RepV w TyTab v x) : ∃ (a : Option Addr) (n c : Nat) (T : List Int) (E : Int), v = .agg #[.slice a n c, .int .i64 E] ∧ Sl .u64 w a n c T ∧ IsW T ∧ (Lit.int .i64 E).wf = true := by
  obtain ⟨h1, cs, rfl⟩ := h
  obtain ⟨a, n, c, h2, h3⟩ := rep_tab h1
  refine ⟨a, n, c, x.1, x.2.1, ?_, h3⟩
  simp only [Value.cells] at h2
  rw [show cs = #[.slice a n c, .int .i64 x.2.1] from Array.ext' (by simpa using h2)]
/-- a record's stamp and length -/
def rowOf (x : TyRec.den) : Int × Nat := (x.1, List.length (α := Int) x.2.1)
theorem slT_rec {w : World} {a : Option Addr} {n c : Nat} {l : List TyRec.den} (h : SlT w TyRec a n c l) : SlM w a n c (l.map rowOf) := by
  obtain ⟨h1, h2, h3, h4⟩ := h
  refine ⟨by rw [List.length_map]; exact h1, h2, h3, fun i y hy => ?_⟩
  rw [List.getElem?_map] at hy
  obtain ⟨x, hx, rfl⟩ := Option.map_eq_some_iff.1 hy
  obtain ⟨b, o, cs', rfl, hb, hl, hc, hr⟩ := h4 i x hx
  obtain ⟨c1, r1, rfl, _, ⟨rfl, hw⟩, c2, r2, rfl, _, h6, h7⟩ := hr
  obtain ⟨a', n', c', rfl, hs⟩ := rep_sl h6
  have q0 := hc 0 (.int .u64 x.1) rfl
  have q1 := hc 1 (.slice a' n' c') rfl
  have hn : List.length (α := Int) x.2.1 = n' := hs.1
  have hw' := wf_bd_u64 hw
  refine ⟨⟨hw'.1, hw'.2, by have := hs.2.1; have := hs.2.2.1; show List.length (α := Int) x.2.1 ≤ maxLen; omega⟩, b, o, a', c', rfl, ?_, ?_⟩
  · simp [Ty.size] at q0; exact q0
  · rw [← hn] at q1; simp [Ty.size] at q1; exact q1
theorem slT_msg {w : World} {a : Option Addr} {n c : Nat} {l : List TyMsg.den} (h : SlT w TyMsg a n c l) : ∃ l', SlMs w a n c l' := by
  obtain ⟨h1, h2, h3, h4⟩ := h
  have hall : ∀ i, i < n → ∃ x : MV × List (Int × Nat) × List Int, SlM w x.1.la x.1.ln x.1.lc x.2.1 ∧ Sl .u64 w x.1.ta x.1.tn x.1.tc x.2.2 ∧ IsW x.2.2 ∧ ∃ b o, a = some ⟨b, o, none⟩ ∧ ∀ j v, x.1.cs[j]? = some v → w.cell? ⟨b, o + i * 9 + j, none⟩ = some v := by
    intro i hi
    obtain ⟨b, o, cs', rfl, hb, hl, hc, hr⟩ := h4 i l[i] (List.getElem?_eq_getElem (by omega))
    clear h4
    generalize l[i] = x at *
    obtain ⟨x0, x1, x2, x3, x4, x5, x6, ⟨T, te, _⟩, _⟩ := x
    obtain ⟨_, r1, rfl, _, ⟨rfl, _⟩, _, r2, rfl, _, ⟨rfl, _⟩, _, r3, rfl, _, ⟨rfl, _⟩, _, r4, rfl, _, ⟨rfl, _⟩, _, r5, rfl, _, ⟨rfl, _⟩, _, r6, rfl, _, ⟨rfl, _⟩, _, r7, rfl, _, g7, _, r8, rfl, _, g8, g9⟩ := hr
    obtain ⟨la, ln, lc, rfl, hs⟩ := rep_sl g7
    obtain ⟨ta, tn, tc, rfl, ht, wt, _⟩ := rep_tab g8
    refine ⟨(⟨x0, x1, x2, x3, x4, x5, la, ln, lc, ta, tn, tc, te⟩, List.map rowOf x6, T), slT_rec hs, ht, wt, b, o, rfl, fun j v hv => ?_⟩
    have hq := hc j v (by rw [show r8 = [] from g9]; simpa [MV.cs] using hv)
    simpa [Ty.size] using hq
  obtain ⟨f, hf⟩ : ∃ f : Fin n → MV × List (Int × Nat) × List Int, ∀ i : Fin n, SlM w (f i).1.la (f i).1.ln (f i).1.lc (f i).2.1 ∧ Sl .u64 w (f i).1.ta (f i).1.tn (f i).1.tc (f i).2.2 ∧ IsW (f i).2.2 ∧ ∃ b o, a = some ⟨b, o, none⟩ ∧ ∀ j v, (f i).1.cs[j]? = some v → w.cell? ⟨b, o + i.1 * 9 + j, none⟩ = some v :=
    ⟨fun i => Classical.choose (hall i.1 i.2), fun i => Classical.choose_spec (hall i.1 i.2)⟩
  refine ⟨List.ofFn f, by simp, h2, h3, fun i x hx => ?_⟩
  have hi : i < n := by
    rcases Nat.lt_or_ge i n with h' | h'
    · exact h'
    · simp [List.getElem?_eq_none, h'] at hx
  simp [hi] at hx
  have := hf ⟨i, hi⟩
  rw [hx] at this
  exact this
end Go.Proofs.Ytmkoabalakfehaa
