/- Graphs, plainly: the document's cycle is the same. -/
import Derived.Test.YtboohafebkkdbaaGrM4
set_option linter.unusedVariables false
set_option linter.unusedSimpArgs false
namespace Go.Proofs.Ytboohafebkkdbaa
open Go.RowKit
theorem find_min (p : Int → Bool) : ∀ (l : List Int) (d : Int), l.Pairwise (· < ·) → l.find? p = some d → ∀ b ∈ l, b < d → p b = false
  | [], d, _, h, b, hb, _ => by cases hb
  | x :: l, d, hs, h, b, hb, hlt => by
    obtain ⟨h1, h2⟩ := List.pairwise_cons.1 hs
    rw [List.find?_cons] at h
    cases hp : p x with
    | true =>
      rw [hp] at h
      obtain rfl : x = d := by simpa using h
      rcases List.mem_cons.1 hb with rfl | hb
      · omega
      · have := h1 b hb; omega
    | false =>
      rw [hp] at h
      rcases List.mem_cons.1 hb with rfl | hb
      · exact hp
      · exact find_min p l d h2 h b hb hlt
theorem stpV_pos {N : Int} {E : List Ed} {a : Int} {i : Nat} {v : Int} (hv : 0 < v) : stpV N E a i = v ↔ dst N E a (i : Int) = v := by
  unfold stpV
  split <;> omega
/-- the next node of a cycle, and what comes ahead of it -/
theorem cyc_next {N : Int} {E : List Ed} (hg : goodG N E = true) {K s l : Nat} {c : List Int} (h : c.length + (l + 1) = K) (hc : Cyc E N K s c) :
    ∃ d : Nat, (d : Int) < N ∧ nextF N E s ((l : Int) + 1) (lastI c) = some (d : Int) ∧ Cyc E N K s (c ++ [(d : Int)]) ∧ hasE E (lastI c, (d : Int)) = true ∧ stpV N E d s = (l : Int) + 1 ∧ ∀ b : Nat, b < d → hasE E (lastI c, (b : Int)) = true → stpV N E b s ≠ (l : Int) + 1 := by
  have hs : (0 : Int) ≤ s := by omega
  have h0 : 0 < c.length := (List.getElem?_eq_some_iff.1 hc.hd).1
  have hl := hc.far _ _ (lastI_get h0)
  have hF : Far E (lastI c) (l + 2) s := by
    have := hl.2.2.2.1
    rwa [show K - (c.length - 1) = l + 2 by omega] at this
  obtain ⟨b, hb1, hb2⟩ := hF.step
  have hss := (hc.far 0 s hc.hd).2.2.2.1
  rw [Nat.sub_zero] at hss
  have hne : ∀ b : Int, dst N E b s = (l : Int) + 1 → b ≠ s := fun b hd hh => by
    subst hh
    have := far_dst hg hs hss
    omega
  have hdb : dst N E b s = (l : Int) + 1 := by have := far_dst hg hs hb2; omega
  have hbs := hne b hdb
  cases hn : nextF N E s ((l : Int) + 1) (lastI c) with
  | none =>
    have := List.find?_eq_none.1 hn b ((mem_beh hg _ _).2 hb1)
    exact absurd (decide_eq_true (show b ≠ s ∧ (farL N E b).getD (s : Int).toNat 0 = (l : Int) + 1 from ⟨hbs, hdb⟩)) (by simpa using this)
  | some d =>
    have hd1 := List.mem_of_find?_eq_some hn
    have hd2 := List.find?_some hn
    have hd3 := of_decide_eq_true hd2
    have hde := (mem_beh hg _ _).1 hd1
    have hdm := good_mem hg hde
    dsimp only at hdm
    have hdf := dst_far hg (a := d) hs (by unfold dst; omega)
    have hdk : (dst N E d s).toNat = l + 1 := by unfold dst; omega
    rw [hdk] at hdf
    obtain ⟨dn, rfl⟩ : ∃ dn : Nat, d = dn := ⟨d.toNat, by omega⟩
    refine ⟨dn, hdm.2.1.2, rfl, ⟨?_, fun i x hx => ?_, fun i x y hx hy => ?_⟩, hasE_iff.2 hde, (stpV_pos (by omega)).2 hd3.2, fun b hb hb1 hb2 => ?_⟩
    · rw [List.getElem?_append_left h0]; exact hc.hd
    · by_cases hi : i < c.length
      · rw [List.getElem?_append_left hi] at hx
        exact hc.far i x hx
      · obtain rfl : i = c.length := by
          have := (List.getElem?_eq_some_iff.1 hx).1
          simp at this; omega
        simp at hx
        subst hx
        have hw := hl.2.2.2.2.succ hde
        rw [Nat.sub_add_cancel h0] at hw
        exact ⟨by omega, hdm.2.1.1, hdm.2.1.2, by rwa [show K - c.length = l + 1 by omega], hw⟩
    · have hi1 := (List.getElem?_eq_some_iff.1 hy).1
      simp at hi1
      rw [List.getElem?_append_left hi1] at hx
      by_cases hi : i + 1 < c.length
      · rw [List.getElem?_append_left hi] at hy
        exact hc.ed i x y hx hy
      · obtain rfl : i = c.length - 1 := by omega
        rw [lastI_get h0] at hx
        rw [Nat.sub_add_cancel h0] at hy
        simp at hx hy
        subst hx hy
        exact hde
    · have hE := (mem_beh hg _ _).2 (hasE_iff.1 hb1)
      have hd := (stpV_pos (by omega)).1 hb2
      have := find_min _ _ _ (besL_srt hg (lastI c) 0 (.inl rfl)) hn _ hE (by omega)
      exact absurd (decide_eq_true (show (b : Int) ≠ s ∧ (farL N E b).getD (s : Int).toNat 0 = (l : Int) + 1 from ⟨hne _ hd, hd⟩)) (by simpa using this)
/-- the cycle's beginning, from the best start -/
theorem cyc_start {N : Int} {E : List Ed} (hg : goodG N E = true) {s K : Nat} (hb : bestF N E N.toNat = ((s : Int), (K : Int))) (hK : 0 < K) : Cyc E N K s [(s : Int)] ∧ (s : Int) < N := by
  have hN := good_N hg
  rcases bestF_spec hg N.toNat with ⟨h1, _⟩ | ⟨h1, s', h2, h3, h4, h5⟩
  · rw [hb] at h1; dsimp only at h1; omega
  · rw [hb] at h3 h4
    dsimp only at h3 h4
    obtain rfl : s = s' := by omega
    have hss : Far E s K s := by
      have h6 : dst N E s s = K := h4
      have := dst_far hg (a := (s : Int)) (b := s) (by omega) (by omega)
      rwa [h6] at this
    refine ⟨⟨rfl, fun i x hx => ?_, fun i x y hx hy => by simp at hy⟩, by omega⟩
    match i, hx with
    | 0, hx =>
      obtain rfl : (s : Int) = x := by simpa using hx
      exact ⟨by omega, by omega, by omega, hss, .zero⟩
    | i + 1, hx => simp at hx
end Go.Proofs.Ytboohafebkkdbaa
