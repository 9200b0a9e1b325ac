/- ShipFits, the plain law of its tail. -/
import Derived.Test.YtmkoabalakfehaaShipFitsMath
set_option linter.unusedVariables false
set_option linter.unusedSimpArgs false
namespace Go.Proofs.Ytmkoabalakfehaa
open Go.RowKit
theorem tOk_first {T : List Int} {E e : Int} (h : TOk T E e) : firstI T E = 0 := by
  unfold firstI
  split
  · rename_i hn; exact h.2.2.2.2 hn
  · rename_i hn; exact h.2.2.2.1 hn
theorem fits_make {T : List Int} {E e cut : Int} {k : Nat} (h : TOk T E e) (he : 1 ≤ e) (he2 : e ≤ 500) (hE : E ≤ 500) (c0 : 0 ≤ cut) (c1 : cut ≤ E) (hk : CutK T cut k) (i : Nat) (hi : i ≤ 400) :
    ∃ q p th, makeE ⟨0, e + 2, cut, 0⟩ T E [] = 0 ∧ (∀ a c, makeM ⟨0, e + 2, cut, 0⟩ T E [] a c = ⟨1, 0, 1, e + 2, cut, q, a, 0, c, none, 0, 0, 0⟩) ∧ atI (othT T k e cut i) (cut + i) (cut - 1) = (p, th) ∧ th = decide (0 < cut) ∧ (th = true → p = q) := by
  have hoff : offM ⟨0, e + 2, cut, 0⟩ E = cut := by unfold offM; dsimp only; omega
  obtain ⟨q, hq, q0, q1, q2⟩ : ∃ q, prevM ⟨0, e + 2, cut, 0⟩ T E = q ∧ 0 ≤ q ∧ q ≤ e ∧ (0 < cut ∨ q = 0) := by
    unfold prevM
    rw [hoff]
    by_cases hc : 0 < cut
    · obtain ⟨p, h1, h2, h3, h4⟩ := oth_at h he he2 hE hc c1 hk i hi
      rw [if_pos hc, h1]
      exact ⟨p, rfl, h3, h4, .inl hc⟩
    · rw [if_neg hc]; exact ⟨0, rfl, Int.le_refl _, by omega, .inr rfl⟩
  have hok : okM ⟨0, e + 2, cut, 0⟩ T E [] = true := by
    unfold okM mkM
    rw [hoff, hq]
    unfold goodM
    simp [pickQ, rvM, RowF, IntKind.wrap, IntKind.bits, IntKind.signed]
    omega
  obtain ⟨p, th, h1, h2, h3⟩ : ∃ p th, atI (othT T k e cut i) (cut + i) (cut - 1) = (p, th) ∧ th = decide (0 < cut) ∧ (th = true → p = q) := by
    by_cases hc : 0 < cut
    · obtain ⟨p, h1, h2, h3, h4⟩ := oth_at h he he2 hE hc c1 hk i hi
      refine ⟨p, true, h2, by simp [hc], fun _ => ?_⟩
      unfold prevM at hq
      rw [hoff, if_pos hc, h1] at hq
      exact hq
    · have h0 : cut = 0 := by omega
      have hg := (oth_good h he he2 hE c0 c1 hk i hi).1
      have h1 : 0 ≤ firstI (othT T k e cut i) (cut + i) := by
        unfold firstI
        split
        · omega
        · unfold ofI; omega
      refine ⟨0, false, ?_, by simp [hc], fun h => by cases h⟩
      unfold atI
      rw [if_neg (by omega)]
  refine ⟨q, p, th, ?_, fun a c => ?_, h1, h2, h3⟩
  · unfold makeE; rw [if_pos ⟨h.1, hok⟩]
  · unfold makeM
    rw [if_pos ⟨h.1, hok⟩]
    unfold mkM
    rw [hoff, hq]
    rfl
theorem fits_take {T : List Int} {E e cut : Int} {k : Nat} (h : TOk T E e) (he : 1 ≤ e) (he2 : e ≤ 500) (hE : E ≤ 500) (c0 : 0 ≤ cut) (c1 : cut ≤ E) (hk : CutK T cut k) (i : Nat) (hi : i ≤ 400) (hl : T.length ≤ 30) (a : Option Addr) (n c : Nat) (hn : (othT T k e cut i).length = n) :
    takeS ⟨0, e + 2, E, 0⟩ (decide (GoodT T E)) (goodM ⟨3, 1, 0, e + 2, 0, 0, none, 0, 0, a, n, c, cut + i⟩ [] (othT T k e cut i)) E ⟨3, 1, 0, e + 2, 0, 0, none, 0, 0, a, n, c, cut + i⟩ (meetI T E (othT T k e cut i) (cut + i)) = (⟨0, e + 2, cut, 0⟩, 0) := by
  have hol := oth_len T k e cut i
  have hg := (oth_good h he he2 hE c0 c1 hk i hi).1
  rw [oth_meet h he he2 hE c0 c1 hk i hi]
  have hgm : goodM ⟨3, 1, 0, e + 2, 0, 0, none, 0, 0, a, n, c, cut + i⟩ [] (othT T k e cut i) = true := by
    unfold goodM
    simp [hg]
    omega
  rw [hgm]
  unfold takeS
  simp [h.1]
end Go.Proofs.Ytmkoabalakfehaa
