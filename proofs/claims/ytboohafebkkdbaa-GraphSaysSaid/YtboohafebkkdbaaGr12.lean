/- Graphs: are rows of edges alike. -/
import Derived.Test.YtboohafebkkdbaaGrI
set_option linter.unusedVariables false
set_option linter.unusedSimpArgs false
namespace Go.Proofs.Ytboohafebkkdbaa
open Go.RowKit
set_option maxRecDepth 100000 in
set_option maxHeartbeats 4000000 in
theorem edges_law {w : World} {a b : Option Addr} {n m c d : Nat} {A B : List Ed} (hA : SlE w a n c A) (hB : SlE w b m d B) (hn : n ≤ 1000) (hm : m ≤ 1000) :
    Calls Try.prog 24 #[.slice a n c, .slice b m d] w fun e w' => e = .returned (.bool (A == B)) ∧ Dr w w' := by
  have hla := hA.1
  have hlb := hB.1
  have hnc := hA.2.1
  have hmd := hB.2.1
  have HA := Lib.hid hA
  have HB := Lib.hid hB
  have HN := run_neqAr
  clear hA hB
  by_cases hnm : n = m
  · subst hnm
    have ht : ((n : Int) != n) = false := by simp
    go_enter Try.func24, Try.ntmps24
    go_wp2_with fail
    go_loopw [5] (fun i wr => ∃ j : Nat, i = .int .i64 (j : Nat) ∧ j ≤ n ∧ Hid (Dr w wr) ∧ Hid (A.take j = B.take j)) (fun i _ => n - (intOf i).toNat)
    case atStart => exact ⟨0, rfl, by omega, Dr.refl w, rfl⟩
    case round =>
      obtain ⟨j, rfl, hj, HD, HE⟩ := hrel
      by_cases hlt : j < n
      · have hlt' : (j : Int) < n := by omega
        obtain ⟨⟨xa, xb⟩, hx⟩ : ∃ x, A[j]? = some x := ⟨_, List.getElem?_eq_getElem (by omega)⟩
        obtain ⟨⟨ya, yb⟩, hy⟩ : ∃ x, B[j]? = some x := ⟨_, List.getElem?_eq_getElem (by omega)⟩
        obtain ⟨ba, oa, rfl, p0, p1⟩ := (HA.out.kept ((Kept.refl w).dr HD.out)).at hx
        obtain ⟨bb, ob, rfl, r0, r1⟩ := (HB.out.kept ((Kept.refl w).dr HD.out)).at hy
        dsimp only at p0 p1 r0 r1
        have hXY : Hid (A[j]? = some (xa, xb) ∧ B[j]? = some (ya, yb)) := ⟨hx, hy⟩
        clear hx hy
        cases hxy : edEq xa xb ya yb with
        | true =>
          have HE2 : Hid (A.take (j + 1) = B.take (j + 1)) := by
            unfold Hid
            have := of_decide_eq_true hxy
            rw [List.take_add_one, List.take_add_one, HE.out, hXY.out.1, hXY.out.2, this.1, this.2]
          go_wp2_with fail
          go_quiet (fail)
          go_wp2_with fail
          go_roundw
          case rel => exact ⟨j + 1, by go_num, by omega, HD.out.trans ((Dr.refl _).drewN _), HE2.out⟩
          case measure => simp [intOf]; omega
        | false =>
          have HF : Hid ((A == B) = false) := by
            unfold Hid
            rw [beq_eq_false_iff_ne]
            rintro rfl
            have := hXY.out.1.symm.trans hXY.out.2
            injection this with this
            injection this with e1 e2
            exact of_decide_eq_false hxy ⟨e1, e2⟩
          go_wp2_with fail
          go_quiet (fail)
          go_wp2_with fail
          go_ret
          exact ⟨ret_bool HF.out.symm, HD.out.trans ((Dr.refl _).drewN _)⟩
      · have hge : (n : Int) ≤ j := by omega
        obtain rfl : j = n := by omega
        have HT : Hid ((A == B) = true) := by
          unfold Hid
          have := HE.out
          rw [List.take_of_length_le (by omega), List.take_of_length_le (by omega)] at this
          simp [this]
        go_wp2_with fail
        go_ret
        exact ⟨ret_bool HT.out.symm, HD.out⟩
  · have ht : ((n : Int) != m) = true := by simp; omega
    have HF : Hid ((A == B) = false) := by
      unfold Hid
      rw [beq_eq_false_iff_ne]
      rintro rfl
      omega
    go_enter Try.func24, Try.ntmps24
    go_wp2_with fail
    go_ret
    exact ⟨ret_bool HF.out.symm, Dr.refl w⟩
end Go.Proofs.Ytboohafebkkdbaa
