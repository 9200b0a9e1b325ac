/- The document's number: the walk. -/
import Derived.Test.YtdiajdbjlhfkpaaDoorStNumb
set_option linter.unusedVariables false
set_option linter.unusedSimpArgs false
namespace Go.Proofs.YtdiajdbjlhfkpaaDoor
open Go.RowKit
theorem ne_isE (s : ByteArray) (h : 0 < s.size) : s.toList.isEmpty = false := by
  rw [toList_data]
  cases hl : s.data.toList with
  | nil =>
    have : s.data.toList.length = s.size := rfl
    rw [hl] at this
    simp at this
    omega
  | cons a l => rfl
set_option maxRecDepth 100000 in
set_option maxHeartbeats 4000000 in
theorem rs_number_a (w : World) : Calls Tryd.prog 35 #[.string ⟨#[]⟩] w fun e w' => e = .returned (.tuple #[.int .i64 0, .bool false]) ∧ w = w' := by
  go_enter Tryd.func35, Tryd.ntmps35
  go_wp2_with fail
  exact bodyPost_ret (v := .tuple #[.int .i64 0, .bool false]) (by simp [results, Tryd.results35, go_sem]) rfl ⟨rfl, rfl⟩
set_option maxRecDepth 100000 in
set_option maxHeartbeats 4000000 in
theorem rs_number_b (s : ByteArray) (h : 15 < s.size) (w : World) : Calls Tryd.prog 35 #[.string s] w fun e w' => e = .returned (.tuple #[.int .i64 0, .bool false]) ∧ w = w' := by
  have hE := ne_isE s (by omega)
  have hl : (15 : Int) < s.size := by omega
  go_enter Tryd.func35, Tryd.ntmps35
  go_wp2_with fail
  exact bodyPost_ret (v := .tuple #[.int .i64 0, .bool false]) (by simp [results, Tryd.results35, go_sem]) rfl ⟨rfl, rfl⟩
set_option maxRecDepth 100000 in
set_option maxHeartbeats 4000000 in
theorem rs_number_c (s : ByteArray) (h : 1 < s.size) (h2 : s.size ≤ 15) (h3 : s.data.toList.head? = some 48) (w : World) : Calls Tryd.prog 35 #[.string s] w fun e w' => e = .returned (.tuple #[.int .i64 0, .bool false]) ∧ w = w' := by
  have hE := ne_isE s (by omega)
  have hl : (s.size : Int) ≤ 15 := by omega
  have hl1 : (1 : Int) < s.size := by omega
  have hs0 : 0 < s.size := by omega
  have hc : (((s[0]'hs0).toNat : Int) == 48) = true := by
    have : s.data.toList.head? = some (s[0]'hs0) := by
      rw [List.head?_eq_getElem?, List.getElem?_eq_getElem (by show 0 < s.data.size; exact hs0)]
      rfl
    rw [this] at h3
    injection h3 with h3
    rw [h3]
    rfl
  go_enter Tryd.func35, Tryd.ntmps35
  go_wp2_with fail
  exact bodyPost_ret (v := .tuple #[.int .i64 0, .bool false]) (by simp [results, Tryd.results35, go_sem]) rfl ⟨rfl, rfl⟩
end Go.Proofs.YtdiajdbjlhfkpaaDoor
