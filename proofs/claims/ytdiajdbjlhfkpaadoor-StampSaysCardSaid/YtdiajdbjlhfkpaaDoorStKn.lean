/- StampKnown. -/
import Derived.Test.YtdiajdbjlhfkpaaDoorStParse
import Derived.Test.YtdiajdbjlhfkpaaDoorStVars
import Derived.Test.YtdiajdbjlhfkpaaDoorStLen
set_option linter.unusedVariables false
set_option linter.unusedSimpArgs false
namespace Go.Proofs.YtdiajdbjlhfkpaaDoor
open Go.RowKit
def badT : Array Value := #[.string ⟨#[]⟩, .string ⟨#[46]⟩, .string ⟨#[49]⟩, .string ⟨#[49, 46]⟩, .string ⟨#[46, 49]⟩, .string ⟨#[48, 49, 46, 49]⟩, .string ⟨#[49, 46, 48, 49]⟩, .string ⟨#[49, 46, 49, 46, 49]⟩, .string ⟨#[45, 49, 46, 49]⟩, .string ⟨#[49, 48, 52, 56, 53, 55, 54, 46, 48]⟩, .string ⟨#[48, 46, 49, 55, 53, 57, 50, 49, 56, 54, 48, 52, 52, 52, 49, 54]⟩, .string ⟨#[32, 49, 46, 49]⟩]
def badB : List (List UInt8) := [[], [46], [49], [49, 46], [46, 49], [48, 49, 46, 49], [49, 46, 48, 49], [49, 46, 49, 46, 49], [45, 49, 46, 49], [49, 48, 52, 56, 53, 55, 54, 46, 48], [48, 46, 49, 55, 53, 57, 50, 49, 56, 54, 48, 52, 52, 52, 49, 54], [32, 49, 46, 49]]
def badO : Obj := .cells badT 9 (0, 0)
theorem bad_none : ∀ i : Fin 12, prsF (badB.getD i.val []) = none := by decide +kernel
theorem bad_row (w : World) (i : Nat) (hi : i < 12) : ∃ t : ByteArray, (w.alloc badO).cell? ⟨w.heap.size, i, none⟩ = some (.string t) ∧ t.size ≤ 281474976710656 ∧ prsF t.data.toList = none := by
  have hB : (w.alloc badO).heap[w.heap.size]? = some badO := heap_alloc_new w badO
  have hp := bad_none ⟨i, hi⟩
  match i, hi with
  | 0, _ => exact ⟨⟨#[]⟩, at_cell hB 0 _ rfl, by decide, hp⟩
  | 1, _ => exact ⟨⟨#[46]⟩, at_cell hB 1 _ rfl, by decide, hp⟩
  | 2, _ => exact ⟨⟨#[49]⟩, at_cell hB 2 _ rfl, by decide, hp⟩
  | 3, _ => exact ⟨⟨#[49, 46]⟩, at_cell hB 3 _ rfl, by decide, hp⟩
  | 4, _ => exact ⟨⟨#[46, 49]⟩, at_cell hB 4 _ rfl, by decide, hp⟩
  | 5, _ => exact ⟨⟨#[48, 49, 46, 49]⟩, at_cell hB 5 _ rfl, by decide, hp⟩
  | 6, _ => exact ⟨⟨#[49, 46, 48, 49]⟩, at_cell hB 6 _ rfl, by decide, hp⟩
  | 7, _ => exact ⟨⟨#[49, 46, 49, 46, 49]⟩, at_cell hB 7 _ rfl, by decide, hp⟩
  | 8, _ => exact ⟨⟨#[45, 49, 46, 49]⟩, at_cell hB 8 _ rfl, by decide, hp⟩
  | 9, _ => exact ⟨⟨#[49, 48, 52, 56, 53, 55, 54, 46, 48]⟩, at_cell hB 9 _ rfl, by decide, hp⟩
  | 10, _ => exact ⟨⟨#[48, 46, 49, 55, 53, 57, 50, 49, 56, 54, 48, 52, 52, 52, 49, 54]⟩, at_cell hB 10 _ rfl, by decide, hp⟩
  | 11, _ => exact ⟨⟨#[32, 49, 46, 49]⟩, at_cell hB 11 _ rfl, by decide, hp⟩
set_option maxHeartbeats 1000000 in
theorem st_narrow_no (u : Int) (b : Int) (w : World) (h : b < 1 ∨ 64 < b) :
    Calls Tryd.prog 17 #[.int .u64 u, .int .i64 b] w fun e w' => e = .returned (.tuple #[.int .u64 0, .bool false]) ∧ w = w' := by
  have h' : b < 1 ∨ (1 ≤ b ∧ 64 < b) := by omega
  rcases h' with h | ⟨h1, h2⟩
  all_goals
    go_enter Tryd.func17, Tryd.ntmps17
    go_wp2
    exact bodyPost_ret (v := .tuple #[.int .u64 0, .bool false]) (by simp [results, Tryd.results17, go_sem]) rfl ⟨rfl, rfl⟩
set_option maxHeartbeats 1000000 in
theorem st_wide_no (u : Int) (b : Int) (w : World) (h : b < 1 ∨ 64 < b) :
    Calls Tryd.prog 11 #[.int .u64 u, .int .i64 b] w fun e w' => e = .returned (.int .i64 0) ∧ w = w' := by
  have h' : b < 1 ∨ (1 ≤ b ∧ 64 < b) := by omega
  rcases h' with h | ⟨h1, h2⟩
  all_goals
    go_enter Tryd.func11, Tryd.ntmps11
    go_wp2
    go_ret
    exact ⟨rfl, rfl⟩
theorem stamp_up_no (s : Int) (w : World) (h0 : 0 ≤ s) (h1 : s ≤ 18446744073709551615) (h : ¬ epI s + 1 ≤ 1048575) :
    Calls Tryd.prog 16 #[.int .u64 s] w fun E w' => E = .returned (.tuple #[.int .u64 0, .bool false]) ∧ w = w' := by
  have hE := Lib.hid (stamp_epoch s w h0 h1)
  have hO := Lib.hid (stamp_off s w h0 h1)
  have e0 : 0 ≤ epI s ∧ epI s ≤ 1048575 := by unfold epI; omega
  have o0 : 0 ≤ ofI s ∧ ofI s ≤ 17592186044415 := by unfold ofI; omega
  have hP := Lib.hid (stamp_pack_no (epI s + 1) (ofI s) w (by omega))
  have hw : IntKind.i64.wrap (epI s + 1) = epI s + 1 := by rw [IntKind.wrap_i64]; omega
  generalize epI s = x at *
  generalize ofI s = y at *
  go_enter Tryd.func16, Tryd.ntmps16
  go_wp2_with fail
  refine hE.out.mono ?_
  rintro e w' ⟨rfl, rfl⟩
  go_wp2_with fail
  refine hO.out.mono ?_
  rintro e w' ⟨rfl, rfl⟩
  go_wp2_with fail
  refine hP.out.mono ?_
  rintro e w' ⟨rfl, rfl⟩
  go_wp2
  exact bodyPost_ret (v := .tuple #[.int .u64 0, .bool false]) (by simp [results, Tryd.results16, go_sem]) rfl ⟨rfl, rfl⟩
end Go.Proofs.YtdiajdbjlhfkpaaDoor
