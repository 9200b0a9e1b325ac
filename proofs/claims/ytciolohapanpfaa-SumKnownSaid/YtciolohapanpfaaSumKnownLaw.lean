/- SumKnown: the law's walk. -/
import Derived.Test.YtciolohapanpfaaSumBoth
import Derived.Test.YtciolohapanpfaaBytes
set_option linter.unusedVariables false
set_option linter.unusedSimpArgs false
namespace Go.Proofs.Ytciolohapanpfaa
open Go.RowKit
theorem of_lit (zs : List Int) (n : Nat) (m : Nat × Nat) (hn : zs.length = n) (hm : n ≤ 100) (hB : ∀ x ∈ zs, 0 ≤ x ∧ x ≤ 255) (W : World) :
    Calls Try.prog 9 #[.slice (some ⟨W.heap.size, 0, none⟩) n n] (W.alloc (.cells (zs.map (Value.int .u8)).toArray 5 m)) fun e w' => e = .returned (.int .u32 (sumOf zs)) ∧ (W.alloc (.cells (zs.map (Value.int .u8)).toArray 5 m)) = w' :=
  sum_of _ n n zs _ (sl_lit .u8 W 5 m zs n hn (by unfold maxLen; omega)) (isB_of_mem hB)
set_option maxHeartbeats 2000000 in
theorem sumKnown_walk (w : World) : Calls Try.prog 5 #[] w fun e w' => e = .returned (.bool true) ∧ Below w.heap.size w w' := by
  have kc := fun (w : World) (C : Array Value) (n c : Nat) => Lib.run_convert_bytes_const (P := Try.prog) w 22 5 C n c Try.underlying22 Try.underlying5
  have o1 := Lib.hid (of_lit [111, 117, 116] 3 (3, 4) rfl (by omega) (by decide))
  have o2 := Lib.hid (of_lit [114, 105, 100, 101, 114] 5 (5, 6) rfl (by omega) (by decide))
  have o3 := Lib.hid (of_lit [97, 98, 99] 3 (3, 4) rfl (by omega) (by decide))
  have o4 := Lib.hid (of_lit [111, 117, 116, 114, 105, 100, 101, 114] 8 (8, 9) rfl (by omega) (by decide))
  have o5 := Lib.hid (of_lit [97, 120, 99] 3 (3, 4) rfl (by omega) (by decide))
  go_enter Try.func5, Try.ntmps5
  go_wp2_with fail
  refine (awake_any _).mono ?_
  rintro e w1 ⟨rfl, k1⟩
  have K1 : Kept w w1 := k1
  clear k1
  go_wp2_with fail
  refine (sum_on 65521 none 0 0 [] _ (by omega) (by omega) (sl_nil _ _) (by intro i; simp)).mono ?_
  rintro e w' ⟨rfl, rfl⟩
  rw [show onR 65521 [] = (0, false) by decide +kernel]
  go_wp2_with fail
  refine (sum_join 1 _ 0 _ (by omega) (by omega) (by omega) (by omega) (by omega)).mono ?_
  rintro e w' ⟨rfl, rfl⟩
  rw [show joinR 1 4293984256 0 = (0, false) by decide +kernel]
  go_wp2_with fail
  refine (sum_join 1 1 (-1) _ (by omega) (by omega) (by omega) (by omega) (by omega)).mono ?_
  rintro e w' ⟨rfl, rfl⟩
  rw [show joinR 1 1 (-1) = (0, false) by decide +kernel]
  go_wp2_with fail
  refine (sum_turn 1 0 0 0 0 _ (by omega) (by omega) (by omega) (by omega) (by omega) (by omega) (by omega)).mono ?_
  rintro e w' ⟨rfl, rfl⟩
  rw [show turnR 1 0 0 0 0 = (0, false) by decide +kernel]
  go_wp2_with fail
  refine (sum_turn 1 5 5 0 0 _ (by omega) (by omega) (by omega) (by omega) (by omega) (by omega) (by omega)).mono ?_
  rintro e w' ⟨rfl, rfl⟩
  rw [show turnR 1 5 5 0 0 = (0, false) by decide +kernel]
  go_wp2_with fail
  refine (sum_turn 1 5 (-1) 0 0 _ (by omega) (by omega) (by omega) (by omega) (by omega) (by omega) (by omega)).mono ?_
  rintro e w' ⟨rfl, rfl⟩
  rw [show turnR 1 5 (-1) 0 0 = (0, false) by decide +kernel]
  go_wp2_with fail
  refine (o1.out w1).mono ?_
  rintro e w2 ⟨rfl, hw2⟩
  have K2 : Kept w w2 := hw2 ▸ (K1.only.alloc _).kept
  clear hw2 o1
  rw [show sumOf [111, 117, 116] = 44958041 by decide +kernel]
  go_wp2_with fail
  refine (o2.out w2).mono ?_
  rintro e w3 ⟨rfl, hw2⟩
  have K3 : Kept w w3 := hw2 ▸ (K2.only.alloc _).kept
  clear hw2 o2
  rw [show sumOf [114, 105, 100, 101, 114] = 105579031 by decide +kernel]
  go_wp2_with fail
  refine (sum_join 44958041 105579031 5 _ (by omega) (by omega) (by omega) (by omega) (by omega)).mono ?_
  rintro e w' ⟨rfl, rfl⟩
  rw [show joinR 44958041 105579031 5 = (263258991, true) by decide +kernel]
  go_wp2_with fail
  refine (o3.out w3).mono ?_
  rintro e w4 ⟨rfl, hw2⟩
  have K4 : Kept w w4 := hw2 ▸ (K3.only.alloc _).kept
  clear hw2 o3
  rw [show sumOf [97, 98, 99] = 38600999 by decide +kernel]
  go_wp2_with fail
  refine (sum_turn 38600999 3 1 98 120 _ (by omega) (by omega) (by omega) (by omega) (by omega) (by omega) (by omega)).mono ?_
  rintro e w' ⟨rfl, rfl⟩
  rw [show turnR 38600999 3 1 98 120 = (41484605, true) by decide +kernel]
  go_wp2_with fail
  refine (sum_good 65521 _ (by omega) (by omega)).mono ?_
  rintro e w' ⟨rfl, rfl⟩
  rw [show goodB 65521 = false by decide +kernel]
  go_wp2_with fail
  refine (sum_good 4293984256 _ (by omega) (by omega)).mono ?_
  rintro e w' ⟨rfl, rfl⟩
  rw [show goodB 4293984256 = false by decide +kernel]
  go_wp2_with fail
  refine (sum_good 65520 _ (by omega) (by omega)).mono ?_
  rintro e w' ⟨rfl, rfl⟩
  rw [show goodB 65520 = true by decide +kernel]
  go_wp2_with fail
  refine (o4.out w4).mono ?_
  rintro e w5 ⟨rfl, hw2⟩
  have K5 : Kept w w5 := hw2 ▸ (K4.only.alloc _).kept
  clear hw2 o4
  rw [show sumOf [111, 117, 116, 114, 105, 100, 101, 114] = 263258991 by decide +kernel]
  go_wp2_with fail
  refine (o5.out w5).mono ?_
  rintro e w6 ⟨rfl, hw2⟩
  have K6 : Kept w w6 := hw2 ▸ (K5.only.alloc _).kept
  clear hw2 o5
  rw [show sumOf [97, 120, 99] = 41484605 by decide +kernel]
  go_wp2
  go_ret
  exact ⟨rfl, K6⟩
end Go.Proofs.Ytciolohapanpfaa
