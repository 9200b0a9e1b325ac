/- The wheel: the comparison of dues. -/
import Derived.Test.YtneehfngphpccaaWh1
import Derived.Deep.RegionHeld3
import Derived.Deep.CutRange
set_option linter.unusedVariables false
set_option linter.unusedSimpArgs false
namespace Go.Proofs.Ytneehfngphpccaa
open Go.RowKit
def cmpI (x y : Int) : Int := if x < y then -1 else if y < x then 1 else 0
theorem cmp_nan64 (x : Int) (w : World) : Calls Try.prog 32 #[.int .i64 x] w fun e w' => e = .returned (.bool false) ∧ w = w' := by
  go_enter Try.func32, Try.ntmps32
  go_wp2
  go_ret
  exact ⟨by simp, rfl⟩
theorem cmp_nan (x : Int) (w : World) : Calls Try.prog 33 #[.int .i64 x] w fun e w' => e = .returned (.bool false) ∧ w = w' := by
  go_enter Try.func33, Try.ntmps33
  go_wp2
  go_ret
  exact ⟨by simp, rfl⟩
theorem cmp_64 (x y : Int) (w : World) : Calls Try.prog 28 #[.int .i64 x, .int .i64 y] w fun e w' => e = .returned (.int .i64 (cmpI x y)) ∧ w = w' := by
  have H := fun v => Lib.hid (cmp_nan64 v w)
  by_cases h1 : x < y
  · have hc : cmpI x y = -1 := if_pos h1
    go_enter Try.func28, Try.ntmps28
    go_wp2_with (go_at_call 32; refine (H _).out.mono ?_; rintro e V ⟨rfl, rfl⟩)
    go_ret
    exact ⟨ret_int hc.symm, rfl⟩
  · by_cases h2 : y < x
    · have hc : cmpI x y = 1 := by unfold cmpI; rw [if_neg h1, if_pos h2]
      go_enter Try.func28, Try.ntmps28
      go_wp2_with (go_at_call 32; refine (H _).out.mono ?_; rintro e V ⟨rfl, rfl⟩)
      go_ret
      exact ⟨ret_int hc.symm, rfl⟩
    · have hc : cmpI x y = 0 := by unfold cmpI; rw [if_neg h1, if_neg h2]
      go_enter Try.func28, Try.ntmps28
      go_wp2_with (go_at_call 32; refine (H _).out.mono ?_; rintro e V ⟨rfl, rfl⟩)
      go_ret
      exact ⟨ret_int hc.symm, rfl⟩
theorem cmp_int (x y : Int) (w : World) : Calls Try.prog 29 #[.int .i64 x, .int .i64 y] w fun e w' => e = .returned (.int .i64 (cmpI x y)) ∧ w = w' := by
  have H := fun v => Lib.hid (cmp_nan v w)
  by_cases h1 : x < y
  · have hc : cmpI x y = -1 := if_pos h1
    go_enter Try.func29, Try.ntmps29
    go_wp2_with (go_at_call 33; refine (H _).out.mono ?_; rintro e V ⟨rfl, rfl⟩)
    go_ret
    exact ⟨ret_int hc.symm, rfl⟩
  · by_cases h2 : y < x
    · have hc : cmpI x y = 1 := by unfold cmpI; rw [if_neg h1, if_pos h2]
      go_enter Try.func29, Try.ntmps29
      go_wp2_with (go_at_call 33; refine (H _).out.mono ?_; rintro e V ⟨rfl, rfl⟩)
      go_ret
      exact ⟨ret_int hc.symm, rfl⟩
    · have hc : cmpI x y = 0 := by unfold cmpI; rw [if_neg h1, if_neg h2]
      go_enter Try.func29, Try.ntmps29
      go_wp2_with (go_at_call 33; refine (H _).out.mono ?_; rintro e V ⟨rfl, rfl⟩)
      go_ret
      exact ⟨ret_int hc.symm, rfl⟩
/-- the first that is not 0 -/
def orL : List Int → Int
  | [] => 0
  | x :: l => if x = 0 then orL l else x
set_option maxHeartbeats 1000000 in
theorem cmp_or (a : Option Addr) (n c : Nat) (zs : List Int) (w : World) (hS : Sl .i64 w a n c zs) (hn : n ≤ 1000) : Calls Try.prog 27 #[.slice a n c] w fun e w' => e = .returned (.int .i64 (orL zs)) ∧ w = w' := by
  have hl := hS.1
  have HS := Lib.hid hS
  clear hS
  go_enter Try.func27, Try.ntmps27
  go_wp2_with fail
  go_loopw [8] (fun i wr => ∃ j : Nat, i = .int .i64 (j : Nat) ∧ j ≤ n ∧ w = wr ∧ Hid (orL zs = orL (zs.drop j))) (fun i _ => n - (intOf i).toNat)
  case atStart => exact ⟨0, rfl, by omega, rfl, rfl⟩
  case round =>
    obtain ⟨j, rfl, hj, rfl, HE⟩ := hrel
    by_cases hlt : j < n
    · have hlt' : (j : Int) < n := by omega
      obtain ⟨b, o, v, rfl, hc, hv⟩ := HS.out.at j hlt
      have hdr : zs.drop j = v :: zs.drop (j + 1) := by
        rw [List.drop_eq_getElem_cons (by omega), hv.out, List.getD_eq_getElem?_getD, List.getElem?_eq_getElem (by omega)]
        rfl
      have HE2 := HE.out
      rw [hdr] at HE2
      by_cases h0 : v = 0
      · subst h0
        have HE3 : Hid (orL zs = orL (zs.drop (j + 1))) := by unfold Hid; rw [HE2]; simp [orL]
        clear hdr HE2 HE
        go_wp2
        go_roundw
        case rel => exact ⟨j + 1, by go_num, by omega, by first | exact rfl | trivial, HE3.out⟩
        case measure => simp [intOf]; omega
      · have HE3 : Hid (orL zs = v) := by unfold Hid; rw [HE2]; simp [orL, h0]
        have h0' : (v == 0) = false := by simp [h0]
        clear hdr HE2 HE
        go_wp2
        go_ret
        exact ⟨ret_int HE3.out.symm, rfl⟩
    · have hge : (n : Int) ≤ j := by omega
      obtain rfl : j = n := by omega
      have HE3 : Hid (orL zs = 0) := by unfold Hid; rw [HE.out, List.drop_of_length_le (by omega)]; rfl
      go_wp2
      go_ret
      exact ⟨ret_int HE3.out.symm, rfl⟩
/-- a due: whose it is, when it comes -/
abbrev Du := Int × Int × Int
def duV (x : Du) : Value := .agg #[.int .i64 x.1, .int .i64 x.2.1, .int .i64 x.2.2]
def cmpD (x y : Du) : Int := orL [cmpI x.2.2 y.2.2, cmpI x.1 y.1, cmpI x.2.1 y.2.1]
set_option maxRecDepth 100000 in
set_option maxHeartbeats 4000000 in
theorem wh_cmp (x y : Du) (w : World) : Calls Try.prog 26 #[duV x, duV y] w fun e w' => e = .returned (.int .i64 (cmpD x y)) ∧ w' = ((w.alloc (.cells #[.int .i64 x.1, .int .i64 x.2.1, .int .i64 x.2.2] 32)).alloc (.cells #[.int .i64 y.1, .int .i64 y.2.1, .int .i64 y.2.2] 32)).drew.alloc (.cells #[.int .i64 (cmpI x.2.2 y.2.2), .int .i64 (cmpI x.1 y.1), .int .i64 (cmpI x.2.1 y.2.1)] 3) := by
  obtain ⟨a, b, c⟩ := x
  obtain ⟨a', b', c'⟩ := y
  unfold duV
  dsimp only
  have h0 := heap_keep (heap_alloc_new w (.cells #[.int .i64 a, .int .i64 b, .int .i64 c] 32)) (.cells #[.int .i64 a', .int .i64 b', .int .i64 c'] 32)
  have h1 : ((w.alloc (.cells #[.int .i64 a, .int .i64 b, .int .i64 c] 32)).alloc (.cells #[.int .i64 a', .int .i64 b', .int .i64 c'] 32)).heap[w.heap.size + 1]? = some (.cells #[.int .i64 a', .int .i64 b', .int .i64 c'] 32 (0, 0)) := by
    have := heap_alloc_new (w.alloc (.cells #[.int .i64 a, .int .i64 b, .int .i64 c] 32)) (.cells #[.int .i64 a', .int .i64 b', .int .i64 c'] 32)
    simpa using this
  have a0 : World.cell? _ ⟨w.heap.size, 0, none⟩ = some (.int .i64 a) := at_cell h0 0 _ rfl
  have a1 : World.cell? _ ⟨w.heap.size, 1, none⟩ = some (.int .i64 b) := at_cell h0 1 _ rfl
  have a2 : World.cell? _ ⟨w.heap.size, 2, none⟩ = some (.int .i64 c) := at_cell h0 2 _ rfl
  have b0 : World.cell? _ ⟨w.heap.size + 1, 0, none⟩ = some (.int .i64 a') := at_cell h1 0 _ rfl
  have b1 : World.cell? _ ⟨w.heap.size + 1, 1, none⟩ = some (.int .i64 b') := at_cell h1 1 _ rfl
  have b2 : World.cell? _ ⟨w.heap.size + 1, 2, none⟩ = some (.int .i64 c') := at_cell h1 2 _ rfl
  clear h0 h1
  have H64 := Lib.hid cmp_64
  have HI := Lib.hid cmp_int
  go_enter Try.func26, Try.ntmps26
  go_upto_region 1 with fail
  generalize hY : World.alloc (World.alloc w _) _ = Y at *
  have c0 : Hid (∀ V, Dr Y V → V.cell? ⟨w.heap.size, 0, none⟩ = some (.int .i64 a) ∧ V.cell? ⟨w.heap.size, 1, none⟩ = some (.int .i64 b) ∧ V.cell? ⟨w.heap.size, 2, none⟩ = some (.int .i64 c) ∧ V.cell? ⟨w.heap.size + 1, 0, none⟩ = some (.int .i64 a') ∧ V.cell? ⟨w.heap.size + 1, 1, none⟩ = some (.int .i64 b') ∧ V.cell? ⟨w.heap.size + 1, 2, none⟩ = some (.int .i64 c')) := fun V d => by rw [d.cell, d.cell, d.cell, d.cell, d.cell, d.cell]; exact ⟨a0, a1, a2, b0, b1, b2⟩
  have KY : Kept Y Y.drew := (Kept.refl _).dr ⟨1, rfl⟩
  have HC : Hid (∀ Z, Kept Y Z → Z.cell? ⟨w.heap.size, 0, none⟩ = some (.int .i64 a) ∧ Z.cell? ⟨w.heap.size, 1, none⟩ = some (.int .i64 b) ∧ Z.cell? ⟨w.heap.size, 2, none⟩ = some (.int .i64 c) ∧ Z.cell? ⟨w.heap.size + 1, 0, none⟩ = some (.int .i64 a') ∧ Z.cell? ⟨w.heap.size + 1, 1, none⟩ = some (.int .i64 b') ∧ Z.cell? ⟨w.heap.size + 1, 2, none⟩ = some (.int .i64 c')) := fun Z k => ⟨k.cel a0, k.cel a1, k.cel a2, k.cel b0, k.cel b1, k.cel b2⟩
  have HOr := Lib.hid (cmp_or (some ⟨Y.heap.size, 0, none⟩) 3 3 [cmpI c c', cmpI a a', cmpI b b'] (Y.drew.alloc (.cells #[.int .i64 (cmpI c c'), .int .i64 (cmpI a a'), .int .i64 (cmpI b b')] 3)) (sl_lit .i64 Y.drew 3 (0, 0) [cmpI c c', cmpI a a', cmpI b b'] 3 rfl (by unfold maxLen; omega)) (by omega))
  have hcd : Hid (cmpD (a, b, c) (a', b', c') = orL [cmpI c c', cmpI a a', cmpI b b']) := rfl
  clear c0
  first | (go_region_held3 (fun Z => Z.cell? ⟨w.heap.size, 0, none⟩ = some (.int .i64 a) ∧ Z.cell? ⟨w.heap.size, 1, none⟩ = some (.int .i64 b) ∧ Z.cell? ⟨w.heap.size, 2, none⟩ = some (.int .i64 c) ∧ Z.cell? ⟨w.heap.size + 1, 0, none⟩ = some (.int .i64 a') ∧ Z.cell? ⟨w.heap.size + 1, 1, none⟩ = some (.int .i64 b') ∧ Z.cell? ⟨w.heap.size + 1, 2, none⟩ = some (.int .i64 c')) (first | exact HC.out _ KY | exact HC.out _ (KY.trans (kept_al _ _))) (first
    | (go_at_call 28; refine (H64.out _ _ _).mono ?_; rintro E V ⟨rfl, rfl⟩)
    | (go_at_call 29; refine (HI.out _ _ _).mono ?_; rintro E V ⟨rfl, rfl⟩)
    | (go_at_call 27; refine HOr.out.mono ?_; rintro E V ⟨rfl, rfl⟩))) | fail
  all_goals (
    go_wp2
    go_ret
    exact ⟨ret_int hcd.out.symm, by rw [hY]; rfl⟩)
end Go.Proofs.Ytneehfngphpccaa
