/- Size; the laws' own awake (layer 4). -/
import Derived.Test.YtonifnbmofbakaaFrPut
import Derived.Test.YtonifnbmofbakaaStrs
import Derived.Lib.SlBytesConst
set_option linter.unusedVariables false
set_option linter.unusedSimpArgs false
namespace Go.Proofs.Ytonifnbmofbakaa
open Go.RowKit
theorem fr_size (a : Option Addr) (n c : Nat) (at' : Int) (w : World) (hn : n ≤ 100000) :
    Calls Try.prog 17 #[recV at' a n c] w fun e w' => e = .returned (.int .i64 (16 + (n : Int))) ∧ Kept w w' := by
  have K := kept_al w (.cells #[.int .u64 at', .slice a n c] 30)
  have hh := heap_alloc_new w (.cells #[.int .u64 at', .slice a n c] 30)
  have d1 := at_cell hh 1 _ rfl
  have hw : IntKind.i64.wrap (16 + (n : Int)) = 16 + n := by rw [IntKind.wrap_i64]; omega
  clear hh
  unfold recV
  go_enter Try.func17, Try.ntmps17
  go_wp2
  go_ret
  exact ⟨rfl, K⟩
theorem two_cells {w : World} {p : Nat} {x y : Value} {t : TypeId} (h : w.heap[p]? = some (.cells #[x, y] t (0, 0))) : w.cell? ⟨p, 0, none⟩ = some x ∧ w.cell? ⟨p, 1, none⟩ = some y := ⟨at_cell h 0 _ rfl, at_cell h 1 _ rfl⟩
theorem isB_recB (at' : Int) {zs : List Int} (h : IsB zs) : IsB (recB at' zs) := isB_append (isB_append (isB_append (isB_leB _ _) (isB_leB _ _)) (isB_leB _ _)) h
theorem recB_len (at' : Int) (zs : List Int) : (recB at' zs).length = 16 + zs.length := by simp [recB, headB, leB_len]; omega
set_option maxRecDepth 100000 in
set_option maxHeartbeats 2000000 in
theorem fr_awake (w : World) : Calls Try.prog 9 #[] w fun e w' => e = .returned (.bool true) ∧ Kept w w' := by
  have kc := Lib.run_convert_bytes_const (P := Try.prog) w 23 5 #[.int .u8 97, .int .u8 98] 2 2 Try.underlying23 Try.underlying5
  have hs0 : Sl .u8 ((w.alloc (.cells #[.int .u8 97, .int .u8 98] 5 (2, 3)))) (some ⟨w.heap.size, 0, none⟩) 2 2 [97, 98] := sl_lit .u8 w 5 (2, 3) [97, 98] 2 rfl (by unfold maxLen; omega)
  have HP := Lib.hid (fr_put_ok none 0 0 [] (some ⟨w.heap.size, 0, none⟩) 2 2 [97, 98] 1 _ (sl_nil _ _) hs0 (isB_of_mem (by decide)) (by omega) (by omega) (by omega) (by omega))
  rw [show 0 + 16 + 2 = 18 from rfl, List.nil_append] at HP
  have HB : Hid (IsB (recB 1 [97, 98])) := isB_recB 1 (isB_of_mem (by decide))
  have K0 := kept_al w (.cells #[.int .u8 97, .int .u8 98] 5 (2, 3))
  have es : (strOf [97, 98]).toList = [97, 98] := by decide +kernel
  have e1 : rdN (recB 1 [97, 98]) 4 = (2 : Nat) := by decide +kernel
  have e2 : sumOf ((recB 1 [97, 98]).take 12 ++ ((recB 1 [97, 98]).take (16 + 2)).drop 16) = rdN (((recB 1 [97, 98]).take 16).drop 12) 4 := by decide +kernel
  have e3 : rdN (((recB 1 [97, 98]).take 12).drop 4) 8 = 1 := by decide +kernel
  have e4 : ((recB 1 [97, 98]).take (16 + 2)).drop 16 = [97, 98] := by decide +kernel
  generalize recB 1 [97, 98] = L0 at *
  clear hs0
  go_enter Try.func9, Try.ntmps9
  go_wp2_with fail
  refine HP.out.mono ?_
  rintro e W ⟨a, c, g, rfl, hA, K1, hg⟩
  clear HP
  have HG := Lib.hid (fr_get_ok a 18 c 2 L0 W (app_sl hA).1 HB.out (by omega) e1 (by omega) (by omega) e2)
  rw [e3, e4] at HG
  replace K0 := K0.trans K1
  clear e1 e2 e3 e4 hA hg K1
  go_wp2_with fail
  refine HG.out.mono ?_
  rintro e W2 ⟨a2, c2, rfl, hS2, K2⟩
  have b0 := (two_cells (heap_alloc_new W2 (.cells #[.int .u64 1, .slice a2 2 c2] 30))).1
  have b1 := (two_cells (heap_alloc_new W2 (.cells #[.int .u64 1, .slice a2 2 c2] 30))).2
  have hstr := run_str (P := Try.prog) 23 9 5 Try.underlying23 Try.underlying5 Try.underlying9 ((kept_al W2 (.cells #[.int .u64 1, .slice a2 2 c2] 30)).sl hS2)
  replace K0 := (K0.trans K2).trans (kept_al W2 (.cells #[.int .u64 1, .slice a2 2 c2] 30))
  clear HG K2 hS2
  unfold recV
  go_wp2_with fail
  refine (fr_size a2 2 c2 1 _ (by omega)).mono ?_
  rintro e W3 ⟨rfl, K3⟩
  go_wp2_with fail
  go_ret
  exact ⟨rfl, K0.trans K3⟩
end Go.Proofs.Ytonifnbmofbakaa
