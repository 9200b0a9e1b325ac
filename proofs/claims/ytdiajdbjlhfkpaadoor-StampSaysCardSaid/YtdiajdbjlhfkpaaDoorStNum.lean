/- The document's Num. -/
import Derived.Test.YtdiajdbjlhfkpaaDoorStRef
import Derived.Test.YtdiajdbjlhfkpaaDoorStParse
set_option linter.unusedVariables false
set_option linter.unusedSimpArgs false
namespace Go.Proofs.YtdiajdbjlhfkpaaDoor
open Go.RowKit
theorem kept_al0 (w : World) (o : Obj) : Kept w (w.alloc o) := by (unfold Kept; repeat (first | exact Below.refl _ _ | assumption | (refine Below.alloc ?_ (by simp) _) | (refine Below.setCell ?_ (by simp) _) | (refine Below.drew ?_) | (refine below_drewN ?_ _)))
theorem dig_str (d : Nat) (h : d < 10) : strOf [(48 : Int) + d] = ⟨(Lib.decDigits d).toArray⟩ := by
  have h : ∀ d : Fin 10, strOf [(48 : Int) + (d.val : Nat)] = ⟨(Lib.decDigits d.val).toArray⟩ := by
    intro d
    apply ByteArray.ext
    rw [Lib.decDigits, dif_pos d.isLt]
    have := strOf_data [(48 : Int) + (d.val : Nat)]
    apply Array.ext'
    rw [this]
    show [UInt8.ofNat ((48 : Int) + (d.val : Nat)).toNat] = [UInt8.ofNat (48 + d.val)]
    congr 2
  exact h ⟨d, by assumption⟩
theorem run_dig (d : Int) (W : World) : (convert 58 9 (.slice (some ⟨W.heap.size, 0, none⟩) 1 1)).run Tryd.prog (W.alloc (.cells #[.int .u8 d] 5 (0, 0))) = .ok (.string (strOf [d])) (W.alloc (.cells #[.int .u8 d] 5 (0, 0))) :=
  run_str 58 9 5 Tryd.underlying58 Tryd.underlying5 Tryd.underlying9 (sl_lit .u8 W 5 (0, 0) [d] 1 rfl (by decide))
set_option maxHeartbeats 1000000 in
theorem rs_num1 (n : Nat) (hn : n < 10) (w : World) : Calls Tryd.prog 37 #[.int .u64 n] w fun e w' => e = .returned (.string ⟨(Lib.decDigits n).toArray⟩) ∧ Kept w w' := by
  have hn' : (n : Int) < 10 := by omega
  have hR := run_dig (48 + n) w
  have hw : IntKind.u8.wrap ((48 : Int) + n) = 48 + n := by rw [IntKind.wrap_u8]; omega
  rw [dig_str n hn] at hR
  generalize (⟨(Lib.decDigits n).toArray⟩ : ByteArray) = S at *
  go_enter Tryd.func37, Tryd.ntmps37
  go_wp2_with fail
  go_ret
  exact ⟨rfl, by (unfold Kept; repeat (first | exact Below.refl _ _ | assumption | (refine Below.alloc ?_ (by simp) _) | (refine Below.setCell ?_ (by simp) _) | (refine Below.drew ?_) | (refine below_drewN ?_ _)))⟩
theorem run_digK (d : Int) (W V : World) (K : Kept (W.alloc (.cells #[.int .u8 d] 5 (0, 0))) V) : (convert 58 9 (.slice (some ⟨W.heap.size, 0, none⟩) 1 1)).run Tryd.prog V = .ok (.string (strOf [d])) V :=
  run_str 58 9 5 Tryd.underlying58 Tryd.underlying5 Tryd.underlying9 (K.sl (sl_lit .u8 W 5 (0, 0) [d] 1 rfl (by decide)))
end Go.Proofs.YtdiajdbjlhfkpaaDoor
