/- The document's Num: of a word (chapter 1), of an int (chapter 10). -/
import Derived.Test.YteaepgbakcifkaaDoorEvD1
import Derived.Test.YteaepgbakcifkaaDoorStDec
import Derived.Deep.RegionLaw
set_option linter.unusedVariables false
set_option linter.unusedSimpArgs false
namespace Go.Proofs.YteaepgbakcifkaaDoor
open Go.RowKit
theorem kept_al0 (w : World) (o : Obj) : Kept w (w.alloc o) := by (unfold Kept; repeat (first | exact Below.refl _ _ | assumption | (refine Below.alloc ?_ (by simp) _) | (refine Below.setCell ?_ (by simp) _) | (refine Below.drew ?_) | (refine _root_.Go.below_drewN ?_ _)))
theorem dig_str (d : Nat) (h : d < 10) : strOf [(48 : Int) + d] = ⟨(Lib.decDigits d).toArray⟩ := by
  have h : ∀ d : Fin 10, strOf [(48 : Int) + (d.val : Nat)] = ⟨(Lib.decDigits d.val).toArray⟩ := by
    intro d
    apply ByteArray.ext
    rw [Lib.decDigits, dif_pos d.isLt]
    have := strOf_data [(48 : Int) + (d.val : Nat)]
    apply Array.ext'
    rw [this]
    show [UInt8.ofNat ((48 : Int) + (d.val : Nat)).toNat] = [UInt8.ofNat (48 + d.val)]
    congr 2
  exact h ⟨d, by assumption⟩
theorem run_dig (d : Int) (W : World) : (convert 27 9 (.slice (some ⟨W.heap.size, 0, none⟩) 1 1)).run Tryd.prog (W.alloc (.cells #[.int .u8 d] 5 (0, 0))) = .ok (.string (strOf [d])) (W.alloc (.cells #[.int .u8 d] 5 (0, 0))) :=
  run_str 27 9 5 Tryd.underlying27 Tryd.underlying5 Tryd.underlying9 (sl_lit .u8 W 5 (0, 0) [d] 1 rfl (by decide))
theorem run_digK (d : Int) (W V : World) (K : Kept (W.alloc (.cells #[.int .u8 d] 5 (0, 0))) V) : (convert 27 9 (.slice (some ⟨W.heap.size, 0, none⟩) 1 1)).run Tryd.prog V = .ok (.string (strOf [d])) V :=
  run_str 27 9 5 Tryd.underlying27 Tryd.underlying5 Tryd.underlying9 (K.sl (sl_lit .u8 W 5 (0, 0) [d] 1 rfl (by decide)))
set_option maxRecDepth 100000 in
set_option maxHeartbeats 1000000 in
theorem rs_num1 (n : Nat) (hn : n < 10) (w : World) : Calls Tryd.prog 43 #[.int .u64 n] w fun e w' => e = .returned (.string ⟨(Lib.decDigits n).toArray⟩) ∧ Kept w w' := by
  have hn' : (n : Int) < 10 := by omega
  have hR := run_dig (48 + n) w
  have hw : IntKind.u8.wrap ((48 : Int) + n) = 48 + n := by rw [IntKind.wrap_u8]; omega
  rw [dig_str n hn] at hR
  generalize (⟨(Lib.decDigits n).toArray⟩ : ByteArray) = S at *
  have hn0 : (0 : Int) ≤ n := by omega
  generalize (n : Int) = x at *
  clear hn
  go_enter Tryd.func43, Tryd.ntmps43
  go_wp2_with fail
  go_ret
  exact ⟨rfl, by (unfold Kept; repeat (first | exact Below.refl _ _ | assumption | (refine Below.alloc ?_ (by simp) _) | (refine Below.setCell ?_ (by simp) _) | (refine Below.drew ?_) | (refine _root_.Go.below_drewN ?_ _)))⟩
set_option maxRecDepth 100000 in
set_option maxHeartbeats 4000000 in
theorem rs_num (n : Nat) : ∀ (hn : n ≤ 18446744073709551615) (w : World), Calls Tryd.prog 43 #[.int .u64 n] w fun e w' => e = .returned (.string ⟨(Lib.decDigits n).toArray⟩) ∧ Kept w w' := by
  induction n using Nat.strongRecOn with
  | ind n ih =>
    intro hn w
    by_cases h10 : n < 10
    · exact rs_num1 n h10 w
    · have hge : (10 : Int) ≤ n := by omega
      have hle : (n : Int) ≤ 18446744073709551615 := by omega
      have hdiv : (n : Int) / 10 = ((n / 10 : Nat) : Int) := by omega
      have IH := Lib.hid (fun W => ih (n / 10) (by omega) (by omega) W)
      rw [← hdiv] at IH
      have hA : ∀ V : World, (convert 27 9 (.slice (some ⟨V.heap.size, 0, none⟩) 1 1)).run Tryd.prog (V.alloc (.cells #[.int .u8 (48 + (n : Int) % 10)] 5 (0, 0))) = .ok (.string (strOf [48 + (n : Int) % 10])) (V.alloc (.cells #[.int .u8 (48 + (n : Int) % 10)] 5 (0, 0))) := fun V => run_dig _ V
      have HK := Lib.hid (fun W V K => run_digK (48 + (n : Int) % 10) W V K)
      have hS : (⟨(Lib.decDigits n).toArray⟩ : ByteArray) = ⟨(Lib.decDigits (n / 10)).toArray⟩ ++ strOf [48 + (n : Int) % 10] := by
        rw [show ((n : Int) % 10) = ((n % 10 : Nat) : Int) by omega, dig_str (n % 10) (by omega)]
        apply ByteArray.ext
        rw [ByteArray.data_append]
        conv => lhs; rw [Lib.decDigits, dif_neg h10]
        rw [Lib.decDigits.eq_1 (n % 10), dif_pos (by omega)]
        simp
      rw [hS]
      have hw : IntKind.u8.wrap ((48 : Int) + (n : Int) % 10) = 48 + (n : Int) % 10 := by rw [IntKind.wrap_u8]; omega
      have hsA : (⟨(Lib.decDigits (n / 10)).toArray⟩ : ByteArray).size ≤ 20 := by
        show (List.toArray _).size ≤ 20
        rw [List.size_toArray]
        exact dec_len _ 20 (by omega) (by omega)
      have hsB : (strOf [48 + (n : Int) % 10]).size ≤ 1 := by rw [strOf_size]; exact Nat.le_refl 1
      have HKw := Lib.hid (show ∀ V : World, Kept (w.drew.alloc (.cells #[.int .u8 (48 + (n : Int) % 10)] 5 (0, 0))) V → (convert 27 9 (.slice (some ⟨w.heap.size, 0, none⟩) 1 1)).run Tryd.prog V = .ok (.string (strOf [48 + (n : Int) % 10])) V from fun V K => HK.out w.drew V K)
      have hB3 := run_digK (48 + (n : Int) % 10) w (w.alloc (.cells #[.int .u8 (48 + (n : Int) % 10)] 5 (0, 0))).drew (by (unfold Kept; repeat (first | exact Below.refl _ _ | assumption | (refine Below.alloc ?_ (by simp) _) | (refine Below.setCell ?_ (by simp) _) | (refine Below.drew ?_) | (refine _root_.Go.below_drewN ?_ _))))
      generalize (⟨(Lib.decDigits (n / 10)).toArray⟩ : ByteArray) = A at *
      generalize strOf [48 + (n : Int) % 10] = B at *
      clear ih hS h10 hn hdiv
      have hn0 : (0 : Int) ≤ n := by omega
      generalize (n : Int) = n at *
      go_enter Tryd.func43, Tryd.ntmps43
      go_wp2_with fail
      have hAB : (9223372036854775807 < A.size + B.size) = False := by simp; omega
      have KD : Kept w w.drew := by (unfold Kept; repeat (first | exact Below.refl _ _ | assumption | (refine Below.alloc ?_ (by simp) _) | (refine Below.setCell ?_ (by simp) _) | (refine Below.drew ?_) | (refine _root_.Go.below_drewN ?_ _)))
      have ht : n.tmod 10 = n % 10 := Int.tmod_eq_emod_of_nonneg (by omega)
      have htd : n.tdiv 10 = n / 10 := Int.tdiv_eq_ediv_of_nonneg (by omega)
      have hwA : IntKind.u64.wrap ((48 : Int) + n % 10) = 48 + n % 10 := by rw [IntKind.wrap_u64]; omega
      have hqw : IntKind.u64.wrap (n / 10) = n / 10 := by rw [IntKind.wrap_u64]; omega
      go_region_law (go_simp; go_at_call 43; refine (IH.out _).mono ?_; rintro E V1 ⟨rfl, J⟩; first | have hc := HKw.out _ J | skip)
      all_goals (
        go_wp2
        go_ret
        exact ⟨rfl, by first | exact KD.trans J | exact KD.trans (J.trans (kept_al0 _ _)) | exact KD.trans ((kept_al0 _ _).trans J)⟩)
set_option maxRecDepth 100000 in
set_option maxHeartbeats 1000000 in
theorem rt_num1 (n : Nat) (hn : n < 10) (w : World) : Calls Tryd.prog 42 #[.int .i64 n] w fun e w' => e = .returned (.string ⟨(Lib.decDigits n).toArray⟩) ∧ Kept w w' := by
  have hn' : (n : Int) < 10 := by omega
  have hR := run_dig (48 + n) w
  have hw : IntKind.u8.wrap ((48 : Int) + n) = 48 + n := by rw [IntKind.wrap_u8]; omega
  rw [dig_str n hn] at hR
  generalize (⟨(Lib.decDigits n).toArray⟩ : ByteArray) = S at *
  have hn0 : (0 : Int) ≤ n := by omega
  generalize (n : Int) = x at *
  clear hn
  go_enter Tryd.func42, Tryd.ntmps42
  go_wp2_with fail
  go_ret
  exact ⟨rfl, by (unfold Kept; repeat (first | exact Below.refl _ _ | assumption | (refine Below.alloc ?_ (by simp) _) | (refine Below.setCell ?_ (by simp) _) | (refine Below.drew ?_) | (refine _root_.Go.below_drewN ?_ _)))⟩
set_option maxRecDepth 100000 in
set_option maxHeartbeats 4000000 in
theorem rt_num (n : Nat) : ∀ (hn : n ≤ 9223372036854775807) (w : World), Calls Tryd.prog 42 #[.int .i64 n] w fun e w' => e = .returned (.string ⟨(Lib.decDigits n).toArray⟩) ∧ Kept w w' := by
  induction n using Nat.strongRecOn with
  | ind n ih =>
    intro hn w
    by_cases h10 : n < 10
    · exact rt_num1 n h10 w
    · have hge : (10 : Int) ≤ n := by omega
      have hle : (n : Int) ≤ 9223372036854775807 := by omega
      have hdiv : (n : Int) / 10 = ((n / 10 : Nat) : Int) := by omega
      have IH := Lib.hid (fun W => ih (n / 10) (by omega) (by omega) W)
      rw [← hdiv] at IH
      have hA : ∀ V : World, (convert 27 9 (.slice (some ⟨V.heap.size, 0, none⟩) 1 1)).run Tryd.prog (V.alloc (.cells #[.int .u8 (48 + (n : Int) % 10)] 5 (0, 0))) = .ok (.string (strOf [48 + (n : Int) % 10])) (V.alloc (.cells #[.int .u8 (48 + (n : Int) % 10)] 5 (0, 0))) := fun V => run_dig _ V
      have HK := Lib.hid (fun W V K => run_digK (48 + (n : Int) % 10) W V K)
      have hS : (⟨(Lib.decDigits n).toArray⟩ : ByteArray) = ⟨(Lib.decDigits (n / 10)).toArray⟩ ++ strOf [48 + (n : Int) % 10] := by
        rw [show ((n : Int) % 10) = ((n % 10 : Nat) : Int) by omega, dig_str (n % 10) (by omega)]
        apply ByteArray.ext
        rw [ByteArray.data_append]
        conv => lhs; rw [Lib.decDigits, dif_neg h10]
        rw [Lib.decDigits.eq_1 (n % 10), dif_pos (by omega)]
        simp
      rw [hS]
      have hw : IntKind.u8.wrap ((48 : Int) + (n : Int) % 10) = 48 + (n : Int) % 10 := by rw [IntKind.wrap_u8]; omega
      have hsA : (⟨(Lib.decDigits (n / 10)).toArray⟩ : ByteArray).size ≤ 20 := by
        show (List.toArray _).size ≤ 20
        rw [List.size_toArray]
        exact dec_len _ 20 (by omega) (by omega)
      have hsB : (strOf [48 + (n : Int) % 10]).size ≤ 1 := by rw [strOf_size]; exact Nat.le_refl 1
      have HKw := Lib.hid (show ∀ V : World, Kept (w.drew.alloc (.cells #[.int .u8 (48 + (n : Int) % 10)] 5 (0, 0))) V → (convert 27 9 (.slice (some ⟨w.heap.size, 0, none⟩) 1 1)).run Tryd.prog V = .ok (.string (strOf [48 + (n : Int) % 10])) V from fun V K => HK.out w.drew V K)
      have hB3 := run_digK (48 + (n : Int) % 10) w (w.alloc (.cells #[.int .u8 (48 + (n : Int) % 10)] 5 (0, 0))).drew (by (unfold Kept; repeat (first | exact Below.refl _ _ | assumption | (refine Below.alloc ?_ (by simp) _) | (refine Below.setCell ?_ (by simp) _) | (refine Below.drew ?_) | (refine _root_.Go.below_drewN ?_ _))))
      generalize (⟨(Lib.decDigits (n / 10)).toArray⟩ : ByteArray) = A at *
      generalize strOf [48 + (n : Int) % 10] = B at *
      clear ih hS h10 hn hdiv
      have hn0 : (0 : Int) ≤ n := by omega
      generalize (n : Int) = n at *
      go_enter Tryd.func42, Tryd.ntmps42
      go_wp2_with fail
      have hAB : (9223372036854775807 < A.size + B.size) = False := by simp; omega
      have KD : Kept w w.drew := by (unfold Kept; repeat (first | exact Below.refl _ _ | assumption | (refine Below.alloc ?_ (by simp) _) | (refine Below.setCell ?_ (by simp) _) | (refine Below.drew ?_) | (refine _root_.Go.below_drewN ?_ _)))
      have ht : n.tmod 10 = n % 10 := Int.tmod_eq_emod_of_nonneg (by omega)
      have htd : n.tdiv 10 = n / 10 := Int.tdiv_eq_ediv_of_nonneg (by omega)
      have hwA : IntKind.i64.wrap ((48 : Int) + n % 10) = 48 + n % 10 := by rw [IntKind.wrap_i64]; omega
      have hqw : IntKind.i64.wrap (n / 10) = n / 10 := by rw [IntKind.wrap_i64]; omega
      go_region_law (go_simp; go_at_call 42; refine (IH.out _).mono ?_; rintro E V1 ⟨rfl, J⟩; first | have hc := HKw.out _ J | skip)
      all_goals (
        go_wp2
        go_ret
        exact ⟨rfl, by first | exact KD.trans J | exact KD.trans (J.trans (kept_al0 _ _)) | exact KD.trans ((kept_al0 _ _).trans J)⟩)
end Go.Proofs.YteaepgbakcifkaaDoor
