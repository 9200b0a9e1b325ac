/- StampBack: the law. -/
import Derived.Test.YtdiajdbjlhfkpaaDoorStBk
set_option linter.unusedVariables false
set_option linter.unusedSimpArgs false
namespace Go.Proofs.YtdiajdbjlhfkpaaDoor
open Go.RowKit
set_option maxRecDepth 100000 in
set_option maxHeartbeats 8000000 in
theorem stBack_lo (u v b : Int) (w : World) (h0 : 0 ≤ u) (h1 : u ≤ 18446744073709551615) (v0 : -9223372036854775808 ≤ v) (v1 : v ≤ 9223372036854775807) (hb1 : b < 1) (hv : StV w) :
    Calls Tryd.prog 7 #[.int .u64 u, .int .i64 v, .int .i64 b] w fun e w' => e = .returned (.bool true) ∧ Below w.heap.size w w' := by
  have HV := Lib.hid hv
  have HE := Lib.hid (fun W => stamp_epoch u W h0 h1)
  have HO := Lib.hid (fun W => stamp_off u W h0 h1)
  have HP := Lib.hid (fun W => stamp_pack_yes (epI u) (ofI u) W (by unfold epI; omega) (by unfold epI; omega) (by unfold ofI; omega) (by unfold ofI; omega))
  rw [show epI u * 17592186044416 + ofI u = u by unfold epI ofI; omega] at HP
  have HS := Lib.hid (fun W (h : StV W) => st_string u h0 h1 h)
  have ha : (epI u).toNat < 1048576 := by unfold epI; omega
  have hb : (ofI u).toNat < 17592186044416 := by unfold ofI; omega
  have hsz : (⟨(stpTxt (epI u).toNat (ofI u).toNat).toArray⟩ : ByteArray).size ≤ 281474976710656 := by
    show (List.toArray _).size ≤ _
    rw [List.size_toArray]
    unfold stpTxt
    have := dec_len _ 7 (by omega) (show (epI u).toNat < 10 ^ 7 by omega)
    have := dec_len _ 15 (by omega) (show (ofI u).toNat < 10 ^ 15 by omega)
    simp only [List.length_append, List.length_cons]
    omega
  have HT := Lib.hid (fun W (h : StV W) => st_parse_yes _ hsz _ _ ((prsF_iff _ _ _).2 ⟨ha, hb, rfl⟩) h)
  rw [show ((epI u).toNat : Int) * 17592186044416 + ((ofI u).toNat : Int) = u by unfold epI ofI; omega] at HT
  obtain ⟨f0, f1⟩ := fold_bd v v0 v1
  obtain ⟨n0, n1⟩ := unfold_bd u h0 h1
  have HF := Lib.hid (fun W => stamp_fold v W v0 v1)
  have HU := Lib.hid (fun W => stamp_unfold (fold v) W f0 f1)
  rw [unfold_fold] at HU
  have HN := Lib.hid (fun W => stamp_unfold u W h0 h1)
  have HG := Lib.hid (fun W => stamp_fold (unfold u) W n0 n1)
  rw [fold_unfold u h0] at HG
  have HNa := Lib.hid (fun W => st_narrow_no u b W (by omega))
  have hd : (b == 64) = false := by rw [beq_eq_false_iff_ne]; omega
  have HW := Lib.hid (fun W => st_wide u 64 W h0 h1 (by omega) (by omega))
  rw [wide_all u h0 h1] at HW
  generalize hq : wrap64 u = q at HW
  generalize (⟨(stpTxt (epI u).toNat (ofI u).toNat).toArray⟩ : ByteArray) = T at *
  clear hsz ha hb f0 f1 n0 n1
  generalize fold v = f at *
  generalize unfold u = n at *
  generalize epI u = ep at *
  generalize ofI u = of at *
  clear hv
  go_enter Tryd.func7, Tryd.ntmps7
  go_wp2_with fail
  refine (st_awake _).mono ?_
  rintro e w' ⟨rfl, rfl⟩
  go_wp2_with fail
  refine (HE.out _).mono ?_
  rintro e w' ⟨rfl, rfl⟩
  go_wp2_with fail
  refine (HO.out _).mono ?_
  rintro e w' ⟨rfl, rfl⟩
  go_wp2_with fail
  refine (HP.out _).mono ?_
  rintro e w' ⟨rfl, rfl⟩
  go_wp2_with fail
  refine (HS.out _ HV.out).mono ?_
  rintro e V1 ⟨rfl, hK1⟩
  have HK1 := Lib.hid hK1
  clear hK1
  go_wp2_with fail
  refine (HT.out _ (HV.out.kept HK1.out)).mono ?_
  rintro e V2 ⟨rfl, hK2⟩
  have HK2 := Lib.hid (HK1.out.trans hK2)
  clear hK2 HK1 HV
  go_wp2_with fail
  refine (HF.out _).mono ?_
  rintro e w' ⟨rfl, rfl⟩
  go_wp2_with fail
  refine (HU.out _).mono ?_
  rintro e w' ⟨rfl, rfl⟩
  go_wp2_with fail
  refine (HN.out _).mono ?_
  rintro e w' ⟨rfl, rfl⟩
  go_wp2_with fail
  refine (HG.out _).mono ?_
  rintro e w' ⟨rfl, rfl⟩
  go_wp2_with fail
  refine (HNa.out _).mono ?_
  rintro e w' ⟨rfl, rfl⟩
  go_wp2_with fail
  refine (HW.out _).mono ?_
  rintro e w' ⟨rfl, rfl⟩
  go_wp2_with fail
  go_ret
  exact ⟨rfl, HK2.out⟩
set_option maxRecDepth 100000 in
set_option maxHeartbeats 8000000 in
theorem stBack_hi (u v b : Int) (w : World) (h0 : 0 ≤ u) (h1 : u ≤ 18446744073709551615) (v0 : -9223372036854775808 ≤ v) (v1 : v ≤ 9223372036854775807) (hb1 : 1 ≤ b) (hb2 : 64 < b) (hv : StV w) :
    Calls Tryd.prog 7 #[.int .u64 u, .int .i64 v, .int .i64 b] w fun e w' => e = .returned (.bool true) ∧ Below w.heap.size w w' := by
  have HV := Lib.hid hv
  have HE := Lib.hid (fun W => stamp_epoch u W h0 h1)
  have HO := Lib.hid (fun W => stamp_off u W h0 h1)
  have HP := Lib.hid (fun W => stamp_pack_yes (epI u) (ofI u) W (by unfold epI; omega) (by unfold epI; omega) (by unfold ofI; omega) (by unfold ofI; omega))
  rw [show epI u * 17592186044416 + ofI u = u by unfold epI ofI; omega] at HP
  have HS := Lib.hid (fun W (h : StV W) => st_string u h0 h1 h)
  have ha : (epI u).toNat < 1048576 := by unfold epI; omega
  have hb : (ofI u).toNat < 17592186044416 := by unfold ofI; omega
  have hsz : (⟨(stpTxt (epI u).toNat (ofI u).toNat).toArray⟩ : ByteArray).size ≤ 281474976710656 := by
    show (List.toArray _).size ≤ _
    rw [List.size_toArray]
    unfold stpTxt
    have := dec_len _ 7 (by omega) (show (epI u).toNat < 10 ^ 7 by omega)
    have := dec_len _ 15 (by omega) (show (ofI u).toNat < 10 ^ 15 by omega)
    simp only [List.length_append, List.length_cons]
    omega
  have HT := Lib.hid (fun W (h : StV W) => st_parse_yes _ hsz _ _ ((prsF_iff _ _ _).2 ⟨ha, hb, rfl⟩) h)
  rw [show ((epI u).toNat : Int) * 17592186044416 + ((ofI u).toNat : Int) = u by unfold epI ofI; omega] at HT
  obtain ⟨f0, f1⟩ := fold_bd v v0 v1
  obtain ⟨n0, n1⟩ := unfold_bd u h0 h1
  have HF := Lib.hid (fun W => stamp_fold v W v0 v1)
  have HU := Lib.hid (fun W => stamp_unfold (fold v) W f0 f1)
  rw [unfold_fold] at HU
  have HN := Lib.hid (fun W => stamp_unfold u W h0 h1)
  have HG := Lib.hid (fun W => stamp_fold (unfold u) W n0 n1)
  rw [fold_unfold u h0] at HG
  have HNa := Lib.hid (fun W => st_narrow_no u b W (by omega))
  have hd : (b == 64) = false := by rw [beq_eq_false_iff_ne]; omega
  have HW := Lib.hid (fun W => st_wide u 64 W h0 h1 (by omega) (by omega))
  rw [wide_all u h0 h1] at HW
  generalize hq : wrap64 u = q at HW
  generalize (⟨(stpTxt (epI u).toNat (ofI u).toNat).toArray⟩ : ByteArray) = T at *
  clear hsz ha hb f0 f1 n0 n1
  generalize fold v = f at *
  generalize unfold u = n at *
  generalize epI u = ep at *
  generalize ofI u = of at *
  clear hv
  go_enter Tryd.func7, Tryd.ntmps7
  go_wp2_with fail
  refine (st_awake _).mono ?_
  rintro e w' ⟨rfl, rfl⟩
  go_wp2_with fail
  refine (HE.out _).mono ?_
  rintro e w' ⟨rfl, rfl⟩
  go_wp2_with fail
  refine (HO.out _).mono ?_
  rintro e w' ⟨rfl, rfl⟩
  go_wp2_with fail
  refine (HP.out _).mono ?_
  rintro e w' ⟨rfl, rfl⟩
  go_wp2_with fail
  refine (HS.out _ HV.out).mono ?_
  rintro e V1 ⟨rfl, hK1⟩
  have HK1 := Lib.hid hK1
  clear hK1
  go_wp2_with fail
  refine (HT.out _ (HV.out.kept HK1.out)).mono ?_
  rintro e V2 ⟨rfl, hK2⟩
  have HK2 := Lib.hid (HK1.out.trans hK2)
  clear hK2 HK1 HV
  go_wp2_with fail
  refine (HF.out _).mono ?_
  rintro e w' ⟨rfl, rfl⟩
  go_wp2_with fail
  refine (HU.out _).mono ?_
  rintro e w' ⟨rfl, rfl⟩
  go_wp2_with fail
  refine (HN.out _).mono ?_
  rintro e w' ⟨rfl, rfl⟩
  go_wp2_with fail
  refine (HG.out _).mono ?_
  rintro e w' ⟨rfl, rfl⟩
  go_wp2_with fail
  refine (HNa.out _).mono ?_
  rintro e w' ⟨rfl, rfl⟩
  go_wp2_with fail
  refine (HW.out _).mono ?_
  rintro e w' ⟨rfl, rfl⟩
  go_wp2_with fail
  go_ret
  exact ⟨rfl, HK2.out⟩
set_option maxRecDepth 100000 in
set_option maxHeartbeats 8000000 in
theorem stBack_all (u v : Int) (w : World) (h0 : 0 ≤ u) (h1 : u ≤ 18446744073709551615) (v0 : -9223372036854775808 ≤ v) (v1 : v ≤ 9223372036854775807) (hv : StV w) :
    Calls Tryd.prog 7 #[.int .u64 u, .int .i64 v, .int .i64 64] w fun e w' => e = .returned (.bool true) ∧ Below w.heap.size w w' := by
  have HV := Lib.hid hv
  have HE := Lib.hid (fun W => stamp_epoch u W h0 h1)
  have HO := Lib.hid (fun W => stamp_off u W h0 h1)
  have HP := Lib.hid (fun W => stamp_pack_yes (epI u) (ofI u) W (by unfold epI; omega) (by unfold epI; omega) (by unfold ofI; omega) (by unfold ofI; omega))
  rw [show epI u * 17592186044416 + ofI u = u by unfold epI ofI; omega] at HP
  have HS := Lib.hid (fun W (h : StV W) => st_string u h0 h1 h)
  have ha : (epI u).toNat < 1048576 := by unfold epI; omega
  have hb : (ofI u).toNat < 17592186044416 := by unfold ofI; omega
  have hsz : (⟨(stpTxt (epI u).toNat (ofI u).toNat).toArray⟩ : ByteArray).size ≤ 281474976710656 := by
    show (List.toArray _).size ≤ _
    rw [List.size_toArray]
    unfold stpTxt
    have := dec_len _ 7 (by omega) (show (epI u).toNat < 10 ^ 7 by omega)
    have := dec_len _ 15 (by omega) (show (ofI u).toNat < 10 ^ 15 by omega)
    simp only [List.length_append, List.length_cons]
    omega
  have HT := Lib.hid (fun W (h : StV W) => st_parse_yes _ hsz _ _ ((prsF_iff _ _ _).2 ⟨ha, hb, rfl⟩) h)
  rw [show ((epI u).toNat : Int) * 17592186044416 + ((ofI u).toNat : Int) = u by unfold epI ofI; omega] at HT
  obtain ⟨f0, f1⟩ := fold_bd v v0 v1
  obtain ⟨n0, n1⟩ := unfold_bd u h0 h1
  have HF := Lib.hid (fun W => stamp_fold v W v0 v1)
  have HU := Lib.hid (fun W => stamp_unfold (fold v) W f0 f1)
  rw [unfold_fold] at HU
  have HN := Lib.hid (fun W => stamp_unfold u W h0 h1)
  have HG := Lib.hid (fun W => stamp_fold (unfold u) W n0 n1)
  rw [fold_unfold u h0] at HG
  have HNa := Lib.hid (fun W => st_narrow u 64 W h0 h1 (by omega) (by omega))
  have h64 : u < 2 ^ 64 := by omega
  rw [if_pos h64, decide_eq_true h64] at HNa
  clear h64
  have HW := Lib.hid (fun W => st_wide u 64 W h0 h1 (by omega) (by omega))
  rw [wide_all u h0 h1] at HW
  generalize hq : wrap64 u = q at HW
  generalize (⟨(stpTxt (epI u).toNat (ofI u).toNat).toArray⟩ : ByteArray) = T at *
  clear hsz ha hb f0 f1 n0 n1
  generalize fold v = f at *
  generalize unfold u = n at *
  generalize epI u = ep at *
  generalize ofI u = of at *
  clear hv
  go_enter Tryd.func7, Tryd.ntmps7
  go_wp2_with fail
  refine (st_awake _).mono ?_
  rintro e w' ⟨rfl, rfl⟩
  go_wp2_with fail
  refine (HE.out _).mono ?_
  rintro e w' ⟨rfl, rfl⟩
  go_wp2_with fail
  refine (HO.out _).mono ?_
  rintro e w' ⟨rfl, rfl⟩
  go_wp2_with fail
  refine (HP.out _).mono ?_
  rintro e w' ⟨rfl, rfl⟩
  go_wp2_with fail
  refine (HS.out _ HV.out).mono ?_
  rintro e V1 ⟨rfl, hK1⟩
  have HK1 := Lib.hid hK1
  clear hK1
  go_wp2_with fail
  refine (HT.out _ (HV.out.kept HK1.out)).mono ?_
  rintro e V2 ⟨rfl, hK2⟩
  have HK2 := Lib.hid (HK1.out.trans hK2)
  clear hK2 HK1 HV
  go_wp2_with fail
  refine (HF.out _).mono ?_
  rintro e w' ⟨rfl, rfl⟩
  go_wp2_with fail
  refine (HU.out _).mono ?_
  rintro e w' ⟨rfl, rfl⟩
  go_wp2_with fail
  refine (HN.out _).mono ?_
  rintro e w' ⟨rfl, rfl⟩
  go_wp2_with fail
  refine (HG.out _).mono ?_
  rintro e w' ⟨rfl, rfl⟩
  go_wp2_with fail
  refine (HNa.out _).mono ?_
  rintro e w' ⟨rfl, rfl⟩
  go_wp2_with fail
  refine (HW.out _).mono ?_
  rintro e w' ⟨rfl, rfl⟩
  go_wp2_with fail
  go_ret
  exact ⟨rfl, HK2.out⟩
set_option maxRecDepth 100000 in
set_option maxHeartbeats 8000000 in
theorem stBack_in (u v : Int) (k : Nat) (w : World) (h0 : 0 ≤ u) (h1 : u ≤ 18446744073709551615) (v0 : -9223372036854775808 ≤ v) (v1 : v ≤ 9223372036854775807) (b0 : 1 ≤ k) (b1 : k ≤ 63) (hs : u < 2 ^ k) (hv : StV w) :
    Calls Tryd.prog 7 #[.int .u64 u, .int .i64 v, .int .i64 (k : Int)] w fun e w' => e = .returned (.bool true) ∧ Below w.heap.size w w' := by
  have HV := Lib.hid hv
  have HE := Lib.hid (fun W => stamp_epoch u W h0 h1)
  have HO := Lib.hid (fun W => stamp_off u W h0 h1)
  have HP := Lib.hid (fun W => stamp_pack_yes (epI u) (ofI u) W (by unfold epI; omega) (by unfold epI; omega) (by unfold ofI; omega) (by unfold ofI; omega))
  rw [show epI u * 17592186044416 + ofI u = u by unfold epI ofI; omega] at HP
  have HS := Lib.hid (fun W (h : StV W) => st_string u h0 h1 h)
  have ha : (epI u).toNat < 1048576 := by unfold epI; omega
  have hb : (ofI u).toNat < 17592186044416 := by unfold ofI; omega
  have hsz : (⟨(stpTxt (epI u).toNat (ofI u).toNat).toArray⟩ : ByteArray).size ≤ 281474976710656 := by
    show (List.toArray _).size ≤ _
    rw [List.size_toArray]
    unfold stpTxt
    have := dec_len _ 7 (by omega) (show (epI u).toNat < 10 ^ 7 by omega)
    have := dec_len _ 15 (by omega) (show (ofI u).toNat < 10 ^ 15 by omega)
    simp only [List.length_append, List.length_cons]
    omega
  have HT := Lib.hid (fun W (h : StV W) => st_parse_yes _ hsz _ _ ((prsF_iff _ _ _).2 ⟨ha, hb, rfl⟩) h)
  rw [show ((epI u).toNat : Int) * 17592186044416 + ((ofI u).toNat : Int) = u by unfold epI ofI; omega] at HT
  obtain ⟨f0, f1⟩ := fold_bd v v0 v1
  obtain ⟨n0, n1⟩ := unfold_bd u h0 h1
  have HF := Lib.hid (fun W => stamp_fold v W v0 v1)
  have HU := Lib.hid (fun W => stamp_unfold (fold v) W f0 f1)
  rw [unfold_fold] at HU
  have HN := Lib.hid (fun W => stamp_unfold u W h0 h1)
  have HG := Lib.hid (fun W => stamp_fold (unfold u) W n0 n1)
  rw [fold_unfold u h0] at HG
  have HNa := Lib.hid (fun W => st_narrow u k W h0 h1 b0 (by omega))
  rw [if_pos hs, decide_eq_true hs] at HNa
  have HW := Lib.hid (fun W => st_wide u k W h0 h1 b0 (by omega))
  obtain ⟨hsh, w0, w1, p0, p1⟩ := wide_shl u k h0 h1 b0 (by omega)
  have p2 : (2 : Int) ^ (k - 1) ≤ 4611686018427387904 := by
    have h : ∀ k : Fin 63, (2 : Int) ^ k.val ≤ 4611686018427387904 := by decide +kernel
    exact h ⟨k - 1, by omega⟩
  have hdiv : u / 2 ^ k = 0 := Int.ediv_eq_zero_of_lt h0 hs
  clear hs
  generalize wideV u k = q at *
  generalize (⟨(stpTxt (epI u).toNat (ofI u).toNat).toArray⟩ : ByteArray) = T at *
  clear hsz ha hb f0 f1 n0 n1
  generalize fold v = f at *
  generalize unfold u = n at *
  generalize epI u = ep at *
  generalize ofI u = of at *
  clear hv
  go_enter Tryd.func7, Tryd.ntmps7
  go_wp2_with fail
  refine (st_awake _).mono ?_
  rintro e w' ⟨rfl, rfl⟩
  go_wp2_with fail
  refine (HE.out _).mono ?_
  rintro e w' ⟨rfl, rfl⟩
  go_wp2_with fail
  refine (HO.out _).mono ?_
  rintro e w' ⟨rfl, rfl⟩
  go_wp2_with fail
  refine (HP.out _).mono ?_
  rintro e w' ⟨rfl, rfl⟩
  go_wp2_with fail
  refine (HS.out _ HV.out).mono ?_
  rintro e V1 ⟨rfl, hK1⟩
  have HK1 := Lib.hid hK1
  clear hK1
  go_wp2_with fail
  refine (HT.out _ (HV.out.kept HK1.out)).mono ?_
  rintro e V2 ⟨rfl, hK2⟩
  have HK2 := Lib.hid (HK1.out.trans hK2)
  clear hK2 HK1 HV
  go_wp2_with fail
  refine (HF.out _).mono ?_
  rintro e w' ⟨rfl, rfl⟩
  go_wp2_with fail
  refine (HU.out _).mono ?_
  rintro e w' ⟨rfl, rfl⟩
  go_wp2_with fail
  refine (HN.out _).mono ?_
  rintro e w' ⟨rfl, rfl⟩
  go_wp2_with fail
  refine (HG.out _).mono ?_
  rintro e w' ⟨rfl, rfl⟩
  go_wp2_with fail
  refine (HNa.out _).mono ?_
  rintro e w' ⟨rfl, rfl⟩
  go_wp2_with fail
  refine (HW.out _).mono ?_
  rintro e w' ⟨rfl, rfl⟩
  go_wp2_with fail
  go_ret
  exact ⟨rfl, HK2.out⟩
set_option maxRecDepth 100000 in
set_option maxHeartbeats 8000000 in
theorem stBack_out (u v : Int) (k : Nat) (w : World) (h0 : 0 ≤ u) (h1 : u ≤ 18446744073709551615) (v0 : -9223372036854775808 ≤ v) (v1 : v ≤ 9223372036854775807) (b0 : 1 ≤ k) (b1 : k ≤ 63) (hs : ¬ u < 2 ^ k) (hv : StV w) :
    Calls Tryd.prog 7 #[.int .u64 u, .int .i64 v, .int .i64 (k : Int)] w fun e w' => e = .returned (.bool true) ∧ Below w.heap.size w w' := by
  have HV := Lib.hid hv
  have HE := Lib.hid (fun W => stamp_epoch u W h0 h1)
  have HO := Lib.hid (fun W => stamp_off u W h0 h1)
  have HP := Lib.hid (fun W => stamp_pack_yes (epI u) (ofI u) W (by unfold epI; omega) (by unfold epI; omega) (by unfold ofI; omega) (by unfold ofI; omega))
  rw [show epI u * 17592186044416 + ofI u = u by unfold epI ofI; omega] at HP
  have HS := Lib.hid (fun W (h : StV W) => st_string u h0 h1 h)
  have ha : (epI u).toNat < 1048576 := by unfold epI; omega
  have hb : (ofI u).toNat < 17592186044416 := by unfold ofI; omega
  have hsz : (⟨(stpTxt (epI u).toNat (ofI u).toNat).toArray⟩ : ByteArray).size ≤ 281474976710656 := by
    show (List.toArray _).size ≤ _
    rw [List.size_toArray]
    unfold stpTxt
    have := dec_len _ 7 (by omega) (show (epI u).toNat < 10 ^ 7 by omega)
    have := dec_len _ 15 (by omega) (show (ofI u).toNat < 10 ^ 15 by omega)
    simp only [List.length_append, List.length_cons]
    omega
  have HT := Lib.hid (fun W (h : StV W) => st_parse_yes _ hsz _ _ ((prsF_iff _ _ _).2 ⟨ha, hb, rfl⟩) h)
  rw [show ((epI u).toNat : Int) * 17592186044416 + ((ofI u).toNat : Int) = u by unfold epI ofI; omega] at HT
  obtain ⟨f0, f1⟩ := fold_bd v v0 v1
  obtain ⟨n0, n1⟩ := unfold_bd u h0 h1
  have HF := Lib.hid (fun W => stamp_fold v W v0 v1)
  have HU := Lib.hid (fun W => stamp_unfold (fold v) W f0 f1)
  rw [unfold_fold] at HU
  have HN := Lib.hid (fun W => stamp_unfold u W h0 h1)
  have HG := Lib.hid (fun W => stamp_fold (unfold u) W n0 n1)
  rw [fold_unfold u h0] at HG
  have HNa := Lib.hid (fun W => st_narrow u k W h0 h1 b0 (by omega))
  rw [if_neg hs, decide_eq_false hs] at HNa
  have HW := Lib.hid (fun W => st_wide u k W h0 h1 b0 (by omega))
  obtain ⟨hsh, w0, w1, p0, p1⟩ := wide_shl u k h0 h1 b0 (by omega)
  have p2 : (2 : Int) ^ (k - 1) ≤ 4611686018427387904 := by
    have h : ∀ k : Fin 63, (2 : Int) ^ k.val ≤ 4611686018427387904 := by decide +kernel
    exact h ⟨k - 1, by omega⟩
  have hdiv : 1 ≤ u / 2 ^ k := by
    have hp : (0 : Int) < 2 ^ k := Int.pow_pos (by omega)
    rw [Int.le_ediv_iff_mul_le hp]
    omega
  have hdz : (u / 2 ^ k == 0) = false := by rw [beq_eq_false_iff_ne]; omega
  clear hs
  generalize wideV u k = q at *
  generalize (⟨(stpTxt (epI u).toNat (ofI u).toNat).toArray⟩ : ByteArray) = T at *
  clear hsz ha hb f0 f1 n0 n1
  generalize fold v = f at *
  generalize unfold u = n at *
  generalize epI u = ep at *
  generalize ofI u = of at *
  clear hv
  go_enter Tryd.func7, Tryd.ntmps7
  go_wp2_with fail
  refine (st_awake _).mono ?_
  rintro e w' ⟨rfl, rfl⟩
  go_wp2_with fail
  refine (HE.out _).mono ?_
  rintro e w' ⟨rfl, rfl⟩
  go_wp2_with fail
  refine (HO.out _).mono ?_
  rintro e w' ⟨rfl, rfl⟩
  go_wp2_with fail
  refine (HP.out _).mono ?_
  rintro e w' ⟨rfl, rfl⟩
  go_wp2_with fail
  refine (HS.out _ HV.out).mono ?_
  rintro e V1 ⟨rfl, hK1⟩
  have HK1 := Lib.hid hK1
  clear hK1
  go_wp2_with fail
  refine (HT.out _ (HV.out.kept HK1.out)).mono ?_
  rintro e V2 ⟨rfl, hK2⟩
  have HK2 := Lib.hid (HK1.out.trans hK2)
  clear hK2 HK1 HV
  go_wp2_with fail
  refine (HF.out _).mono ?_
  rintro e w' ⟨rfl, rfl⟩
  go_wp2_with fail
  refine (HU.out _).mono ?_
  rintro e w' ⟨rfl, rfl⟩
  go_wp2_with fail
  refine (HN.out _).mono ?_
  rintro e w' ⟨rfl, rfl⟩
  go_wp2_with fail
  refine (HG.out _).mono ?_
  rintro e w' ⟨rfl, rfl⟩
  go_wp2_with fail
  refine (HNa.out _).mono ?_
  rintro e w' ⟨rfl, rfl⟩
  go_wp2_with fail
  refine (HW.out _).mono ?_
  rintro e w' ⟨rfl, rfl⟩
  go_wp2_with fail
  go_ret
  exact ⟨rfl, HK2.out⟩
theorem stampBack_law (v0 v1 v2 : Value) (x0 x1 x2 : Int) (w : World) (w0 : RepV w (.int .u64) v0 x0) (w1 : RepV w (.int .i64) v1 x1) (w2 : RepV w (.int .i64) v2 x2) (hL : laidMetH Tryd.prog Rows.stampBackRow.laid w) :
    Calls Tryd.prog 7 #[v0, v1, v2] w fun e w' => e = .returned (.bool true) ∧ Below w.heap.size w w' := by
  obtain ⟨rfl, h0⟩ := repV_int w0
  obtain ⟨rfl, h1⟩ := repV_int w1
  obtain ⟨rfl, h2⟩ := repV_int w2
  have u0 := wf_bd_u64 h0
  have u1 := wf_bd_i64 h1
  have hv : StV w := stv_of hL
  have hc : x2 < 1 ∨ (1 ≤ x2 ∧ 64 < x2) ∨ x2 = 64 ∨ (1 ≤ x2 ∧ x2 ≤ 63) := by omega
  rcases hc with h | ⟨h, h'⟩ | rfl | ⟨h, h'⟩
  · exact stBack_lo x0 x1 x2 w u0.1 u0.2 u1.1 u1.2 h hv
  · exact stBack_hi x0 x1 x2 w u0.1 u0.2 u1.1 u1.2 h h' hv
  · exact stBack_all x0 x1 w u0.1 u0.2 u1.1 u1.2 hv
  · obtain ⟨k, rfl⟩ := Int.eq_ofNat_of_zero_le (show 0 ≤ x2 by omega)
    by_cases hs : x0 < 2 ^ k
    · exact stBack_in x0 x1 k w u0.1 u0.2 u1.1 u1.2 (by omega) (by omega) hs hv
    · exact stBack_out x0 x1 k w u0.1 u0.2 u1.1 u1.2 (by omega) (by omega) hs hv
end Go.Proofs.YtdiajdbjlhfkpaaDoor
