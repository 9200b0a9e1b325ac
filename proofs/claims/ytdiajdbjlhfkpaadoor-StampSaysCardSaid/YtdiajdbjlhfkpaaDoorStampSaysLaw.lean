/- StampSays: the law. -/
import Derived.Test.YtdiajdbjlhfkpaaDoorStBoth
set_option linter.unusedVariables false
set_option linter.unusedSimpArgs false
namespace Go.Proofs.YtdiajdbjlhfkpaaDoor
open Go.RowKit
set_option maxRecDepth 100000 in
set_option maxHeartbeats 8000000 in
theorem stSays (e o u v b : Int) (t : ByteArray) (w : World) (h0 : 0 ≤ u) (h1 : u ≤ 18446744073709551615) (v0 : -9223372036854775808 ≤ v) (v1 : v ≤ 9223372036854775807) (ht : t.size ≤ 281474976710656) (hv : StV w) :
    Calls Tryd.prog 9 #[.int .i64 e, .int .i64 o, .int .u64 u, .int .i64 v, .int .i64 b, .string t] w fun e w' => e = .returned (.bool true) ∧ Below w.heap.size w w' := by
  have HV := Lib.hid hv
  have HE := Lib.hid (fun W => stamp_epoch u W h0 h1)
  have HO := Lib.hid (fun W => stamp_off u W h0 h1)
  have HRE := Lib.hid (fun W => rs_epoch u W h0 h1)
  have HRO := Lib.hid (fun W => rs_off u W h0 h1)
  obtain ⟨qp, fp, hp1, hp2⟩ := both_pack e o
  have HP1 := Lib.hid hp1
  have HP2 := Lib.hid hp2
  obtain ⟨qt, ft, hp1, hp2⟩ := both_parse t ht
  have HT1 := Lib.hid hp1
  have HT2 := Lib.hid hp2
  obtain ⟨qn, fn, hp1, hp2⟩ := both_narrow u b h0 h1
  have HN1 := Lib.hid hp1
  have HN2 := Lib.hid hp2
  obtain ⟨qx, fx, hp1, hp2⟩ := both_next u h0 h1
  have HX1 := Lib.hid hp1
  have HX2 := Lib.hid hp2
  obtain ⟨qu, fu, hp1, hp2⟩ := both_up u h0 h1
  have HU1 := Lib.hid hp1
  have HU2 := Lib.hid hp2
  obtain ⟨qw, hp1, hp2⟩ := both_wide u b h0 h1
  have HW1 := Lib.hid hp1
  have HW2 := Lib.hid hp2
  clear hp1 hp2
  have HF1 := Lib.hid (fun W => stamp_fold v W v0 v1)
  have HF2 := Lib.hid (fun W => rs_fold v W v0 v1)
  have HG1 := Lib.hid (fun W => stamp_unfold u W h0 h1)
  have HG2 := Lib.hid (fun W => rs_unfold u W h0 h1)
  have HS1 := Lib.hid (fun W (h : StV W) => st_string u h0 h1 h)
  have HS2 := Lib.hid (fun W => rs_text u h0 h1 W)
  generalize (⟨(stpTxt (epI u).toNat (ofI u).toNat).toArray⟩ : ByteArray) = T at *
  have x0 : 0 ≤ epI u ∧ epI u ≤ 1048575 := by unfold epI; omega
  have y0 : 0 ≤ ofI u ∧ ofI u ≤ 17592186044415 := by unfold ofI; omega
  obtain ⟨x0, x1⟩ := x0
  obtain ⟨y0, y1⟩ := y0
  have hw1 : IntKind.i64.wrap (ofI u + 1) = ofI u + 1 := by rw [IntKind.wrap_i64]; omega
  have hw2 : IntKind.i64.wrap (epI u + 1) = epI u + 1 := by rw [IntKind.wrap_i64]; omega
  have hEq := str_eq T
  clear ht
  generalize fold v = f at *
  generalize unfold u = n at *
  generalize epI u = ep at *
  generalize ofI u = of at *
  clear hv
  go_enter Tryd.func9, Tryd.ntmps9
  go_wp2_with fail
  refine (st_awake _).mono ?_
  rintro e w' ⟨rfl, rfl⟩
  go_wp2_with fail
  refine (HP1.out _).mono ?_
  rintro e w' ⟨rfl, rfl⟩
  go_wp2_with fail
  refine (HP2.out _).mono ?_
  rintro e w' ⟨rfl, rfl⟩
  go_wp2_with fail
  refine (HT1.out _ HV.out).mono ?_
  rintro e V1 ⟨rfl, hK1⟩
  have HK1 := Lib.hid hK1
  clear hK1
  go_wp2_with fail
  refine (HT2.out _).mono ?_
  rintro e w' ⟨rfl, rfl⟩
  go_wp2_with fail
  refine (HN1.out _).mono ?_
  rintro e w' ⟨rfl, rfl⟩
  go_wp2_with fail
  refine (HN2.out _).mono ?_
  rintro e w' ⟨rfl, rfl⟩
  go_wp2_with fail
  refine (HX1.out _).mono ?_
  rintro e w' ⟨rfl, rfl⟩
  go_wp2_with fail
  refine (HU1.out _).mono ?_
  rintro e w' ⟨rfl, rfl⟩
  go_wp2_with fail
  refine (HRE.out _).mono ?_
  rintro e w' ⟨rfl, rfl⟩
  go_wp2_with fail
  refine (HRO.out _).mono ?_
  rintro e w' ⟨rfl, rfl⟩
  go_wp2_with fail
  refine (HX2.out _).mono ?_
  rintro e w' ⟨rfl, rfl⟩
  go_wp2_with fail
  refine (HRE.out _).mono ?_
  rintro e w' ⟨rfl, rfl⟩
  go_wp2_with fail
  refine (HRO.out _).mono ?_
  rintro e w' ⟨rfl, rfl⟩
  go_wp2_with fail
  refine (HU2.out _).mono ?_
  rintro e w' ⟨rfl, rfl⟩
  go_wp2_with fail
  refine (HE.out _).mono ?_
  rintro e w' ⟨rfl, rfl⟩
  go_wp2_with fail
  refine (HRE.out _).mono ?_
  rintro e w' ⟨rfl, rfl⟩
  go_wp2_with fail
  refine (HO.out _).mono ?_
  rintro e w' ⟨rfl, rfl⟩
  go_wp2_with fail
  refine (HRO.out _).mono ?_
  rintro e w' ⟨rfl, rfl⟩
  go_wp2_with fail
  refine (HS1.out _ (HV.out.kept HK1.out)).mono ?_
  rintro e V2 ⟨rfl, hK2⟩
  have HK2 := Lib.hid (HK1.out.trans hK2)
  clear hK2 HK1
  go_wp2_with fail
  refine (HS2.out _).mono ?_
  rintro e V3 ⟨rfl, hK3⟩
  have HK3 := Lib.hid (HK2.out.trans hK3)
  clear hK3 HK2
  go_wp2_with fail
  refine (HF1.out _).mono ?_
  rintro e w' ⟨rfl, rfl⟩
  go_wp2_with fail
  refine (HF2.out _).mono ?_
  rintro e w' ⟨rfl, rfl⟩
  go_wp2_with fail
  refine (HG1.out _).mono ?_
  rintro e w' ⟨rfl, rfl⟩
  go_wp2_with fail
  refine (HG2.out _).mono ?_
  rintro e w' ⟨rfl, rfl⟩
  go_wp2_with fail
  refine (HW1.out _).mono ?_
  rintro e w' ⟨rfl, rfl⟩
  go_wp2_with fail
  refine (HW2.out _).mono ?_
  rintro e w' ⟨rfl, rfl⟩
  go_wp2_with fail
  go_ret
  exact ⟨rfl, HK3.out⟩
theorem stampSays_law (v0 v1 v2 v3 v4 v5 : Value) (x0 x1 x2 x3 x4 : Int) (x5 : ByteArray) (w : World) (w0 : RepV w (.int .i64) v0 x0) (w1 : RepV w (.int .i64) v1 x1) (w2 : RepV w (.int .u64) v2 x2) (w3 : RepV w (.int .i64) v3 x3) (w4 : RepV w (.int .i64) v4 x4) (w5 : RepV w .str v5 x5) (hs5 : x5.size ≤ 140737488355328) (hL : laidMetH Tryd.prog Rows.stampSaysRow.laid w) :
    Calls Tryd.prog 9 #[v0, v1, v2, v3, v4, v5] w fun e w' => e = .returned (.bool true) ∧ Below w.heap.size w w' := by
  obtain ⟨rfl, h0⟩ := repV_int w0
  obtain ⟨rfl, h1⟩ := repV_int w1
  obtain ⟨rfl, h2⟩ := repV_int w2
  obtain ⟨rfl, h3⟩ := repV_int w3
  obtain ⟨rfl, h4⟩ := repV_int w4
  obtain ⟨rfl, h5⟩ := repV_str w5
  have u0 := wf_bd_u64 h2
  have u1 := wf_bd_i64 h3
  have hv : StV w := stv_of hL
  exact stSays x0 x1 x2 x3 x4 x5 w u0.1 u0.2 u1.1 u1.2 (by omega) hv
end Go.Proofs.YtdiajdbjlhfkpaaDoor
