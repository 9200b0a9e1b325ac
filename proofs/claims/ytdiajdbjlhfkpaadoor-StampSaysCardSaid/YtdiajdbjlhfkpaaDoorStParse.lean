/- Stamps' texts: Parse. -/
import Derived.Test.YtdiajdbjlhfkpaaDoorStCut
import Derived.Test.YtdiajdbjlhfkpaaDoorStPack
import Derived.Test.YtdiajdbjlhfkpaaDoorStrs
import Derived.Lib.AtoiErrMem
set_option linter.unusedVariables false
set_option linter.unusedSimpArgs false
namespace Go.Proofs.YtdiajdbjlhfkpaaDoor
open Go.RowKit
theorem st_int (s : ByteArray) (hs : s.size ≤ 281474976710656) {w : World} (hv : StV w) : Calls Tryd.prog 33 #[.string s, .int .i64 10, .int .i64 64] w fun e w' => (∃ v er, e = .returned (.tuple #[.int .i64 v, er]) ∧ ((Lib.parseIntB 64 s.data.toList = .ok v ∧ er = .nilIface) ∨ ((∀ x, Lib.parseIntB 64 s.data.toList ≠ .ok x) ∧ ∃ tp p, er = .iface tp p))) ∧ Kept w w' := by
  cases hp : Lib.parseIntB 64 s.data.toList with
  | ok v =>
    refine (Any.strconv_ParseInt_10_at64_ok parIL s (by omega) v hp w).mono ?_
    rintro e w' ⟨rfl, hw⟩
    refine ⟨⟨v, _, rfl, .inl ⟨rfl, rfl⟩⟩, ?_⟩
    rcases hw with rfl | ⟨t, rfl⟩
    · (unfold Kept; repeat (first | exact Below.refl _ _ | assumption | (refine Below.alloc ?_ (by simp) _) | (refine Below.setCell ?_ (by simp) _) | (refine Below.drew ?_) | (refine below_drewN ?_ _)))
    · exact Lib.bytesWorld_below ..
  | range =>
    obtain ⟨tp, p, h⟩ := hv.er
    refine (Any.strconv_ParseInt_10_at64_range_var parIL s hs hp tp p w h).mono ?_
    rintro e w' ⟨N, rfl, -, -, hw⟩
    exact ⟨⟨_, _, rfl, .inr ⟨(fun x h => by cases h), _, _, rfl⟩⟩, hw⟩
  | _ =>
    obtain ⟨tp, p, h⟩ := hv.es
    refine (Any.strconv_ParseInt_10_at64_syntax_var parIL s hs hp tp p w h).mono ?_
    rintro e w' ⟨N, rfl, -, -, hw⟩
    exact ⟨⟨_, _, rfl, .inr ⟨(fun x h => by cases h), _, _, rfl⟩⟩, hw⟩
theorem cut_size (l : List UInt8) : (Lib.cut l [46]).1.length ≤ l.length ∧ (Lib.cut l [46]).2.1.length ≤ l.length := by
  rcases cut46 l with ⟨a, b, h1, -, h2⟩ | ⟨-, h2⟩
  · rw [h2, h1]; simp; omega
  · rw [h2]; simp
theorem ba_ne {a b : ByteArray} (h : a.data.toList ≠ b.data.toList) : a ≠ b := fun e => h (by rw [e])
set_option maxRecDepth 100000 in
set_option maxHeartbeats 4000000 in
theorem st_parse_no (t : ByteArray) (ht : t.size ≤ 281474976710656) (h : prsF t.data.toList = none) {w : World} (hv : StV w) : Calls Tryd.prog 19 #[.string t] w fun e w' => e = .returned (.tuple #[.int .u64 0, .bool false]) ∧ Kept w w' := by
  have HV := Lib.hid hv
  have HC := Lib.hid (st_cut t ht)
  have hsz := cut_size t.data.toList
  have htl : t.data.toList.length = t.size := rfl
  obtain ⟨A, hA⟩ : ∃ A : ByteArray, (⟨(Lib.cut t.data.toList [46]).1.toArray⟩ : ByteArray) = A := ⟨_, rfl⟩
  obtain ⟨B, hB⟩ : ∃ A : ByteArray, (⟨(Lib.cut t.data.toList [46]).2.1.toArray⟩ : ByteArray) = A := ⟨_, rfl⟩
  have hsA : A.size ≤ 281474976710656 := by
    rw [← hA]
    show (List.toArray _).size ≤ _
    rw [List.size_toArray]; omega
  have hsB : B.size ≤ 281474976710656 := by
    rw [← hB]
    show (List.toArray _).size ≤ _
    rw [List.size_toArray]; omega
  rw [hA, hB] at HC
  generalize (Lib.cut t.data.toList [46]).2.2 = f at HC
  have HT := Lib.hid (show ∀ e o : Nat, e < 1048576 → o < 17592186044416 → (⟨(stpTxt e o).toArray⟩ : ByteArray) ≠ t from fun e o he ho hh => prsF_none h e o he ho (by rw [← hh]))
  clear hv hA hB hsz htl h
  go_enter Tryd.func19, Tryd.ntmps19
  go_wp2_with fail
  refine (HC.out _).mono ?_
  rintro e V1 ⟨rfl, hK1⟩
  have HK1 := Lib.hid hK1
  clear HC hK1
  go_wp2_with fail
  refine (st_int A hsA (HV.out.kept HK1.out)).mono ?_
  rintro e V2 ⟨⟨v1, er1, rfl, h1⟩, hK2⟩
  have HK2 := Lib.hid (HK1.out.trans hK2)
  clear HK1 hK2
  go_wp2_with fail
  refine (st_int B hsB (HV.out.kept HK2.out)).mono ?_
  rintro e V3 ⟨⟨v2, er2, rfl, h2⟩, hK3⟩
  have HK3 := Lib.hid (HK2.out.trans hK3)
  clear HK2 hK3
  replace h1 : er1 = .nilIface ∨ ∃ tp p, er1 = .iface tp p := h1.imp (·.2) (·.2)
  replace h2 : er2 = .nilIface ∨ ∃ tp p, er2 = .iface tp p := h2.imp (·.2) (·.2)
  by_cases hP : 0 ≤ v1 ∧ v1 ≤ 1048575 ∧ 0 ≤ v2 ∧ v2 ≤ 17592186044415
  · obtain ⟨p1, p2, p3, p4⟩ := hP
    have HQ := Lib.hid (fun W => stamp_pack_yes v1 v2 W p1 p2 p3 p4)
    have hS0 : 0 ≤ v1 * 17592186044416 + v2 := by omega
    have hS1 : v1 * 17592186044416 + v2 ≤ 18446744073709551615 := by omega
    have hS2 : (epI (v1 * 17592186044416 + v2)).toNat < 1048576 := by unfold epI; omega
    have hS3 : (ofI (v1 * 17592186044416 + v2)).toNat < 17592186044416 := by unfold ofI; omega
    have hne := HT.out _ _ hS2 hS3
    have HS := Lib.hid (fun W (h : StV W) => st_string (v1 * 17592186044416 + v2) hS0 hS1 h)
    generalize (⟨(stpTxt (epI (v1 * 17592186044416 + v2)).toNat (ofI (v1 * 17592186044416 + v2)).toNat).toArray⟩ : ByteArray) = X at HS hne
    generalize v1 * 17592186044416 + v2 = q at HQ HS
    clear hS0 hS1 hS2 hS3 HT
    go_wp2_with fail
    refine (HQ.out _).mono ?_
    rintro e W1 ⟨rfl, rfl⟩
    clear HQ
    rcases h1 with rfl | ⟨tp, p, rfl⟩
    · rcases h2 with rfl | ⟨tp, p, rfl⟩
      · have hneB := str_ne hne
        go_wp2_with fail
        refine (HS.out _ (HV.out.kept HK3.out)).mono ?_
        rintro e W1 ⟨rfl, hK4⟩
        have HK4 := Lib.hid (HK3.out.trans hK4)
        clear hK4
        go_wp2_with fail
        exact bodyPost_ret (v := .tuple #[.int .u64 0, .bool false]) (by simp [results, Tryd.results19, go_sem]) rfl ⟨rfl, HK4.out⟩
      · go_wp2_with fail
        exact bodyPost_ret (v := .tuple #[.int .u64 0, .bool false]) (by simp [results, Tryd.results19, go_sem]) rfl ⟨rfl, HK3.out⟩
    · go_wp2_with fail
      exact bodyPost_ret (v := .tuple #[.int .u64 0, .bool false]) (by simp [results, Tryd.results19, go_sem]) rfl ⟨rfl, HK3.out⟩
  · have HQ := Lib.hid (fun W => stamp_pack_no v1 v2 W (by omega))
    clear hP
    go_wp2_with fail
    refine (HQ.out _).mono ?_
    rintro e W1 ⟨rfl, rfl⟩
    clear HQ
    rcases h1 with rfl | ⟨tp, p, rfl⟩
    · rcases h2 with rfl | ⟨tp, p, rfl⟩
      all_goals
        go_wp2_with fail
        exact bodyPost_ret (v := .tuple #[.int .u64 0, .bool false]) (by simp [results, Tryd.results19, go_sem]) rfl ⟨rfl, HK3.out⟩
    · go_wp2_with fail
      exact bodyPost_ret (v := .tuple #[.int .u64 0, .bool false]) (by simp [results, Tryd.results19, go_sem]) rfl ⟨rfl, HK3.out⟩
set_option maxRecDepth 100000 in
set_option maxHeartbeats 4000000 in
theorem st_parse_yes (t : ByteArray) (ht : t.size ≤ 281474976710656) (a b : Nat) (h : prsF t.data.toList = some (a, b)) {w : World} (hv : StV w) : Calls Tryd.prog 19 #[.string t] w fun e w' => e = .returned (.tuple #[.int .u64 ((a : Int) * 17592186044416 + b), .bool true]) ∧ Kept w w' := by
  have HV := Lib.hid hv
  have HC := Lib.hid (st_cut t ht)
  obtain ⟨ha, hb, hT⟩ := (prsF_iff _ _ _).1 h
  obtain ⟨hC, hA, hB⟩ := prsF_cut h
  have hsz := cut_size t.data.toList
  have htl : t.data.toList.length = t.size := rfl
  rw [hC] at HC hsz
  dsimp only at HC hsz
  have hsA : (⟨(Lib.decDigits a).toArray⟩ : ByteArray).size ≤ 281474976710656 := by
    show (List.toArray _).size ≤ _
    rw [List.size_toArray]; omega
  have hsB : (⟨(Lib.decDigits b).toArray⟩ : ByteArray).size ≤ 281474976710656 := by
    show (List.toArray _).size ≤ _
    rw [List.size_toArray]; omega
  have HA := Lib.hid (fun (V : World) (hV : StV V) => (st_int ⟨(Lib.decDigits a).toArray⟩ hsA hV).mono fun e w' he => (by
    obtain ⟨⟨v, er, rfl, h⟩, hk⟩ := he
    rcases h with ⟨h1, rfl⟩ | ⟨h1, -⟩
    · have h1 : Lib.parseIntB 64 (Lib.decDigits a) = .ok v := h1
      rw [hA] at h1
      injection h1 with h1
      exact ⟨by rw [h1], hk⟩
    · exact absurd hA (h1 _) : e = .returned (.tuple #[.int .i64 (a : Int), .nilIface]) ∧ Kept V w'))
  have HB := Lib.hid (fun (V : World) (hV : StV V) => (st_int ⟨(Lib.decDigits b).toArray⟩ hsB hV).mono fun e w' he => (by
    obtain ⟨⟨v, er, rfl, h⟩, hk⟩ := he
    rcases h with ⟨h1, rfl⟩ | ⟨h1, -⟩
    · have h1 : Lib.parseIntB 64 (Lib.decDigits b) = .ok v := h1
      rw [hB] at h1
      injection h1 with h1
      exact ⟨by rw [h1], hk⟩
    · exact absurd hB (h1 _) : e = .returned (.tuple #[.int .i64 (b : Int), .nilIface]) ∧ Kept V w'))
  have HQ := Lib.hid (fun W => stamp_pack_yes a b W (by omega) (by omega) (by omega) (by omega))
  have HS := Lib.hid (fun W (h : StV W) => st_string ((a : Int) * 17592186044416 + b) (by omega) (by omega) h)
  have e1 : (epI ((a : Int) * 17592186044416 + b)).toNat = a := by unfold epI; omega
  have e2 : (ofI ((a : Int) * 17592186044416 + b)).toNat = b := by unfold ofI; omega
  have e3 : (⟨(stpTxt a b).toArray⟩ : ByteArray) = t := by
    rw [← hT]
  rw [e1, e2, e3] at HS
  have hEq := str_eq t
  clear hv hsz htl hC hA hB hT h e1 e2 e3
  generalize (⟨(Lib.decDigits a).toArray⟩ : ByteArray) = A at *
  generalize (⟨(Lib.decDigits b).toArray⟩ : ByteArray) = B at *
  generalize (a : Int) * 17592186044416 + b = q at *
  go_enter Tryd.func19, Tryd.ntmps19
  go_wp2_with fail
  refine (HC.out _).mono ?_
  rintro e V1 ⟨rfl, hK1⟩
  have HK1 := Lib.hid hK1
  clear HC hK1
  go_wp2_with fail
  refine (HA.out _ (HV.out.kept HK1.out)).mono ?_
  rintro e V2 ⟨rfl, hK2⟩
  have HK2 := Lib.hid (HK1.out.trans hK2)
  clear HK1 hK2
  go_wp2_with fail
  refine (HB.out _ (HV.out.kept HK2.out)).mono ?_
  rintro e V3 ⟨rfl, hK3⟩
  have HK3 := Lib.hid (HK2.out.trans hK3)
  clear HK2 hK3
  go_wp2_with fail
  refine (HQ.out _).mono ?_
  rintro e W1 ⟨rfl, rfl⟩
  clear HQ
  go_wp2_with fail
  refine (HS.out _ (HV.out.kept HK3.out)).mono ?_
  rintro e W1 ⟨rfl, hK4⟩
  have HK4 := Lib.hid (HK3.out.trans hK4)
  clear hK4
  go_wp2_with fail
  exact bodyPost_ret (v := .tuple #[.int .u64 q, .bool true]) (by simp [results, Tryd.results19, go_sem]) rfl ⟨rfl, HK4.out⟩
end Go.Proofs.YtdiajdbjlhfkpaaDoor
