/- The document's Text. -/
import Derived.Test.YtdiajdbjlhfkpaaDoorStNumR
set_option linter.unusedVariables false
set_option linter.unusedSimpArgs false
namespace Go.Proofs.YtdiajdbjlhfkpaaDoor
open Go.RowKit
set_option maxRecDepth 100000 in
set_option maxHeartbeats 4000000 in
theorem rs_text (s : Int) (h0 : 0 ≤ s) (h1 : s ≤ 18446744073709551615) (w : World) : Calls Tryd.prog 27 #[.int .u64 s] w fun e w' => e = .returned (.string ⟨(stpTxt (epI s).toNat (ofI s).toNat).toArray⟩) ∧ Kept w w' := by
  obtain ⟨ep, he, hel⟩ := epI_nat s h0 h1
  obtain ⟨of, ho, hol⟩ := ofI_nat s h0 h1
  have HE := Lib.hid (fun W => rs_epoch s W h0 h1)
  have HO := Lib.hid (fun W => rs_off s W h0 h1)
  rw [he] at HE ⊢
  rw [ho] at HO ⊢
  rw [Int.toNat_natCast, Int.toNat_natCast]
  have HA := Lib.hid (fun W => rs_num ep (by omega) W)
  have HB := Lib.hid (fun W => rs_num of (by omega) W)
  have hsA : (⟨(Lib.decDigits ep).toArray⟩ : ByteArray).size ≤ 20 := by
    show (List.toArray _).size ≤ 20
    rw [List.size_toArray]
    exact dec_len _ 20 (by omega) (by omega)
  have hsB : (⟨(Lib.decDigits of).toArray⟩ : ByteArray).size ≤ 20 := by
    show (List.toArray _).size ≤ 20
    rw [List.size_toArray]
    exact dec_len _ 20 (by omega) (by omega)
  have hR : (⟨(stpTxt ep of).toArray⟩ : ByteArray) = ⟨(Lib.decDigits ep).toArray⟩ ++ ⟨#[46]⟩ ++ ⟨(Lib.decDigits of).toArray⟩ := by
    apply ByteArray.ext
    simp [stpTxt, ByteArray.data_append]
  rw [hR]
  generalize (⟨(Lib.decDigits ep).toArray⟩ : ByteArray) = A at *
  generalize (⟨(Lib.decDigits of).toArray⟩ : ByteArray) = B at *
  clear hR he ho
  go_enter Tryd.func27, Tryd.ntmps27
  go_wp2_with fail
  refine (HE.out _).mono ?_
  rintro e w' ⟨rfl, rfl⟩
  go_wp2_with fail
  refine (HA.out _).mono ?_
  rintro e V1 ⟨rfl, hK1⟩
  have HK1 := Lib.hid hK1
  clear hK1
  go_wp2_with fail
  refine (HO.out _).mono ?_
  rintro e w' ⟨rfl, rfl⟩
  go_wp2_with fail
  refine (HB.out _).mono ?_
  rintro e V2 ⟨rfl, hK2⟩
  have HK2 := Lib.hid (HK1.out.trans hK2)
  clear hK2
  go_wp2_with fail
  go_ret
  exact ⟨rfl, HK2.out⟩
end Go.Proofs.YtdiajdbjlhfkpaaDoor
