/- Stamps' texts: String. -/
import Derived.Test.YtdiajdbjlhfkpaaDoorStSmall
import Derived.Test.YtdiajdbjlhfkpaaDoorStLay
import Derived.Test.YtdiajdbjlhfkpaaDoorStPrs
import Derived.Test.YtdiajdbjlhfkpaaDoorMem
import Derived.Lib.AppendIntMem
set_option linter.unusedVariables false
set_option linter.unusedSimpArgs false
namespace Go.Proofs.YtdiajdbjlhfkpaaDoor
open Go.RowKit
theorem var_kept {n : String} {cs : Array Value} {w w' : World} (h : w.var? Tryd.prog n = some cs) (k : Kept w w') : w'.var? Tryd.prog n = some cs := by
  unfold World.var? at h ⊢
  cases hg : Tryd.prog.globalNamed n with
  | none => rw [hg] at h; cases h
  | some g =>
    rw [hg] at h
    have h2 : (match w.heap[g]? with | some (.cells cs _ _) => some cs | _ => none) = some cs := h
    show (match w'.heap[g]? with | some (.cells cs _ _) => some cs | _ => none) = some cs
    cases ho : w.heap[g]? with
    | none => rw [ho] at h2; cases h2
    | some o =>
      rw [k.only.heap ho (by simp), ← ho]
      exact h2
/-- what the listed variables read as -/
structure StV (w : World) : Prop where
  tab : Lib.TabIs Tryd.prog w "internal/strconv.uint64pow10" .u64 Lib.pow10Tab
  es : ∃ tp p, w.var? Tryd.prog "strconv.ErrSyntax" = some #[.iface tp p]
  er : ∃ tp p, w.var? Tryd.prog "strconv.ErrRange" = some #[.iface tp p]
theorem StV.kept {w w' : World} (h : StV w) (k : Kept w w') : StV w' := by
  obtain ⟨h1, ⟨a, b, h2⟩, ⟨c, d, h3⟩⟩ := h
  exact ⟨var_kept h1 k, ⟨a, b, var_kept h2 k⟩, ⟨c, d, var_kept h3 k⟩⟩
theorem st_fmt (n : Nat) (hn : n ≤ 9223372036854775807) {w : World} (hv : StV w) : Calls Tryd.prog 34 #[.int .i64 (n : Int), .int .i64 10] w fun e w' => e = .returned (.string ⟨(Lib.decDigits n).toArray⟩) ∧ Kept w w' := by
  refine (Any.strconv_FormatInt_10 fmtIL (n : Int) (by omega) (by omega) w hv.tab).mono ?_
  rintro e w' ⟨rfl, k, os, rfl⟩
  exact ⟨by rw [Lib.itoa_nonneg], Lib.below_grow _ w (Nat.le_refl _) k os⟩
theorem epI_nat (s : Int) (h0 : 0 ≤ s) (h1 : s ≤ 18446744073709551615) : ∃ e : Nat, epI s = e ∧ e < 1048576 := ⟨(epI s).toNat, by unfold epI; omega, by unfold epI; omega⟩
theorem ofI_nat (s : Int) (h0 : 0 ≤ s) (h1 : s ≤ 18446744073709551615) : ∃ o : Nat, ofI s = o ∧ o < 17592186044416 := ⟨(ofI s).toNat, by unfold ofI; omega, by unfold ofI; omega⟩
set_option maxRecDepth 100000 in
set_option maxHeartbeats 4000000 in
theorem st_string (s : Int) (h0 : 0 ≤ s) (h1 : s ≤ 18446744073709551615) {w : World} (hv : StV w) : Calls Tryd.prog 20 #[.int .u64 s] w fun e w' => e = .returned (.string ⟨(stpTxt (epI s).toNat (ofI s).toNat).toArray⟩) ∧ Kept w w' := by
  obtain ⟨ep, he, hel⟩ := epI_nat s h0 h1
  obtain ⟨of, ho, hol⟩ := ofI_nat s h0 h1
  have HE := Lib.hid (fun W => stamp_epoch s W h0 h1)
  have HO := Lib.hid (fun W => stamp_off s W h0 h1)
  rw [he] at HE ⊢
  rw [ho] at HO ⊢
  rw [Int.toNat_natCast, Int.toNat_natCast]
  have HV := Lib.hid hv
  clear hv he ho
  go_enter Tryd.func20, Tryd.ntmps20
  go_wp2_with fail
  refine (HE.out _).mono ?_
  rintro e w' ⟨rfl, rfl⟩
  have HF := Lib.hid (st_fmt ep (by omega) HV.out)
  obtain ⟨A, hA⟩ : ∃ A : ByteArray, (⟨(Lib.decDigits ep).toArray⟩ : ByteArray) = A := ⟨_, rfl⟩
  rw [hA] at HF
  have hsA : A.size ≤ 15 := by
    rw [← hA]
    show (Lib.decDigits ep).toArray.size ≤ 15
    rw [List.size_toArray]
    exact dec_len ep 15 (by omega) (by omega)
  have HA := Lib.hid hA
  clear hA
  go_wp2_with fail
  refine HF.out.mono ?_
  rintro e V1 ⟨rfl, hK1⟩
  have HK1 := Lib.hid hK1
  clear HF hK1
  go_wp2_with fail
  refine (HO.out _).mono ?_
  rintro e w' ⟨rfl, rfl⟩
  have HF := Lib.hid (st_fmt of (by omega) (HV.out.kept HK1.out))
  obtain ⟨B, hB⟩ : ∃ B : ByteArray, (⟨(Lib.decDigits of).toArray⟩ : ByteArray) = B := ⟨_, rfl⟩
  rw [hB] at HF
  have hsB : B.size ≤ 15 := by
    rw [← hB]
    show (Lib.decDigits of).toArray.size ≤ 15
    rw [List.size_toArray]
    exact dec_len of 15 (by omega) (by omega)
  have HB := Lib.hid hB
  clear hB
  go_wp2_with fail
  refine HF.out.mono ?_
  rintro e V2 ⟨rfl, hK2⟩
  have HK2 := Lib.hid (HK1.out.trans hK2)
  clear HF hK2
  go_wp2_with fail
  go_ret
  refine ⟨?_, HK2.out⟩
  have hAB : A ++ ⟨#[46]⟩ ++ B = (⟨(stpTxt ep of).toArray⟩ : ByteArray) := by
    rw [← HA.out, ← HB.out]
    apply ByteArray.ext
    simp [stpTxt, ByteArray.data_append]
  rw [← hAB]
  rfl
end Go.Proofs.YtdiajdbjlhfkpaaDoor
