/- The document's events: Name, GoodEvent. -/
import Derived.Test.YteaepgbakcifkaaDoorEvD1
set_option linter.unusedVariables false
set_option linter.unusedSimpArgs false
namespace Go.Proofs.YteaepgbakcifkaaDoor
open Go.RowKit
theorem alnum_iff (c : UInt8) : alnum.contains c = (decide (97 ≤ c.toNat ∧ c.toNat ≤ 122) || decide (48 ≤ c.toNat ∧ c.toNat ≤ 57)) := by
  have h : ∀ n : Fin 256, alnum.contains (UInt8.ofNat n.val) = (decide (97 ≤ (UInt8.ofNat n.val).toNat ∧ (UInt8.ofNat n.val).toNat ≤ 122) || decide (48 ≤ (UInt8.ofNat n.val).toNat ∧ (UInt8.ofNat n.val).toNat ≤ 57)) := by decide +kernel
  have := h ⟨c.toNat, c.toNat_lt⟩
  simpa using this
theorem name_get (s : ByteArray) (i : Nat) (hi : i < s.size) : s.data.toList = s.data.toList.take i ++ s[i]'hi :: s.data.toList.drop (i + 1) := by
  have h : s.data.toList.drop i = s[i]'hi :: s.data.toList.drop (i + 1) := List.drop_eq_getElem_cons (l := s.data.toList) (by show i < s.data.size; exact hi)
  rw [← h, List.take_append_drop]
theorem name_bad (s : ByteArray) (i : Nat) (hi : i < s.size) (h : ¬ ((97 ≤ (s[i]'hi).toNat ∧ (s[i]'hi).toNat ≤ 122) ∨ (48 ≤ (s[i]'hi).toNat ∧ (s[i]'hi).toNat ≤ 57))) : nameOk s = false := by
  unfold nameOk
  rw [name_get s i hi, List.all_append, List.all_cons, alnum_iff, decide_eq_false (fun e => h (.inl e)), decide_eq_false (fun e => h (.inr e))]
  simp
theorem name_step (s : ByteArray) (i : Nat) (hi : i < s.size) (h : (97 ≤ (s[i]'hi).toNat ∧ (s[i]'hi).toNat ≤ 122) ∨ (48 ≤ (s[i]'hi).toNat ∧ (s[i]'hi).toNat ≤ 57)) (ha : (s.data.toList.take i).all (alnum.contains ·) = true) : (s.data.toList.take (i + 1)).all (alnum.contains ·) = true := by
  have hd : s.data.toList.take (i + 1) = s.data.toList.take i ++ [s[i]'hi] := List.take_succ_eq_append_getElem (l := s.data.toList) (by show i < s.data.size; exact hi)
  rw [hd, List.all_append, ha, List.all_cons, alnum_iff]
  rcases h with h | h
  · rw [decide_eq_true h]; rfl
  · rw [decide_eq_true (p := 48 ≤ _ ∧ _) h]; simp
set_option maxRecDepth 100000 in
set_option maxHeartbeats 4000000 in
theorem rv_name (s : ByteArray) (hs : s.size ≤ 281474976710656) (w : World) : Calls Tryd.prog 39 #[.string s] w fun e w' => e = .returned (.bool (nameOk s)) ∧ w = w' := by
  have HBad := Lib.hid (fun i hi h => name_bad s i hi h)
  have HStep := Lib.hid (fun i hi h ha => name_step s i hi h ha)
  obtain ⟨b, hb⟩ : ∃ b, nameOk s = b := ⟨_, rfl⟩
  have HB := Lib.hid hb
  rw [hb]
  clear hb
  go_enter Tryd.func39, Tryd.ntmps39
  go_wp2_with fail
  go_loopw [3] (fun vi wr => ∃ i : Nat, vi = .int .i64 (i : Nat) ∧ i ≤ s.size ∧ Hid ((s.data.toList.take i).all (alnum.contains ·) = true) ∧ wr = w) (fun vi _ => s.size - (intOf vi).toNat)
  case atStart => exact ⟨0, rfl, by omega, by simp [Hid], rfl⟩
  case round =>
    obtain ⟨i, rfl, hi, HN, rfl⟩ := hrel
    by_cases hlt : i < s.size
    · have hlt' : (i : Int) < s.size := by omega
      have hbad := HBad.out i hlt
      have hstep := HStep.out i hlt
      clear HBad HStep
      generalize hc : (s[i]'hlt).toNat = c at hbad hstep
      have hcases : c < 48 ∨ (48 ≤ c ∧ c ≤ 57) ∨ (57 < c ∧ c < 97) ∨ (97 ≤ c ∧ c ≤ 122) ∨ 122 < c := by omega
      rcases hcases with h | ⟨h, h2⟩ | ⟨h, h2⟩ | ⟨h, h2⟩ | h
      · have HT := Lib.hid (HB.out.symm.trans (hbad (by omega)))
        have c1 : (((s[i]'hlt).toNat : Nat) : Int) < 48 := by omega
        have c2 : (((s[i]'hlt).toNat : Nat) : Int) < 97 := by omega
        clear hbad hstep hc h HB
        go_wp2_with fail
        go_ret
        exact ⟨by rw [HT.out]; rfl, rfl⟩
      · have HN2 := Lib.hid (hstep (by omega) HN.out)
        have c1 : (48 : Int) ≤ (((s[i]'hlt).toNat : Nat) : Int) := by omega
        have c2 : (((s[i]'hlt).toNat : Nat) : Int) ≤ 57 := by omega
        have c3 : (((s[i]'hlt).toNat : Nat) : Int) < 97 := by omega
        clear hbad hstep hc h h2 HN
        go_wp2_with fail
        go_roundw
        case rel => exact ⟨i + 1, by go_num, by omega, HN2, trivial⟩
        case measure => simp [intOf]; omega
      · have HT := Lib.hid (HB.out.symm.trans (hbad (by omega)))
        have c1 : (57 : Int) < (((s[i]'hlt).toNat : Nat) : Int) := by omega
        have c2 : (((s[i]'hlt).toNat : Nat) : Int) < 97 := by omega
        have c3 : (48 : Int) ≤ (((s[i]'hlt).toNat : Nat) : Int) := by omega
        clear hbad hstep hc h h2 HB
        go_wp2_with fail
        go_ret
        exact ⟨by rw [HT.out]; rfl, rfl⟩
      · have HN2 := Lib.hid (hstep (by omega) HN.out)
        have c1 : (97 : Int) ≤ (((s[i]'hlt).toNat : Nat) : Int) := by omega
        have c2 : (((s[i]'hlt).toNat : Nat) : Int) ≤ 122 := by omega
        clear hbad hstep hc h h2 HN
        go_wp2_with fail
        go_roundw
        case rel => exact ⟨i + 1, by go_num, by omega, HN2, trivial⟩
        case measure => simp [intOf]; omega
      · have HT := Lib.hid (HB.out.symm.trans (hbad (by omega)))
        have c1 : (122 : Int) < (((s[i]'hlt).toNat : Nat) : Int) := by omega
        have c2 : (97 : Int) ≤ (((s[i]'hlt).toNat : Nat) : Int) := by omega
        have c3 : (57 : Int) < (((s[i]'hlt).toNat : Nat) : Int) := by omega
        have c4 : (48 : Int) ≤ (((s[i]'hlt).toNat : Nat) : Int) := by omega
        clear hbad hstep hc h HB
        go_wp2_with fail
        go_ret
        exact ⟨by rw [HT.out]; rfl, rfl⟩
    · have hge : (s.size : Int) ≤ i := by omega
      have hall : s.data.toList.all (alnum.contains ·) = true := by
        have := HN.out
        rwa [List.take_of_length_le (by show s.size ≤ i; omega)] at this
      have HT := Lib.hid (show b = (decide ((1 : Int) ≤ s.size) && decide ((s.size : Int) ≤ 16)) from by
        rw [← HB.out]
        unfold nameOk
        rw [hall]
        rw [Bool.eq_iff_iff]
        simp
        omega)
      clear hall HN HB HBad HStep
      by_cases h1 : (1 : Int) ≤ s.size
      · rw [decide_eq_true h1] at HT
        go_wp2_with fail
        go_ret
        exact ⟨by rw [HT.out]; rfl, rfl⟩
      · rw [decide_eq_false h1] at HT
        have h1 : (s.size : Int) < 1 := by omega
        go_wp2_with fail
        go_ret
        exact ⟨by rw [HT.out]; rfl, rfl⟩
end Go.Proofs.YteaepgbakcifkaaDoor
