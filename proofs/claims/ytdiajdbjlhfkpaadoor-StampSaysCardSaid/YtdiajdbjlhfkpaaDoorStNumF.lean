/- The document's Parse. -/
import Derived.Test.YtdiajdbjlhfkpaaDoorStNumE
set_option linter.unusedVariables false
set_option linter.unusedSimpArgs false
namespace Go.Proofs.YtdiajdbjlhfkpaaDoor
open Go.RowKit
/-- what a pair of halves comes to -/
def hitV (a b : Option Nat) : Value := prsV (parB a b)
set_option maxRecDepth 100000 in
set_option maxHeartbeats 4000000 in
theorem rs_parse_hit (t A B : ByteArray) (n : Nat) (ht : t.size ≤ 281474976710656) (hn : n < t.size) (hA : t.extract 0 n = A) (hB : t.extract (n + 1) t.size = B)
    (hmin : ∀ i (hi : i < t.size), i < n → t.data.toList[i]'hi ≠ 46) (hat : t.data.toList[n]'hn = 46) (a b : Option Nat) (ha : numB A.data.toList = a) (hb : numB B.data.toList = b) (w : World) :
    Calls Tryd.prog 23 #[.string t] w fun e w' => e = .returned (hitV a b) ∧ w = w' := by
  have HN := Lib.hid (fun (i : Nat) (hi : i < t.size) (h : i < n) => get_ne46 t i hi (hmin i hi h))
  have h46 := get_46 t n hn hat
  have HA := Lib.hid (fun W => rs_number A W)
  have HB := Lib.hid (fun W => rs_number B W)
  rw [ha] at HA
  rw [hb] at HB
  clear hmin hat ha hb
  have hnt : (n : Int) < t.size := by omega
  have c2 : (n : Int) ≤ ↑t.size := by omega
  have c4 : (n + 1 : Int) ≤ ↑t.size := by omega
  have hW2 : ((n : Int) + 1).toNat = n + 1 := by omega
  have hW3 : (n : Int).toNat = n := by omega
  have hcase : (a = none ∨ b = none) ∨ (∃ e o : Nat, a = some e ∧ b = some o ∧ e < 1048576 ∧ o < 17592186044416) ∨ (∃ e o : Nat, a = some e ∧ b = some o ∧ ¬ (e < 1048576 ∧ o < 17592186044416)) := by
    cases a with
    | none => exact .inl (.inl rfl)
    | some e =>
      cases b with
      | none => exact .inl (.inr rfl)
      | some o =>
        by_cases h : e < 1048576 ∧ o < 17592186044416
        · exact .inr (.inl ⟨e, o, rfl, rfl, h.1, h.2⟩)
        · exact .inr (.inr ⟨e, o, rfl, rfl, h⟩)
  go_enter Tryd.func23, Tryd.ntmps23
  go_wp2_with fail
  go_loopw [4] (fun vi wr => ∃ i : Nat, vi = .int .i64 (i : Nat) ∧ i ≤ n ∧ wr = w) (fun vi _ => t.size - (intOf vi).toNat)
  case atStart => exact ⟨0, rfl, by omega, rfl⟩
  case round =>
    obtain ⟨i, rfl, hi, rfl⟩ := hrel
    by_cases hlt : i < n
    · have hlt' : (i : Int) < t.size := by omega
      have hN := HN.out i (by omega) hlt
      go_wp2_with fail
      go_roundw
      case rel => exact ⟨i + 1, by go_num, by omega, trivial⟩
      case measure => simp [intOf]; omega
    · obtain rfl : i = n := by omega
      rcases hcase with h | ⟨e, o, rfl, rfl, h1, h2⟩ | ⟨e, o, rfl, rfl, h⟩
      · have hv : hitV a b = .tuple #[.int .u64 0, .bool false] := by
          unfold hitV parB
          rcases h with rfl | rfl
          · rfl
          · cases a <;> rfl
        have HVv := Lib.hid hv
        cases a with
        | none =>
          obtain ⟨vb, fb, hvb⟩ : ∃ vb fb, numV b = .tuple #[.int .i64 vb, .bool fb] := by cases b <;> exact ⟨_, _, rfl⟩
          rw [hvb] at HB
          have HA := Lib.hid (show ∀ W, Calls Tryd.prog 35 #[.string A] W fun e w' => e = .returned (.tuple #[.int .i64 0, .bool false]) ∧ W = w' from HA.out)
          clear h hv hvb
          go_wp2_with fail
          refine (HA.out _).mono ?_
          rintro e w' ⟨rfl, rfl⟩
          go_wp2_with fail
          refine (HB.out _).mono ?_
          rintro e w' ⟨rfl, rfl⟩
          go_wp2_with fail
          exact bodyPost_ret (v := .tuple #[.int .u64 0, .bool false]) (by simp [results, Tryd.results23, go_sem]) rfl ⟨congrArg Ending.returned HVv.out.symm, rfl⟩
        | some e =>
          obtain rfl : b = none := by rcases h with h | h; cases h; exact h
          have HA := Lib.hid (show ∀ W, Calls Tryd.prog 35 #[.string A] W fun E w' => E = .returned (.tuple #[.int .i64 e, .bool true]) ∧ W = w' from HA.out)
          have HB := Lib.hid (show ∀ W, Calls Tryd.prog 35 #[.string B] W fun e w' => e = .returned (.tuple #[.int .i64 0, .bool false]) ∧ W = w' from HB.out)
          clear h hv
          go_wp2_with fail
          refine (HA.out _).mono ?_
          rintro e w' ⟨rfl, rfl⟩
          go_wp2_with fail
          refine (HB.out _).mono ?_
          rintro e w' ⟨rfl, rfl⟩
          go_wp2_with fail
          exact bodyPost_ret (v := .tuple #[.int .u64 0, .bool false]) (by simp [results, Tryd.results23, go_sem]) rfl ⟨congrArg Ending.returned HVv.out.symm, rfl⟩
      · have hv : hitV (some e) (some o) = .tuple #[.int .u64 ((e : Int) * 17592186044416 + o), .bool true] := by
          unfold hitV parB
          dsimp only
          rw [if_pos ⟨h1, h2⟩]
          rfl
        have HVv := Lib.hid hv
        have HA := Lib.hid (show ∀ W, Calls Tryd.prog 35 #[.string A] W fun E w' => E = .returned (.tuple #[.int .i64 e, .bool true]) ∧ W = w' from HA.out)
        have HB := Lib.hid (show ∀ W, Calls Tryd.prog 35 #[.string B] W fun E w' => E = .returned (.tuple #[.int .i64 o, .bool true]) ∧ W = w' from HB.out)
        have HP := Lib.hid (fun W => rs_pack_yes (e : Int) (o : Int) W (by omega) (by omega) (by omega) (by omega))
        clear hv
        go_wp2_with fail
        refine (HA.out _).mono ?_
        rintro e w' ⟨rfl, rfl⟩
        go_wp2_with fail
        refine (HB.out _).mono ?_
        rintro e w' ⟨rfl, rfl⟩
        go_wp2_with fail
        refine (HP.out _).mono ?_
        rintro e w' ⟨rfl, rfl⟩
        go_wp2_with fail
        exact bodyPost_ret (v := .tuple #[.int .u64 _, .bool true]) (by simp [results, Tryd.results23, go_sem]) rfl ⟨congrArg Ending.returned HVv.out.symm, rfl⟩
      · have hv : hitV (some e) (some o) = .tuple #[.int .u64 0, .bool false] := by
          unfold hitV parB
          dsimp only
          rw [if_neg h]
          rfl
        have HVv := Lib.hid hv
        have HA := Lib.hid (show ∀ W, Calls Tryd.prog 35 #[.string A] W fun E w' => E = .returned (.tuple #[.int .i64 e, .bool true]) ∧ W = w' from HA.out)
        have HB := Lib.hid (show ∀ W, Calls Tryd.prog 35 #[.string B] W fun E w' => E = .returned (.tuple #[.int .i64 o, .bool true]) ∧ W = w' from HB.out)
        have HP := Lib.hid (fun W => rs_pack_no (e : Int) (o : Int) W (by omega))
        clear hv h
        go_wp2_with fail
        refine (HA.out _).mono ?_
        rintro e w' ⟨rfl, rfl⟩
        go_wp2_with fail
        refine (HB.out _).mono ?_
        rintro e w' ⟨rfl, rfl⟩
        go_wp2_with fail
        refine (HP.out _).mono ?_
        rintro e w' ⟨rfl, rfl⟩
        go_wp2_with fail
        exact bodyPost_ret (v := .tuple #[.int .u64 0, .bool false]) (by simp [results, Tryd.results23, go_sem]) rfl ⟨congrArg Ending.returned HVv.out.symm, rfl⟩
theorem rs_parse (t : ByteArray) (ht : t.size ≤ 281474976710656) (w : World) : Calls Tryd.prog 23 #[.string t] w fun e w' => e = .returned (prsV (prsF t.data.toList)) ∧ w = w' := by
  have hl : t.data.toList.length = t.size := rfl
  rcases cut46 t.data.toList with ⟨a, b, h1, h2, -⟩ | ⟨h1, -⟩
  · rw [prsF_hit h1 h2]
    have hlen := congrArg List.length h1
    simp only [List.length_append, List.length_cons] at hlen
    have hn : a.length < t.size := by omega
    refine rs_parse_hit t (t.extract 0 a.length) (t.extract (a.length + 1) t.size) a.length ht hn rfl rfl ?_ ?_ _ _ ?_ ?_ w
    · intro i hi hlt
      intro e
      apply h2
      rw [← e]
      have : t.data.toList[i]'hi = a[i]'hlt := by
        simp only [h1]
        rw [List.getElem_append_left hlt]
      rw [this]
      exact List.getElem_mem _
    · simp only [h1]
      rw [List.getElem_append_right (Nat.le_refl _)]
      simp
    · congr 1
      rw [ByteArray.data_extract, Array.toList_extract]
      simp [List.extract, h1]
    · congr 1
      rw [ByteArray.data_extract, Array.toList_extract]
      simp only [List.extract]
      have hd : t.data.toList.drop (a.length + 1) = b := by
        rw [h1, show a ++ 46 :: b = (a ++ [46]) ++ b by simp, List.drop_left' (by simp)]
      rw [hd]
      exact List.take_of_length_le (by omega)
  · rw [prsF_miss h1]
    exact rs_parse_miss t ht h1 w
end Go.Proofs.YtdiajdbjlhfkpaaDoor
