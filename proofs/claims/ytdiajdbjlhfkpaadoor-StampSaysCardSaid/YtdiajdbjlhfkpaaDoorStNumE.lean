/- The document's number, whole; its Parse. -/
import Derived.Test.YtdiajdbjlhfkpaaDoorStNumD
set_option linter.unusedVariables false
set_option linter.unusedSimpArgs false
namespace Go.Proofs.YtdiajdbjlhfkpaaDoor
open Go.RowKit
theorem rs_number (s : ByteArray) (w : World) : Calls Tryd.prog 35 #[.string s] w fun e w' => e = .returned (numV (numB s.data.toList)) ∧ w = w' := by
  have hl : s.data.toList.length = s.size := rfl
  by_cases h0 : s.size = 0
  · obtain rfl : s = ⟨#[]⟩ := ByteArray.ext (Array.eq_empty_of_size_eq_zero h0)
    exact rs_number_a w
  · by_cases h1 : 15 < s.size
    · have : numB s.data.toList = none := by unfold numB; rw [if_pos (.inr (.inl (by omega)))]
      rw [this]
      exact rs_number_b s h1 w
    · by_cases h2 : 1 < s.size ∧ s.data.toList.head? = some 48
      · have : numB s.data.toList = none := by unfold numB; rw [if_pos (.inr (.inr ⟨by omega, h2.2⟩))]
        rw [this]
        exact rs_number_c s h2.1 (by omega) h2.2 w
      · have hn : numB s.data.toList = numP s.data.toList 0 := by
          rw [numP_dec]
          unfold numB
          rw [if_neg]
          rintro (h | h | ⟨h, h3⟩)
          · rw [h] at hl; simp at hl; omega
          · omega
          · exact h2 ⟨by omega, h3⟩
        rw [hn]
        refine rs_number_d s (by omega) (by omega) ?_ w
        by_cases h3 : s.size = 1
        · exact .inl h3
        · refine .inr ⟨by omega, fun h4 => h2 ⟨by omega, ?_⟩⟩
          have : s.data.toList.head? = some (s[0]'(by omega)) := by
            rw [List.head?_eq_getElem?, List.getElem?_eq_getElem (by show 0 < s.data.size; show 0 < s.size; omega)]
            rfl
          rw [this]
          congr 1
          apply UInt8.toNat_inj.1
          show _ = 48
          omega
def prsV : Option (Nat × Nat) → Value
  | some (e, o) => .tuple #[.int .u64 ((e : Int) * 17592186044416 + o), .bool true]
  | none => .tuple #[.int .u64 0, .bool false]
def parB (a b : Option Nat) : Option (Nat × Nat) :=
  match a, b with
  | some e, some o => if e < 1048576 ∧ o < 17592186044416 then some (e, o) else none
  | _, _ => none
theorem prsF_hit {l a b : List UInt8} (h : l = a ++ 46 :: b) (ha : 46 ∉ a) : prsF l = parB (numB a) (numB b) := by
  unfold prsF parB
  rcases cut46 l with ⟨c, d, h1, h2, h3⟩ | ⟨h1, h2⟩
  · obtain ⟨rfl, rfl⟩ := split_uniq (h.symm.trans h1) ha h2
    rw [h3]
    dsimp only
    rw [if_pos rfl]
    cases numB a <;> cases numB b <;> rfl
  · exact absurd (by rw [h]; simp) h1
theorem prsF_miss {l : List UInt8} (h : 46 ∉ l) : prsF l = none := by
  unfold prsF
  rcases cut46 l with ⟨c, d, h1, h2, h3⟩ | ⟨h1, h2⟩
  · exact absurd (by rw [h1]; simp) h
  · rw [h2]; rfl
theorem get_ne46 (t : ByteArray) (i : Nat) (hi : i < t.size) (h : t.data.toList[i]'hi ≠ 46) : (((t[i]'hi).toNat : Int) == 46) = false := by
  rw [beq_eq_false_iff_ne]
  intro e
  apply h
  show t[i]'hi = 46
  apply UInt8.toNat_inj.1
  show _ = 46
  omega
theorem get_46 (t : ByteArray) (i : Nat) (hi : i < t.size) (h : t.data.toList[i]'hi = 46) : (((t[i]'hi).toNat : Int) == 46) = true := by
  have h : t[i]'hi = 46 := h
  rw [h]
  rfl
set_option maxRecDepth 100000 in
set_option maxHeartbeats 4000000 in
theorem rs_parse_miss (t : ByteArray) (ht : t.size ≤ 281474976710656) (h : 46 ∉ t.data.toList) (w : World) : Calls Tryd.prog 23 #[.string t] w fun e w' => e = .returned (.tuple #[.int .u64 0, .bool false]) ∧ w = w' := by
  have HN := Lib.hid (fun (i : Nat) (hi : i < t.size) => get_ne46 t i hi (fun e => h (by rw [← e]; exact List.getElem_mem _)))
  go_enter Tryd.func23, Tryd.ntmps23
  go_wp2_with fail
  go_loopw [4] (fun vi wr => ∃ i : Nat, vi = .int .i64 (i : Nat) ∧ i ≤ t.size ∧ wr = w) (fun vi _ => t.size - (intOf vi).toNat)
  case atStart => exact ⟨0, rfl, by omega, rfl⟩
  case round =>
    obtain ⟨i, rfl, hi, rfl⟩ := hrel
    by_cases hlt : i < t.size
    · have hlt' : (i : Int) < t.size := by omega
      have hN := HN.out i hlt
      go_wp2_with fail
      go_roundw
      case rel => exact ⟨i + 1, by go_num, by omega, trivial⟩
      case measure => simp [intOf]; omega
    · have hge : (t.size : Int) ≤ i := by omega
      go_wp2_with fail
      exact bodyPost_ret (v := .tuple #[.int .u64 0, .bool false]) (by simp [results, Tryd.results23, go_sem]) rfl ⟨rfl, rfl⟩
end Go.Proofs.YtdiajdbjlhfkpaaDoor
