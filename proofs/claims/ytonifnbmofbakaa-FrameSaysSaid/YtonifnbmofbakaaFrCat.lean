/- slices.Grow of nil, slices.Concat of byte slices. -/
import Derived.Test.YtonifnbmofbakaaFrGet
import Derived.Lib.AppendZerosOnto
set_option linter.unusedVariables false
set_option linter.unusedSimpArgs false
namespace Go.Proofs.Ytonifnbmofbakaa
open Go.RowKit
set_option maxRecDepth 100000 in
set_option maxHeartbeats 1000000 in
theorem fr_grow (n : Nat) (w : World) (hn : n ≤ 8000) :
    Calls Try.prog 30 #[.slice none 0 0, .int .i64 n] w fun e w' => ∃ a' c' g, e = .returned (.slice a' 0 c') ∧ App w' 5 1 (.slice a' 0 c') 0 g [] ∧ Kept w w' ∧ (∀ k, g = some k → w.heap.size ≤ k) := by
  by_cases h0 : n = 0
  · subst h0
    go_enter Try.func30, Try.ntmps30
    go_wp2
    go_ret
    exact ⟨none, 0, none, rfl, app_nil _ _ _, Kept.refl _, by simp⟩
  · have h1 : (0 : Int) < n := by omega
    have el : Elem Try.prog 23 5 (.int .u8 0) 1 1 := elemB
    obtain ⟨ht, ⟨i, hi, hz, hs1, hb1⟩, hzs, hsz⟩ := el
    have hg := grownCap_ge w n 0 5
    have hgm := grownCap_le_maxLen w n 0 5 (by unfold maxLen; omega)
    have hrz : ∀ ty, (Builtin.append_ #[23, 3] ty #[.slice none 0 0, .int .i64 (n : Int)]).run Try.prog w = .ok (.slice (some ⟨w.heap.size, 0, none⟩) n (grownCap w n 0 5)) (w.drew.alloc (.cells (#[] ++ Builtin.zeroCells (Value.int .u8 0).cells n ++ Builtin.zeroCells (Value.int .u8 0).cells (grownCap w n 0 5 - n)) 5)) := fun ty => by
      have h := Lib.run_append_grow_zeros w 23 3 ty 5 i (.int .u8 0) .i64 .i64 ht Try.underlying3 hi hz none 0 0 [] (run_firstCells_none w.drew i.size 0 0 0) n (by omega) (by omega) (by omega) (by omega) (by rw [hb1]; omega) (by rw [Nat.zero_add]; exact growslice_fits (by omega) (by rw [hb1]; omega))
      simpa only [Nat.zero_add] using h
    have hA : App (w.drew.alloc (.cells (#[] ++ Builtin.zeroCells (Value.int .u8 0).cells n ++ Builtin.zeroCells (Value.int .u8 0).cells (grownCap w n 0 5 - n)) 5)) 5 1 (.slice (some ⟨w.heap.size, 0, none⟩) 0 (grownCap w n 0 5)) 0 (some w.heap.size) [] := by
      refine ⟨⟨rfl, .inr ⟨w.heap.size, _, _, rfl, Nat.zero_le _, heap_alloc_new w.drew _, Nat.zero_le _, hgm, ?_, ?_⟩⟩, rfl⟩
      · simp only [Array.size_append, size_zeroCells, Value.cells, List.size_toArray]
        simp
        omega
      · simp
    generalize grownCap w n 0 5 = G at *
    have hG63 : G ≤ 9223372036854775807 := by unfold maxLen at hgm; omega
    have K : Kept w (w.drew.alloc (.cells (#[] ++ Builtin.zeroCells (Value.int .u8 0).cells n ++ Builtin.zeroCells (Value.int .u8 0).cells (G - n)) 5)) := ((Kept.refl w).dr ⟨1, rfl⟩).trans (((Only.refl [] _).alloc _).kept)
    clear hz hi ht hzs hsz hgm
    generalize w.drew.alloc _ = W1 at *
    go_enter Try.func30, Try.ntmps30
    go_wp2_with (at_builtin; refine Lib.wpList_append_run _ rfl _ _ _ _ rfl _ _ rfl rfl _ _ (hrz _) ?_)
    go_ret
    exact ⟨_, G, _, rfl, hA, K, by intro k hk; injection hk with hk; omega⟩
def catN (N : Nat → Nat) : Nat → Nat
  | 0 => 0
  | k + 1 => catN N k + N k
def catZ (Z : Nat → List Int) : Nat → List Int
  | 0 => []
  | k + 1 => catZ Z k ++ Z k
theorem catN_mono (N : Nat → Nat) {j m : Nat} (h : j ≤ m) : catN N j ≤ catN N m := by
  induction m with
  | zero => obtain rfl : j = 0 := by omega
            exact Nat.le_refl _
  | succ m ih =>
    rcases Nat.lt_or_ge j (m + 1) with h' | h'
    · have := ih (by omega); rw [catN]; omega
    · obtain rfl : j = m + 1 := by omega
      exact Nat.le_refl _
set_option maxRecDepth 100000 in
set_option maxHeartbeats 2000000 in
theorem fr_concat (q m : Nat) (A : Nat → Option Addr) (N C : Nat → Nat) (Z : Nat → List Int) (w : World) (hm : m ≤ 100) (h : ∀ j, j < m → w.cell? ⟨q, j, none⟩ = some (.slice (A j) (N j) (C j)) ∧ Sl .u8 w (A j) (N j) (C j) (Z j)) (hb : catN N m ≤ 8000) (hq : q < w.heap.size) :
    Calls Try.prog 21 #[.slice (some ⟨q, 0, none⟩) m m] w fun e w' => ∃ a' c' g, e = .returned (.slice a' (catN N m) c') ∧ App w' 5 1 (.slice a' (catN N m) c') (catN N m) g (bytesV (catZ Z m)) ∧ Kept w w' ∧ (∀ k, g = some k → w.heap.size ≤ k) := by
  have H := Lib.hid h
  have hmono : Hid (∀ j, j ≤ m → catN N j ≤ catN N m) := fun j hj => catN_mono N hj
  clear h
  go_enter Try.func21, Try.ntmps21
  go_wp2_with fail
  go_loopw [3, 11] (fun sa i wr => ∃ (j : Nat), sa = .int .i64 (catN N j : Nat) ∧ i = .int .i64 j ∧ j ≤ m ∧ w = wr) (fun _ i _ => m - (intOf i).toNat)
  case atStart => exact ⟨0, rfl, rfl, by omega, (by first | trivial | rfl)⟩
  case round =>
    obtain ⟨j, rfl, rfl, hj, rfl⟩ := hrel
    by_cases hlt : j < m
    · have hlt' : (j : Int) < m := by omega
      have hc := (H.out j hlt).1
      have hs := hmono.out (j + 1) (by omega)
      rw [catN] at hs
      have hw : wrap64 ((catN N j : Nat) + (N j : Nat) : Int) = ((catN N (j + 1) : Nat) : Int) := by rw [catN]; unfold wrap64; omega
      have hnn : ¬ (((catN N (j + 1) : Nat) : Int) < 0) := by omega
      go_wp2
      go_roundw
      case rel => exact ⟨j + 1, rfl, by go_num, by omega, (by first | trivial | rfl)⟩
      case measure => simp [intOf]; omega
    · have hge : (m : Int) ≤ j := by omega
      obtain rfl : m = j := by omega
      have HG := Lib.hid (fr_grow (catN N m) w (by omega))
      go_wp2_with fail
      refine HG.out.mono ?_
      rintro e w1 ⟨a1, c1, g1, rfl, hA1, K1, hg1⟩
      have HA1 := Lib.hid hA1
      clear hA1
      go_wp2_with fail
      go_loopw [6, 27] (fun sa i w2 => ∃ (j : Nat) (a' : Option Addr) (c' : Nat) (g' : Option Nat), sa = .slice a' (catN N j) c' ∧ i = .int .i64 j ∧ j ≤ m ∧ Hid (App w2 5 1 (.slice a' (catN N j) c') (catN N j) g' (bytesV (catZ Z j))) ∧ Kept w w2 ∧ (∀ k, g' = some k → w.heap.size ≤ k)) (fun _ i _ => m - (intOf i).toNat)
      case atStart => exact ⟨0, a1, c1, g1, rfl, rfl, by omega, HA1.out, K1, hg1⟩
      case round =>
        obtain ⟨j, a', c', g', rfl, rfl, hj, HAj, Kj, hgj⟩ := hrel
        by_cases hlt : j < m
        · have hlt' : (j : Int) < m := by omega
          have hc := Kj.cel (H.out j hlt).1
          have hs := Lib.hid (Kj.sl (H.out j hlt).2)
          have hsm := hmono.out (j + 1) (by omega)
          rw [catN] at hsm
          go_wp2_with (at_builtin; refine wpList_app rfl (.tmp 31) (.tmp 32) 23 23 rfl elemB _ (catN N j) _ _ rfl HAj.out _ (N j) _ rfl (src_sl Try.underlying23 hs.out) (by omega) (by unfold maxLen; omega) ?_; intro a5 c5 g5 w5 hA5 hO5 hG5)
          go_roundw
          case rel =>
            refine ⟨j + 1, a5, c5, g5, rfl, by go_num, by omega, ?_, Kj.onl hO5 ?_, ?_⟩
            · unfold Hid
              rw [catN, catZ, bytesV_append]
              exact hA5
            · intro i hi
              cases g' with
              | none => simp at hi
              | some k => simp at hi; have := hgj k rfl; omega
            · rcases hG5 with rfl | rfl
              · exact hgj
              · intro k hk; injection hk with hk; have := Kj.size; omega
          case measure => simp [intOf]; omega
        · have hge : (m : Int) ≤ j := by omega
          obtain rfl : j = m := by omega
          go_wp2
          go_ret
          exact ⟨a', c', g', rfl, HAj.out, Kj, hgj⟩
end Go.Proofs.Ytonifnbmofbakaa
