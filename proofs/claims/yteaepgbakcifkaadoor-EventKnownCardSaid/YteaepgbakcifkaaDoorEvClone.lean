/- slices.Clone of bytes. -/
import Derived.Test.YteaepgbakcifkaaDoorMsIn
import Derived.Lib.SliceRun
import Derived.WalkSpells
set_option linter.unusedVariables false
set_option linter.unusedSimpArgs false
namespace Go.Proofs.YteaepgbakcifkaaDoor
open Go.RowKit
theorem sl_isNone {k : IntKind} {w : World} {n c : Nat} {L : List Int} (h : Sl k w none n c L) : n = 0 ∧ L = [] := by
  have : n = 0 := by
    rcases Nat.eq_zero_or_pos n with h' | h'
    · exact h'
    · obtain ⟨b, o, h1, _⟩ := h.2.2.2 0 h'; cases h1
  subst this
  exact ⟨rfl, List.eq_nil_of_length_eq_zero h.1⟩
set_option maxHeartbeats 1000000 in
theorem ms_clone (a : Option Addr) (n c : Nat) (L : List Int) (w : World) (hS : Sl .u8 w a n c L) (hb : n ≤ 1000000) :
    Calls Tryd.prog 28 #[.slice a n c] w fun e w' => ∃ a' c' g, e = .returned (.slice a' n c') ∧ App w' 5 1 (.slice a' n c') n g (bytesV L) ∧ Kept w w' ∧ (∀ k, g = some k → w.heap.size ≤ k) := by
  have hq : ∀ W, (binOp .eql 27 (.slice a n c) (.slice none 0 0)).run Tryd.prog W = .ok (.bool a.isNone) W := fun W => Go.Lib.run_eql_slice_nil W _ _ a n c 0 0 Tryd.underlying27
  have HS := Lib.hid (((Only.refl [] w).alloc (.cells #[] 5)).kept.sl hS)
  cases a with
  | none =>
    obtain ⟨rfl, rfl⟩ := sl_isNone hS
    clear hS
    go_enter Tryd.func28, Tryd.ntmps28
    go_wp2
    go_ret
    exact ⟨none, 0, none, rfl, app_nil _ _ _, Kept.refl _, by simp⟩
  | some x =>
    clear hS
    go_enter Tryd.func28, Tryd.ntmps28
    go_wp2_with (at_builtin; refine wpList_app rfl (.tmp 5) (.tmp 6) 27 27 rfl elemB _ 0 _ _ rfl (app_empty w _) _ n _ rfl (src_sl Tryd.underlying27 HS.out) (by omega) (by unfold maxLen; omega) ?_; intro a' c' g'' w1 hA2 hO2 hG2)
    rw [Nat.zero_add, List.nil_append] at hA2
    go_ret
    exact ⟨a', c', g'', rfl, hA2, ((Kept.refl w).only.alloc _ |>.then hO2 (by intro i hi hm; simp at hm; omega)).kept, by intro k hk; rcases hG2 with rfl | rfl <;> simp at hk <;> omega⟩
/-- the clone, to read from: whichever block it lies in, it is none of those that come behind -/
theorem ev_clone (a : Option Addr) (n c : Nat) (L : List Int) (w : World) (hS : Sl .u8 w a n c L) (hb : n ≤ 1000000) (d : Nat) :
    Calls Tryd.prog 28 #[.slice a n c] w fun e w' => ∃ a' c' bl, e = .returned (.slice a' n c') ∧ Sl .u8 w' a' n c' L ∧ (∀ x, a' = some x → x.block = bl) ∧ Kept w w' ∧ ((w.heap.size ≤ bl ∧ bl < w'.heap.size) ∨ bl = d) := by
  refine (ms_clone a n c L w hS hb).mono ?_
  rintro e w' ⟨a', c', g, rfl, hA, K, hg⟩
  obtain ⟨hsl, hblk⟩ := app_sl hA
  cases a' with
  | none => exact ⟨none, c', d, rfl, hsl, by simp, K, .inr rfl⟩
  | some x =>
    have h := hblk x rfl
    refine ⟨some x, c', x.block, rfl, hsl, fun y hy => by injection hy with hy; rw [hy], K, .inl ⟨hg _ h, hA.lt _ h⟩⟩
end Go.Proofs.YteaepgbakcifkaaDoor
