/- Slices of stamps: append, Clone. -/
import Derived.Test.YtmkoabalakfehaaEpGood
import Derived.Test.YtmkoabalakfehaaBytes
import Derived.Lib.SliceRun
import Derived.WalkSpells
set_option linter.unusedVariables false
set_option linter.unusedSimpArgs false
namespace Go.Proofs.Ytmkoabalakfehaa
open Go.RowKit
theorem elemW : Elem Try.prog 22 41 (.int .u64 0) 1 8 :=
  ⟨Try.underlying22, info_parts (by kernel_rfl), rfl, by omega⟩
def wordsV (l : List Int) : List Value := l.map (Value.int .u64)
theorem app_slk {w : World} {e : TypeId} {k : IntKind} {a : Option Addr} {n c : Nat} {g : Option Nat} {xs : List Int} (h : App w e 1 (.slice a n c) n g (xs.map (Value.int k))) : Sl k w a n c xs ∧ (∀ x, a = some x → g = some x.block) := by
  have hl : xs.length = n := by have := h.len; simpa using this
  obtain ⟨⟨h1, h2⟩, h3⟩ := h
  refine ⟨?_, fun x hx => by subst hx; exact h3.symm⟩
  rcases h2 with ⟨hn, rfl⟩ | ⟨b, cap, cur, hv, _, hh, hnc, hcm, hcs, htake⟩
  · injection hn with e1 e2 e3
    subst e1 e3
    have : xs = [] := List.eq_nil_of_length_eq_zero hl
    subst this
    exact sl_nil _ _
  · injection hv with e1 e2 e3
    subst e1 e3
    refine ⟨hl, hnc, hcm, fun i hi => ⟨b, 0, rfl, lt_heap hh, ?_⟩⟩
    rw [cell_of_row w b _ cur _ _ hh, Nat.zero_add]
    have e := congrArg (fun l : List Value => l[i]?) htake
    simp only [Nat.mul_one, List.getElem?_take, hi, if_true] at e
    rw [← Array.getElem?_toList, e]
    simp [List.getElem?_map, List.getElem?_eq_getElem (by omega : i < xs.length), List.getD_eq_getElem?_getD]
theorem sl_isNone {k : IntKind} {w : World} {n c : Nat} {L : List Int} (h : Sl k w none n c L) : n = 0 ∧ L = [] := by
  have : n = 0 := by
    rcases Nat.eq_zero_or_pos n with h' | h'
    · exact h'
    · obtain ⟨b, o, h1, _⟩ := h.2.2.2 0 h'; cases h1
  subst this
  exact ⟨rfl, List.eq_nil_of_length_eq_zero h.1⟩
set_option maxHeartbeats 1000000 in
theorem ep_clone (a : Option Addr) (n c : Nat) (L : List Int) (w : World) (hS : Sl .u64 w a n c L) (hb : n ≤ 1000) :
    Calls Try.prog 38 #[.slice a n c] w fun e w' => ∃ a' c' g, e = .returned (.slice a' n c') ∧ App w' 41 1 (.slice a' n c') n g (wordsV L) ∧ Kept w w' ∧ (∀ k, g = some k → w.heap.size ≤ k) := by
  have hq : ∀ W, (binOp .eql 22 (.slice a n c) (.slice none 0 0)).run Try.prog W = .ok (.bool a.isNone) W := fun W => Go.Lib.run_eql_slice_nil W _ _ a n c 0 0 Try.underlying22
  have HS := Lib.hid (((Only.refl [] w).alloc (.cells #[] 41)).kept.sl hS)
  cases a with
  | none =>
    obtain ⟨rfl, rfl⟩ := sl_isNone hS
    clear hS
    go_enter Try.func38, Try.ntmps38
    go_wp2
    go_ret
    exact ⟨none, 0, none, rfl, app_nil _ _ _, Kept.refl _, by simp⟩
  | some x =>
    clear hS
    go_enter Try.func38, Try.ntmps38
    go_wp2_with (at_builtin; refine wpList_app rfl (.tmp 5) (.tmp 6) 22 22 rfl elemW _ 0 _ _ rfl (app_empty w _) _ n _ rfl (src_sl Try.underlying22 HS.out) (by omega) (by unfold maxLen; omega) ?_; intro a' c' g'' w1 hA2 hO2 hG2)
    rw [Nat.zero_add, List.nil_append] at hA2
    go_ret
    exact ⟨a', c', g'', rfl, hA2, ((Kept.refl w).only.alloc _ |>.then hO2 (by intro i hi hm; simp at hm; omega)).kept, by intro k hk; rcases hG2 with rfl | rfl <;> simp at hk <;> omega⟩
end Go.Proofs.Ytmkoabalakfehaa
