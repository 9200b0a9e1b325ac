/- Slices of bytes: what append copies, what a store makes of a slice of the call's own. -/
import Derived.Test.YteaepgbakcifkaaDoorMem
import Derived.Test.YteaepgbakcifkaaDoorPlain
set_option linter.unusedVariables false
set_option linter.unusedSimpArgs false
namespace Go.Proofs.YteaepgbakcifkaaDoor
open Go.RowKit
theorem elemB : Elem Tryd.prog 27 5 (.int .u8 0) 1 1 :=
  ⟨Tryd.underlying27, info_parts (by kernel_rfl), rfl, by omega⟩
def bytesV (l : List Int) : List Value := l.map (Value.int .u8)
theorem bytesV_append (l m : List Int) : bytesV (l ++ m) = bytesV l ++ bytesV m := by simp [bytesV]
theorem app_sl {w : World} {a : Option Addr} {n c : Nat} {g : Option Nat} {xs : List Int} (h : App w 5 1 (.slice a n c) n g (bytesV xs)) : Sl .u8 w a n c xs ∧ (∀ x, a = some x → g = some x.block) := by
  have hl : xs.length = n := by have := h.len; simpa [bytesV] using this
  obtain ⟨⟨h1, h2⟩, h3⟩ := h
  refine ⟨?_, fun x hx => by subst hx; exact h3.symm⟩
  rcases h2 with ⟨hn, rfl⟩ | ⟨b, cap, cur, hv, _, hh, hnc, hcm, hcs, htake⟩
  · injection hn with e1 e2 e3
    subst e1 e3
    have : xs = [] := List.eq_nil_of_length_eq_zero hl
    subst this
    exact sl_nil _ _
  · injection hv with e1 e2 e3
    subst e1 e3
    refine ⟨hl, hnc, hcm, fun i hi => ⟨b, 0, rfl, lt_heap hh, ?_⟩⟩
    rw [cell_of_row w b _ cur _ _ hh, Nat.zero_add]
    have e := congrArg (fun l : List Value => l[i]?) htake
    simp only [Nat.mul_one, List.getElem?_take, hi, if_true] at e
    rw [← Array.getElem?_toList, e]
    simp [bytesV, List.getElem?_map, List.getElem?_eq_getElem (by omega : i < xs.length), List.getD_eq_getElem?_getD]
theorem appF_sl {w : World} {a : Option Addr} {n c : Nat} {g : Option Nat} {xs : List Int} (h : AppF w 5 1 (.slice a n c) n g (bytesV xs)) : Sl .u8 w a n c xs ∧ (∀ x, a = some x → g = some x.block) := by
  rcases h with h | ⟨b, o, hv, rfl, hm, hl, hlt, hc⟩
  · exact app_sl h
  · injection hv with e1 e2 e3
    subst e1 e3
    have hl' : xs.length = c := by simpa [bytesV] using hl
    refine ⟨⟨hl', Nat.le_refl _, hm, fun i hi => ⟨b, o, rfl, hlt, ?_⟩⟩, fun x hx => by injection hx with hx; rw [← hx]⟩
    exact hc i (.int .u8 (xs.getD i 0)) (by simp [bytesV, List.getElem?_map, List.getElem?_eq_getElem (by omega : i < xs.length), List.getD_eq_getElem?_getD])
/-- a slice that reads as bytes, as append's source -/
theorem src_sl {P : Program} {w : World} {a : Option Addr} {n c : Nat} {k : IntKind} {zs : List Int} {tx e' : TypeId} (hk : P.underlying tx = some (.slice e')) (h : Sl k w a n c zs) : Src P 1 tx (.slice a n c) n (zs.map (Value.int k)) w := by
  obtain ⟨hl, hnc, hm, hc⟩ := h
  cases a with
  | none =>
    have hn : n = 0 := by
      rcases Nat.eq_zero_or_pos n with h' | h'
      · exact h'
      · obtain ⟨b, o, h1, _⟩ := hc 0 h'; cases h1
    subst hn
    have hz : zs = [] := List.eq_nil_of_length_eq_zero hl
    subst hz
    exact Src.ofNil w hk c
  | some x =>
    refine Src.ofSlice w hk x n c _ (by simp [hl]) (fun j u hu => ?_) (by simp [Value.oneCell'])
    rw [List.getElem?_map] at hu
    have hj : j < zs.length := by
      rcases Nat.lt_or_ge j zs.length with h' | h'
      · exact h'
      · rw [List.getElem?_eq_none h'] at hu; cases hu
    obtain ⟨b, o, hx, _, hcell⟩ := hc j (by omega)
    injection hx with hx
    subst hx
    rw [add_one, hcell]
    rw [List.getElem?_eq_getElem hj] at hu
    simp [List.getD_eq_getElem?_getD, hj] at hu ⊢
    exact hu
/-- an empty literal -/
theorem app_empty (w : World) (e : TypeId) : App (w.alloc (.cells #[] e)) e 1 (.slice (some ⟨w.heap.size, 0, none⟩) 0 0) 0 (some w.heap.size) [] :=
  ⟨World.ownsRow_made w #[] 0 (Nat.zero_le _) (Nat.zero_le _) rfl, rfl⟩
/-- one element of a slice of the call's own, stored anew -/
theorem app_at {w : World} {e : TypeId} {a : Option Addr} {n c : Nat} {g : Option Nat} {xs : List Value} (h : App w e 1 (.slice a n c) n g xs) (i : Nat) (hi : i < n) :
    ∃ b, a = some ⟨b, 0, none⟩ ∧ g = some b ∧ b < w.heap.size ∧ (∀ v, xs[i]? = some v → w.cell? ⟨b, i, none⟩ = some v) ∧ (w.cell? ⟨b, i, none⟩).isSome = true ∧ w.frozen? ⟨b, i, none⟩ = false ∧
      ∀ u, App (w.setCell ⟨b, i, none⟩ u) e 1 (.slice a n c) n g (xs.set i u) := by
  obtain ⟨⟨h1, h2⟩, h3⟩ := h
  rcases h2 with ⟨hn, rfl⟩ | ⟨b, cap, cur, hv, _, hh, hnc, hcm, hcs, htake⟩
  · omega
  · injection hv with e1 e2 e3
    subst e1 e3
    have hcell : w.cell? ⟨b, i, none⟩ = some (cur[i]'(by omega)) := by
      rw [cell_of_row w b _ cur _ _ hh, Array.getElem?_eq_getElem (by omega)]
    refine ⟨b, rfl, h3.symm, lt_heap hh, fun v hv => ?_, by rw [hcell]; rfl, by simp [World.frozen?, hh], fun u => ⟨⟨by simpa using h1, .inr ⟨b, c, _, rfl, Nat.zero_le _, at_set hh i u, hnc, hcm, by simpa using hcs, ?_⟩⟩, h3⟩⟩
    · rw [← htake] at hv
      simp only [Nat.mul_one, List.getElem?_take, hi, if_true] at hv
      rw [hcell]
      rw [Array.getElem?_toList, Array.getElem?_eq_getElem (by omega)] at hv
      exact hv
    · rw [Array.toList_setIfInBounds, List.take_set, htake]
end Go.Proofs.YteaepgbakcifkaaDoor
