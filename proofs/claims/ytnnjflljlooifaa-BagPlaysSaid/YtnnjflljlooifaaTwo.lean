/- Slices of stamps; objects of two cells. -/
import Derived.Test.YtnnjflljlooifaaEpGood
import Derived.Test.YtnnjflljlooifaaBytes
import Derived.Lib.SliceRun
import Derived.WalkSpells
set_option linter.unusedVariables false
set_option linter.unusedSimpArgs false
namespace Go.Proofs.Ytnnjflljlooifaa
open Go.RowKit
theorem elemW : Elem Try.prog 29 56 (.int .u64 0) 1 8 :=
  ⟨Try.underlying29, info_parts (by kernel_rfl), rfl, by omega⟩
def wordsV (l : List Int) : List Value := l.map (Value.int .u64)
theorem app_slk {w : World} {e : TypeId} {k : IntKind} {a : Option Addr} {n c : Nat} {g : Option Nat} {xs : List Int} (h : App w e 1 (.slice a n c) n g (xs.map (Value.int k))) : Sl k w a n c xs ∧ (∀ x, a = some x → g = some x.block) := by
  have hl : xs.length = n := by have := h.len; simpa using this
  obtain ⟨⟨h1, h2⟩, h3⟩ := h
  refine ⟨?_, fun x hx => by subst hx; exact h3.symm⟩
  rcases h2 with ⟨hn, rfl⟩ | ⟨b, cap, cur, hv, _, hh, hnc, hcm, hcs, htake⟩
  · injection hn with e1 e2 e3
    subst e1 e3
    have : xs = [] := List.eq_nil_of_length_eq_zero hl
    subst this
    exact sl_nil _ _
  · injection hv with e1 e2 e3
    subst e1 e3
    refine ⟨hl, hnc, hcm, fun i hi => ⟨b, 0, rfl, lt_heap hh, ?_⟩⟩
    rw [cell_of_row w b _ cur _ _ hh, Nat.zero_add]
    have e := congrArg (fun l : List Value => l[i]?) htake
    simp only [Nat.mul_one, List.getElem?_take, hi, if_true] at e
    rw [← Array.getElem?_toList, e]
    simp [List.getElem?_map, List.getElem?_eq_getElem (by omega : i < xs.length), List.getD_eq_getElem?_getD]
theorem sl_isNone {k : IntKind} {w : World} {n c : Nat} {L : List Int} (h : Sl k w none n c L) : n = 0 ∧ L = [] := by
  have : n = 0 := by
    rcases Nat.eq_zero_or_pos n with h' | h'
    · exact h'
    · obtain ⟨b, o, h1, _⟩ := h.2.2.2 0 h'; cases h1
  subst this
  exact ⟨rfl, List.eq_nil_of_length_eq_zero h.1⟩
theorem two_new' (w : World) (a b : Obj) : ((w.alloc a).alloc b).heap[w.heap.size + 1]? = some b := by
  have := heap_alloc_new (w.alloc a) b
  simpa using this
theorem kept_al (w : World) (o : Obj) : Kept w (w.alloc o) := ((Only.refl [] w).alloc o).kept
def addL (L : List Int) (s : Int) : List Int := if L = [] ∨ epI (L.getD (L.length - 1) 0) < epI s then L ++ [s] else L
theorem two_set {w : World} {p : Nat} {t : TypeId} {m : Nat × Nat} {v0 v1 : Value} (h : w.heap[p]? = some (.cells #[v0, v1] t m)) (u0 u1 : Value) :
    ((w.setCell ⟨p, 0, none⟩ u0).setCell ⟨p, 1, none⟩ u1).heap[p]? = some (.cells #[u0, u1] t m) := at_set (at_set h 0 u0) 1 u1
theorem two_cells {w : World} {p : Nat} {t : TypeId} {m : Nat × Nat} {v0 v1 : Value} (h : w.heap[p]? = some (.cells #[v0, v1] t m)) : w.cell? ⟨p, 0, none⟩ = some v0 ∧ w.cell? ⟨p, 1, none⟩ = some v1 := ⟨at_cell h 0 _ rfl, at_cell h 1 _ rfl⟩
theorem only_set2 (w : World) (q : Nat) (u0 u1 : Value) : Only [q] w ((w.setCell ⟨q, 0, none⟩ u0).setCell ⟨q, 1, none⟩ u1) :=
  (((Only.refl [q] w).setCell (fun _ => by simp) u0).setCell (fun _ => by simp) u1)
end Go.Proofs.Ytnnjflljlooifaa
