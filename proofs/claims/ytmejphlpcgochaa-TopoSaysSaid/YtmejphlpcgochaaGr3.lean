/- Graphs: Ahead, Behind. -/
import Derived.Test.YtmejphlpcgochaaGr2
import Derived.Test.YtmejphlpcgochaaGrLay
set_option linter.unusedVariables false
set_option linter.unusedSimpArgs false
namespace Go.Proofs.Ytmejphlpcgochaa
open Go.RowKit
open Go.Sort
theorem elemI : Elem Try.prog 29 3 (.int .i64 0) 1 8 :=
  ⟨Try.underlying29, info_parts (by kernel_rfl), rfl, by omega⟩
def ivs (l : List Int) : List Value := l.map (Value.int .i64)
theorem ivs_len (l : List Int) : (ivs l).length = l.length := by simp [ivs]
theorem ivs_app (A B : List Int) : ivs (A ++ B) = ivs A ++ ivs B := by simp [ivs]
theorem app_sl {w : World} {e : TypeId} {a : Option Addr} {n c : Nat} {g : Option Nat} {l : List Int} (h : App w e 1 (.slice a n c) n g (ivs l)) : Sl .i64 w a n c l := by
  have hl : l.length = n := by have := h.len; rw [ivs_len] at this; omega
  obtain ⟨⟨h1, h2⟩, h3⟩ := h
  rcases h2 with ⟨hv, h0⟩ | ⟨b, cap, cur, hv, _, hh, hnc, hcm, hcs, htake⟩
  · injection hv with e1 e2 e3
    subst e1 e3
    exact ⟨hl, by omega, by unfold maxLen; omega, fun i hi => by omega⟩
  · injection hv with e1 e2 e3
    subst e1 e3
    refine ⟨hl, hnc, hcm, fun i hi => ⟨b, 0, rfl, lt_heap hh, ?_⟩⟩
    rw [cell_of_row w b _ cur _ _ hh, Nat.zero_add, ← Array.getElem?_toList]
    have : (cur.toList.take (n * 1))[i]? = (ivs l)[i]? := by rw [htake]
    rw [List.getElem?_take, if_pos (by omega)] at this
    rw [this]
    unfold ivs
    rw [List.getElem?_map, List.getElem?_eq_getElem (by omega)]
    simp [List.getD_eq_getElem?_getD, List.getElem?_eq_getElem (show i < l.length by omega)]
theorem app_blkI {w : World} {e : TypeId} {size n c : Nat} {y : Addr} {g : Option Nat} {xs : List Value} (h : App w e size (.slice (some y) n c) n g xs) : g = some y.block := by
  obtain ⟨_, h3⟩ := h
  exact h3.symm
def insI (x : Int) : List Int → List Int
  | [] => [x]
  | y :: l => if x ≤ y then x :: y :: l else y :: insI x l
/-- a row in order (by insertion: the kernel reckons it) -/
def sortI : List Int → List Int
  | [] => []
  | x :: l => insI x (sortI l)
theorem insI_perm (x : Int) : ∀ l, (insI x l).Perm (x :: l)
  | [] => List.Perm.refl _
  | y :: l => by
    unfold insI
    split
    · exact List.Perm.refl _
    · exact ((insI_perm x l).cons y).trans (List.Perm.swap x y l)
theorem sortI_perm : ∀ l, (sortI l).Perm l
  | [] => List.Perm.refl _
  | x :: l => (insI_perm x (sortI l)).trans ((sortI_perm l).cons x)
theorem insI_srt (x : Int) : ∀ l : List Int, l.Pairwise (· ≤ ·) → (insI x l).Pairwise (· ≤ ·)
  | [], _ => List.pairwise_singleton _ _
  | y :: l, h => by
    obtain ⟨h1, h2⟩ := List.pairwise_cons.1 h
    unfold insI
    split
    · rename_i hx
      refine List.pairwise_cons.2 ⟨fun z hz => ?_, h⟩
      rcases List.mem_cons.1 hz with rfl | hz
      · exact hx
      · exact Int.le_trans hx (h1 z hz)
    · rename_i hx
      refine List.pairwise_cons.2 ⟨fun z hz => ?_, insI_srt x l h2⟩
      rcases List.mem_cons.1 ((insI_perm x l).mem_iff.1 hz) with rfl | hz
      · omega
      · exact h1 z hz
theorem sortI_srt : ∀ l : List Int, (sortI l).Pairwise (· ≤ ·)
  | [] => List.Pairwise.nil
  | x :: l => insI_srt x _ (sortI_srt l)
theorem sortI_eq (l : List Int) : (l.mergeSort fun x y => decide (x ≤ y)) = sortI l := by
  refine List.Perm.eq_of_pairwise (le := fun x y : Int => x ≤ y) (fun a b _ _ h1 h2 => by omega) ?_ (sortI_srt l) ((List.mergeSort_perm _ _).trans (sortI_perm l).symm)
  exact (List.pairwise_mergeSort (le := fun x y : Int => decide (x ≤ y)) (fun a b c h1 h2 => by simp at *; omega) (fun a b => by simp; omega) l).imp (by simp)
theorem g_sort {w : World} {e : TypeId} {a : Option Addr} {n c : Nat} {g : Option Nat} {l : List Int} (h : App w e 1 (.slice a n c) n g (ivs l)) (hn : n ≤ 1000) :
    Calls Try.prog 40 #[.slice a n c] w fun e w' => e = .returned (.tuple #[]) ∧ Sl .i64 w' a n c (sortI l) ∧ Only g.toList w w' := by
  have hl : l.length = n := by have := h.len; rw [ivs_len] at this; omega
  rcases Nat.eq_zero_or_pos n with h0 | h0
  · subst h0
    have hL : l = [] := List.eq_nil_of_length_eq_zero hl
    subst hL
    have hC := AnyM.slices_Sort_int_none (P := Try.prog) (ρ := sortIL_ren) sortIL a c w
    change Calls Try.prog 40 _ _ _ at hC
    refine hC.mono ?_
    rintro e w' ⟨rfl, rfl⟩
    exact ⟨rfl, app_sl h, Only.refl _ _⟩
  · obtain ⟨⟨h1, h2⟩, h3⟩ := h
    rcases h2 with ⟨hv, h0'⟩ | ⟨b, cap, cur, hv, _, hh, hnc, hcm, hcs, htake⟩
    · omega
    · injection hv with e1 e2 e3
      subst e1 e3
      have hgb : g = some b := h3.symm
      have hbl := lt_heap hh
      have hcur : ∀ j, j < n → cur[j]? = some (.int .i64 (l.getD j 0)) := by
        intro j hj
        rw [← Array.getElem?_toList]
        have : (cur.toList.take (n * 1))[j]? = (ivs l)[j]? := by rw [htake]
        rw [List.getElem?_take, if_pos (by omega)] at this
        rw [this]
        unfold ivs
        rw [List.getElem?_map, List.getElem?_eq_getElem (by omega)]
        simp [List.getD_eq_getElem?_getD, List.getElem?_eq_getElem (show j < l.length by omega)]
      have hH : Holds (Value.int .i64) w b 0 l.toArray := by
        intro j hj
        have hj' : j < n := by simpa [hl] using hj
        refine ⟨?_, by simp [World.frozen?, hh]⟩
        rw [cell_of_row w b _ cur _ _ hh, Nat.zero_add, hcur j hj']
        have : j < l.length := by omega
        simp [List.getD_eq_getElem?_getD, this]
      have hC := AnyM.slices_Sort_int (P := Try.prog) (ρ := sortIL_ren) sortIL b 0 c l w hH hbl (by omega)
      change Calls Try.prog 40 _ _ _ at hC
      rw [hl, sortI_eq] at hC
      refine hC.mono ?_
      rintro e w' ⟨rfl, m, os, rfl⟩
      have hsl : (sortI l).length = l.length := (sortI_perm l).length_eq
      have hH2 : Holds (Value.int .i64) (grow (putRow (Value.int .i64) (Sort.ahead w m) b 0 (sortI l).toArray) os) b 0 (sortI l).toArray :=
        holds_grow _ _ _ _ _ _ (by rw [size_putRow]; exact hbl) (holds_putRow _ _ _ _ _ _ (show Holds (Value.int .i64) (Sort.ahead w m) b 0 l.toArray from hH) (by simp [hsl]))
      refine ⟨rfl, ⟨by omega, hnc, hcm, fun i hi => ⟨b, 0, rfl, ?_, ?_⟩⟩, ?_⟩
      · show b < (grow _ _).heap.size
        rw [size_grow, size_putRow]
        exact Nat.lt_of_lt_of_le hbl (Nat.le_add_right _ _)
      · have := (hH2 i (by simp; omega)).1
        rw [show (grow (putRow (Value.int .i64) (Sort.ahead w m) b 0 (sortI l).toArray) os).cell? ⟨b, 0 + i, none⟩ = _ from this]
        have hi' : i < (sortI l).length := by omega
        simp [List.getD_eq_getElem?_getD, hi']
      · rw [hgb]
        refine ⟨rfl, rfl, rfl, ?_, fun k hk hn' => ?_⟩
        · show _ ≤ (grow _ _).heap.size
          rw [size_grow, size_putRow]
          exact Nat.le_add_right _ _
        · show (grow _ _).heap[k]? = _
          rw [heap_grow_old _ _ (by rw [size_putRow]; exact hk)]
          have hne : b ≠ k := fun e => hn' (by simp [e])
          simp [putRow, mapBlock, Array.getElem?_modify, hne, Go.Sort.ahead]
def endOf (x : Ed) (d : Int) : Int := if d = 0 then x.1 else x.2
/-- the other ends of a node's edges, in the text's order -/
def besA (E : List Ed) (n d : Int) : List Int := (E.filter fun x => decide (endOf x d = n)).map fun x => endOf x (1 - d)
def besL (N : Int) (E : List Ed) (n d : Int) : List Int := if goodG N E = true then sortI (besA E n d) else []
end Go.Proofs.Ytmejphlpcgochaa
