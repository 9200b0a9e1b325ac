/- The walks of enc.Out, second part: S. -/
import Derived.Test.YteaepgbakcifkaaDoorEncOut
import Derived.Test.YteaepgbakcifkaaDoorStrs
import Derived.Test.YteaepgbakcifkaaDoorEncMath2
set_option linter.unusedVariables false
set_option linter.unusedSimpArgs false
namespace Go.Proofs.YteaepgbakcifkaaDoor
open Go.RowKit
/-- the row of an Out stayed, or it is new -/
def Went (w : World) (g g' : Option Nat) : Prop := g' = g ∨ ∃ k, g' = some k ∧ w.heap.size ≤ k
theorem went_sub {w : World} {p : Nat} {g g' : Option Nat} (h : Went w g g') : ∀ i, i < w.heap.size → i ∈ p :: g'.toList → i ∈ p :: g.toList := by
  intro i hi hm
  rcases h with rfl | ⟨k, rfl, hk⟩
  · exact hm
  · rcases List.mem_cons.1 hm with rfl | hm
    · exact List.mem_cons_self ..
    · simp at hm; omega
theorem Went.trans {a b : World} {g g' g'' : Option Nat} (h : Went a g g') (k : Went b g' g'') (hs : a.heap.size ≤ b.heap.size) : Went a g g'' := by
  rcases k with rfl | ⟨j, rfl, hj⟩
  · exact h
  · exact .inr ⟨j, rfl, Nat.le_trans hs hj⟩
set_option maxHeartbeats 1000000 in
theorem out_S (p : Nat) (g : Option Nat) (xs : List Int) (s : ByteArray) (w : World) (hO : OutAt w p g xs) (hb : xs.length ≤ 35184372088832) (hs : s.size ≤ 35184372088832) :
    Calls Tryd.prog 23 #[.pointer (some ⟨p, 0, none⟩), .string s] w fun e w' => e = .returned (.tuple #[]) ∧ ∃ g', OutAt w' p g' (xs ++ encS (ofStr s)) ∧ Only (p :: g.toList) w w' ∧ Went w g g' := by
  have H := Lib.hid (out_U p g xs s.size w (by omega) (by omega) hO (by omega))
  have hlen := (lenU_le s.size).2
  unfold lenU at hlen
  clear hO
  go_enter Tryd.func23, Tryd.ntmps23
  go_wp2_with fail
  refine H.out.mono ?_
  clear H
  rintro e w1 ⟨rfl, g1, hO1, ho1, hg1⟩
  obtain ⟨a, c, hp, happ, hg⟩ := hO1
  have hl : (xs ++ encU (s.size : Int)).length ≤ xs.length + 10 := by rw [List.length_append]; omega
  generalize hxs : xs ++ encU (s.size : Int) = ys at *
  have HX := Lib.hid hxs
  clear hxs
  have hcell := one_cell hp
  have hpg : p ∉ g1.toList := by intro hm; simp at hm; exact hg hm
  go_wp2_with (at_builtin; refine wpList_appF rfl _ _ 27 9 rfl elemB _ _ g1 _ rfl happ _ s.size _ rfl (Src.ofString _ Tryd.underlying9 s) (by omega) (by unfold maxLen; omega) ?_; intro a' c' g'' w2 hA hO' hG; have q0 := hO'.heap hp hpg; have q1 := one_cell q0; have q2 := one_free q0 0)
  go_end0
  have hpn : g'' ≠ some p := by
    rcases hG with rfl | rfl
    · exact hg
    · intro e; simp at e; have := lt_heap hp; omega
  have hA' : AppF w2 5 1 (.slice a' (ys.length + s.size) c') (ys.length + s.size) g'' (bytesV (ys ++ ofStr s)) := by rw [bytesV_append]; rw [byteCells_eq] at hA; exact hA
  refine ⟨rfl, g'', ?_, ?_, ?_⟩
  · have := outAt_store q0 hA' hpn
    rw [show xs ++ encS (ofStr s) = ys ++ ofStr s from by unfold encS; rw [ofStr_len, ← List.append_assoc, HX.out]]
    exact this
  · refine (ho1.then hO' ?_).setCell (by simp) _
    intro i hi hm
    exact went_sub (w := w) hg1 i hi (List.mem_cons_of_mem _ hm)
  · exact row_next ho1.size hg1 hG (Nat.le_refl _)
theorem outAt_sl {w : World} {p : Nat} {g : Option Nat} {xs : List Int} (h : OutAt w p g xs) : ∃ a c, w.heap[p]? = some (.cells #[.slice a xs.length c] 48 (0, 0)) ∧ Sl .u8 w a xs.length c xs ∧ inB a [p] := by
  obtain ⟨a, c, hp, happ, hg⟩ := h
  obtain ⟨h1, h2⟩ := appF_sl happ
  exact ⟨a, c, hp, h1, fun x hx hm => hg (by rw [h2 x hx]; simp at hm; rw [hm])⟩
theorem outAt_nil (w : World) : OutAt (w.alloc (.cells #[.slice none 0 0] 48 (0, 0))) w.heap.size none [] :=
  ⟨none, 0, heap_alloc_new w _, .inl (app_nil _ _ _), by simp⟩
theorem Only.outAt {S : List Nat} {w w' : World} {p : Nat} {g : Option Nat} {xs : List Int} (h : Only S w w') (hO : OutAt w p g xs) (hp : p ∉ S) (hg : ∀ k, g = some k → k ∉ S) : OutAt w' p g xs := by
  obtain ⟨a, c, hh, happ, hne⟩ := hO
  exact ⟨a, c, h.heap hh hp, h.appF happ hg, hne⟩
end Go.Proofs.YteaepgbakcifkaaDoor
