/- BagPlays, whatever it is given. -/
import Derived.Test.YtnnjflljlooifaaBagPlaysWalk
import Derived.Test.YtnnjflljlooifaaTy
set_option linter.unusedVariables false
set_option linter.unusedSimpArgs false
namespace Go.Proofs.Ytnnjflljlooifaa
open Go.RowKit
abbrev TyAct : Ty := .st (.cons (.int .i64) (.cons (.int .i64) (.cons (.int .i64) .nil)))
theorem slT_acts {w : World} {a : Option Addr} {n c : Nat} {l : List TyAct.den} (h : SlT w TyAct a n c l) : Acts w a n c (l.map fun x => (x.1, x.2.1, x.2.2.1)) := by
  obtain ⟨h1, h2, h3, h4⟩ := h
  refine ⟨by rw [List.length_map]; exact h1, h2, h3, fun i x hi => ?_⟩
  rw [List.getElem?_map] at hi
  obtain ⟨y, hy, rfl⟩ := Option.map_eq_some_iff.1 hi
  obtain ⟨b, o, cs', ha, hlt, hl, hc, c1, r1, rfl, _, ⟨rfl, _⟩, c2, r2, rfl, _, ⟨rfl, hw2⟩, c3, r3, rfl, _, ⟨rfl, hw3⟩, h5⟩ := h4 i y hy
  have q0 := hc 0 _ rfl
  have q1 := hc 1 _ rfl
  have q2 := hc 2 _ rfl
  exact ⟨wf_bd_i64 hw2, wf_bd_i64 hw3, b, o, ha, q0, q1, q2⟩
theorem bagPlays_law (v0 : Value) (x0 : (Ty.sl TyAct).den) (w : World) (w0 : RepV w (.sl TyAct) v0 x0) :
    Calls Try.prog 5 #[v0] w fun e w' => e = .returned (.bool true) ∧ Below w.heap.size w w' := by
  obtain ⟨a, n, c, rfl, hs⟩ := repV_sl w0
  exact bagPlays_walk a n c _ w (slT_acts hs)
end Go.Proofs.Ytnnjflljlooifaa
