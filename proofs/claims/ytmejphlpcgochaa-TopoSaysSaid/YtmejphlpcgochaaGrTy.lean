/- A graph among a law's arguments. -/
import Derived.Test.YtmejphlpcgochaaGrI
import Derived.Test.YtmejphlpcgochaaTy
set_option linter.unusedVariables false
set_option linter.unusedSimpArgs false
namespace Go.Proofs.Ytmejphlpcgochaa
open Go.RowKit
abbrev TyEdge : Ty := .ar2 (.int .i64)
abbrev TyGraph : Ty := .st (.cons (.int .i64) (.cons (.sl TyEdge) .nil))
def edgeOf (x : TyEdge.den) : Ed := (x.1, x.2)
theorem edVs_get (L : List Ed) (j : Nat) (u : Value) (h : (edVs L)[j]? = some u) : ∃ i r x, j = i * 2 + r ∧ r < 2 ∧ L[i]? = some x ∧ (r = 0 ∧ u = .int .i64 x.1 ∨ r = 1 ∧ u = .int .i64 x.2) := by
  have hj := (List.getElem?_eq_some_iff.1 h).1
  rw [edVs_len] at hj
  have hi : j / 2 < L.length := by omega
  have hx : L[j / 2]? = some L[j / 2] := List.getElem?_eq_getElem hi
  obtain ⟨g0, g1⟩ := edVs_at L (j / 2) _ hx
  refine ⟨j / 2, j % 2, L[j / 2], by omega, by omega, hx, ?_⟩
  rcases (by omega : j % 2 = 0 ∨ j % 2 = 1) with e | e
  · refine .inl ⟨e, ?_⟩
    rw [show j / 2 * 2 = j from by omega, h] at g0
    injection g0
  · refine .inr ⟨e, ?_⟩
    rw [show j / 2 * 2 + 1 = j from by omega, h] at g1
    injection g1
theorem slT_edge {w : World} {a : Option Addr} {n c : Nat} {l : List TyEdge.den} (h : SlT w TyEdge a n c l) : SlE w a n c (l.map edgeOf) := by
  obtain ⟨h1, h2, h3, h4⟩ := h
  have hall : ∀ i x, l[i]? = some x → ∃ b o, a = some ⟨b, o, none⟩ ∧ b < w.heap.size ∧ w.cell? ⟨b, o + i * 2, none⟩ = some (.int .i64 x.1) ∧ w.cell? ⟨b, o + i * 2 + 1, none⟩ = some (.int .i64 x.2) := by
    intro i x hx
    obtain ⟨b, o, cs', ha, hb, hl, hc, c1, c2, rfl, _, _, ⟨rfl, _⟩, ⟨rfl, _⟩⟩ := h4 i x hx
    exact ⟨b, o, ha, hb, hc 0 _ rfl, hc 1 _ rfl⟩
  refine ⟨by simpa using h1, h2, h3, fun h0 => ?_⟩
  obtain ⟨x0, hx0⟩ : ∃ x, l[0]? = some x := ⟨_, List.getElem?_eq_getElem (by omega)⟩
  obtain ⟨b, o, ha, hb, _⟩ := hall 0 x0 hx0
  refine ⟨b, o, ha, hb, fun j u hu => ?_⟩
  obtain ⟨i, r, y, rfl, hr, hy, hu⟩ := edVs_get _ _ _ hu
  rw [List.getElem?_map] at hy
  cases hl : l[i]? with
  | none => rw [hl] at hy; cases hy
  | some z =>
    rw [hl] at hy
    injection hy with hy
    subst hy
    obtain ⟨b', o', ha', _, q0, q1⟩ := hall i z hl
    rw [ha] at ha'
    injection ha' with ha'
    injection ha' with e1 e2
    subst e1 e2
    rcases hu with ⟨rfl, rfl⟩ | ⟨rfl, rfl⟩
    · exact q0
    · rw [← Nat.add_assoc]; exact q1
theorem repV_graph {w : World} {v : Value} {x : TyGraph.den} (h : RepV w TyGraph v x) : ∃ N a n c E, v = .agg #[.int .i64 N, .slice a n c] ∧ SlE w a n c E ∧ (-9223372036854775808 ≤ N ∧ N ≤ 9223372036854775807) := by
  obtain ⟨hr, cs, rfl⟩ := h
  simp only [Value.cells] at hr
  obtain ⟨c1, r1, e1, _, ⟨rfl, hw⟩, c2, r2, rfl, _, h6, h7⟩ := hr
  obtain ⟨a, n, c, rfl, hs⟩ := rep_sl h6
  refine ⟨_, a, n, c, _, ?_, slT_edge hs, wf_bd_i64 hw⟩
  rw [show r2 = [] from h7] at e1
  congr 1
  exact Array.ext' (by simpa using e1)
end Go.Proofs.Ytmejphlpcgochaa
