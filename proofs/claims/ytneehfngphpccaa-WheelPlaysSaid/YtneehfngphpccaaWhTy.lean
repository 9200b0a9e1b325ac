/- Dues and acts among a law's arguments. -/
import Derived.Test.YtneehfngphpccaaWhAwake2
import Derived.Test.YtneehfngphpccaaTy
set_option linter.unusedVariables false
set_option linter.unusedSimpArgs false
namespace Go.Proofs.Ytneehfngphpccaa
open Go.RowKit
abbrev TyKey : Ty := .st (.cons (.int .i64) (.cons (.int .i64) .nil))
abbrev TyDue : Ty := .st (.cons TyKey (.cons (.int .i64) .nil))
abbrev TyAct : Ty := .st (.cons (.int .i64) (.cons TyKey (.cons (.int .i64) .nil)))
def dueOf (x : TyDue.den) : Du := (x.1.1, x.1.2.1, x.2.1)
theorem duVs_get (L : List Du) (j : Nat) (u : Value) (h : (duVs L)[j]? = some u) : ∃ i r x, j = i * 3 + r ∧ r < 3 ∧ L[i]? = some x ∧ (r = 0 ∧ u = .int .i64 x.1 ∨ r = 1 ∧ u = .int .i64 x.2.1 ∨ r = 2 ∧ u = .int .i64 x.2.2) := by
  have hj := (List.getElem?_eq_some_iff.1 h).1
  rw [duVs_len] at hj
  have hi : j / 3 < L.length := by omega
  have hx : L[j / 3]? = some L[j / 3] := List.getElem?_eq_getElem hi
  obtain ⟨g0, g1, g2⟩ := duVs_at L (j / 3) _ hx
  refine ⟨j / 3, j % 3, L[j / 3], by omega, by omega, hx, ?_⟩
  rcases (by omega : j % 3 = 0 ∨ j % 3 = 1 ∨ j % 3 = 2) with e | e | e
  · refine .inl ⟨e, ?_⟩
    rw [show j / 3 * 3 = j from by omega, h] at g0
    injection g0
  · refine .inr (.inl ⟨e, ?_⟩)
    rw [show j / 3 * 3 + 1 = j from by omega, h] at g1
    injection g1
  · refine .inr (.inr ⟨e, ?_⟩)
    rw [show j / 3 * 3 + 2 = j from by omega, h] at g2
    injection g2
theorem slT_due {w : World} {a : Option Addr} {n c : Nat} {l : List TyDue.den} (h : SlT w TyDue a n c l) : SlD w a n c (l.map dueOf) ∧ ∀ x ∈ l.map dueOf, (Lit.int .i64 x.1).wf = true ∧ (Lit.int .i64 x.2.1).wf = true ∧ (Lit.int .i64 x.2.2).wf = true := by
  obtain ⟨h1, h2, h3, h4⟩ := h
  have hall : ∀ i x, l[i]? = some x → ∃ b o, a = some ⟨b, o, none⟩ ∧ b < w.heap.size ∧ w.cell? ⟨b, o + i * 3, none⟩ = some (.int .i64 x.1.1) ∧ w.cell? ⟨b, o + i * 3 + 1, none⟩ = some (.int .i64 x.1.2.1) ∧ w.cell? ⟨b, o + i * 3 + 2, none⟩ = some (.int .i64 x.2.1) ∧ (Lit.int .i64 x.1.1).wf = true ∧ (Lit.int .i64 x.1.2.1).wf = true ∧ (Lit.int .i64 x.2.1).wf = true := by
    intro i x hx
    obtain ⟨b, o, cs', ha, hb, hl, hc, hr⟩ := h4 i x hx
    obtain ⟨c1, r1, rfl, _, ⟨c2, r2, rfl, _, ⟨rfl, w1⟩, c3, r3, rfl, _, ⟨rfl, w2⟩, e3⟩, c4, r4, rfl, _, ⟨rfl, w3⟩, e4⟩ := hr
    rw [show r3 = [] from e3, show r4 = [] from e4] at hc
    exact ⟨b, o, ha, hb, hc 0 _ rfl, hc 1 _ rfl, hc 2 _ rfl, w1, w2, w3⟩
  refine ⟨⟨by simpa using h1, h2, h3, fun h0 => ?_⟩, fun x hx => ?_⟩
  · obtain ⟨x0, hx0⟩ : ∃ x, l[0]? = some x := ⟨_, List.getElem?_eq_getElem (by omega)⟩
    obtain ⟨b, o, ha, hb, _⟩ := hall 0 x0 hx0
    refine ⟨b, o, ha, hb, fun j u hu => ?_⟩
    obtain ⟨i, r, y, rfl, hr, hy, hu⟩ := duVs_get _ _ _ hu
    rw [List.getElem?_map] at hy
    cases hl : l[i]? with
    | none => rw [hl] at hy; cases hy
    | some z =>
      rw [hl] at hy
      injection hy with hy
      subst hy
      obtain ⟨b', o', ha', _, q0, q1, q2, _⟩ := hall i z hl
      rw [ha] at ha'
      injection ha' with ha'
      injection ha' with e1 e2
      subst e1 e2
      rcases hu with ⟨rfl, rfl⟩ | ⟨rfl, rfl⟩ | ⟨rfl, rfl⟩
      · exact q0
      · rw [← Nat.add_assoc]; exact q1
      · rw [← Nat.add_assoc]; exact q2
  · obtain ⟨z, hz, rfl⟩ := List.mem_map.1 hx
    obtain ⟨i, hi, rfl⟩ := List.getElem_of_mem hz
    obtain ⟨_, _, _, _, _, _, _, w1, w2, w3⟩ := hall i _ (List.getElem?_eq_getElem hi)
    exact ⟨w1, w2, w3⟩
theorem repV_dues {w : World} {v : Value} {x : (Ty.sl TyDue).den} (h : RepV w (.sl TyDue) v x) : ∃ a n c L, v = .slice a n c ∧ SlD w a n c L ∧ ∀ x ∈ L, (-9223372036854775808 ≤ x.2.2 ∧ x.2.2 ≤ 9223372036854775807) := by
  obtain ⟨a, n, c, rfl, hs⟩ := repV_sl h
  obtain ⟨h1, h2⟩ := slT_due hs
  exact ⟨a, n, c, _, rfl, h1, fun x hx => wf_bd_i64 (h2 x hx).2.2⟩
end Go.Proofs.Ytneehfngphpccaa
