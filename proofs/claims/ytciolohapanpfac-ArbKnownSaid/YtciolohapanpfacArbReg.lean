/- The walks of the register: New, Get, Swap, Log. -/
import Derived.Test.YtciolohapanpfacArbLead2
import Derived.Laws.StructEq
import Derived.Deep.RegionHeld3
set_option linter.unusedVariables false
set_option linter.unusedSimpArgs false
namespace Go.Proofs.Ytciolohapanpfac
open Go.RowKit
theorem elemS : Elem Try.prog 31 26 (.agg #[.int .i64 0, .int .i64 0, .bool false, .int .i64 0]) 4 32 :=
  ⟨Try.underlying31, info_parts (by kernel_rfl), rfl, by omega⟩
/-- the cells of a row of states -/
def asV (l : List AS) : List Value := l.flatMap AS.cs
theorem asV_len (l : List AS) : (asV l).length = l.length * 4 := by induction l with | nil => rfl | cons x l ih => simp [asV, AS.cs] at ih ⊢; omega
theorem asV_append (l m : List AS) : asV (l ++ m) = asV l ++ asV m := by simp [asV]
theorem asV_at : ∀ (l : List AS) (i : Nat) (x : AS), l[i]? = some x → (asV l)[i * 4]? = some (.int .i64 x.e) ∧ (asV l)[i * 4 + 1]? = some (.int .i64 x.h) ∧ (asV l)[i * 4 + 2]? = some (.bool x.s) ∧ (asV l)[i * 4 + 3]? = some (.int .i64 x.f)
  | [], i, x, h => by cases h
  | y :: l, 0, x, h => by
    obtain rfl : y = x := by simpa using h
    exact ⟨rfl, rfl, rfl, rfl⟩
  | y :: l, i + 1, x, h => by
    have := asV_at l i x (by simpa using h)
    simpa [asV, AS.cs, Nat.add_mul] using this
/-- a slice of states that reads as l -/
def SlS (w : World) (a : Option Addr) (n c : Nat) (l : List AS) : Prop :=
  l.length = n ∧ n ≤ c ∧ c ≤ maxLen ∧ (0 < n → ∃ b o, a = some ⟨b, o, none⟩ ∧ b < w.heap.size ∧ ∀ j v, (asV l)[j]? = some v → w.cell? ⟨b, o + j, none⟩ = some v)
theorem appF_slS {w : World} {a : Option Addr} {n c : Nat} {g : Option Nat} {l : List AS} (h : AppF w 26 4 (.slice a n c) n g (asV l)) : SlS w a n c l ∧ (∀ x, a = some x → g = some x.block) := by
  have hl : l.length = n := by have := h.len; rw [asV_len] at this; omega
  rcases h with ⟨⟨h1, h2⟩, h3⟩ | ⟨b, o, hv, rfl, hm, hl', hlt, hc⟩
  · refine ⟨?_, fun x hx => by subst hx; exact h3.symm⟩
    rcases h2 with ⟨hn, rfl⟩ | ⟨b, cap, cur, hv, _, hh, hnc, hcm, hcs, htake⟩
    · injection hn with e1 e2 e3
      subst e1 e3
      exact ⟨hl, Nat.le_refl _, by unfold maxLen; omega, fun h0 => by omega⟩
    · injection hv with e1 e2 e3
      subst e1 e3
      refine ⟨hl, hnc, hcm, fun _ => ⟨b, 0, rfl, lt_heap hh, fun j v hj => ?_⟩⟩
      rw [cell_of_row w b _ cur _ _ hh, Nat.zero_add]
      rw [← htake, List.getElem?_take] at hj
      split at hj
      · rw [← Array.getElem?_toList]; exact hj
      · cases hj
  · injection hv with e1 e2 e3
    subst e1 e3
    exact ⟨⟨hl, Nat.le_refl _, hm, fun _ => ⟨b, o, rfl, hlt, hc⟩⟩, fun x hx => by injection hx with hx; rw [← hx]⟩
/-- the register at block p was l -/
def ArbAt (w : World) (p : Nat) (g : Option Nat) (l : List AS) : Prop :=
  ∃ a n c, w.heap[p]? = some (.cells #[.slice a n c] 46 (0, 0)) ∧ AppF w 26 4 (.slice a n c) n g (asV l) ∧ (∀ k, g = some k → k ≠ p)
theorem Only.arb {S : List Nat} {w w' : World} {p : Nat} {g : Option Nat} {l : List AS} (h : Only S w w') (hA : ArbAt w p g l) (hp : p ∉ S) (hg : ∀ k, g = some k → k ∉ S) : ArbAt w' p g l := by
  obtain ⟨a, n, c, h1, h2, h3⟩ := hA
  exact ⟨a, n, c, h.heap h1 hp, h.appF h2 hg, h3⟩
theorem Kept.arb {w w' : World} {p : Nat} {g : Option Nat} {l : List AS} (h : Kept w w') (hA : ArbAt w p g l) : ArbAt w' p g l := h.only.arb hA (by simp) (by simp)
theorem ArbAt.lt {w : World} {p : Nat} {g : Option Nat} {l : List AS} (hA : ArbAt w p g l) : p < w.heap.size ∧ (∀ k, g = some k → k < w.heap.size) ∧ ∀ k, g = some k → k ≠ p := by
  obtain ⟨a, n, c, h1, h2, h3⟩ := hA
  exact ⟨lt_heap h1, h2.lt, h3⟩
set_option maxHeartbeats 1000000 in
theorem arb_new (w : World) : Calls Try.prog 9 #[] w fun e w' => ∃ p k, e = .returned (.pointer (some ⟨p, 0, none⟩)) ∧ ArbAt w' p (some k) [⟨0, -1, false, 0⟩] ∧ Kept w w' ∧ w.heap.size ≤ p ∧ w.heap.size ≤ k := by
  go_enter Try.func9, Try.ntmps9
  go_wp2
  go_ret
  refine ⟨w.heap.size + 1, w.heap.size, rfl, ⟨some ⟨w.heap.size, 0, none⟩, 1, 1, two_new _ _ _, .inr ⟨_, 0, rfl, rfl, by unfold maxLen; omega, rfl, by simp; omega, fun j u hu => ?_⟩, by intro k hk; injection hk with hk; omega⟩, by (unfold Kept; repeat (first | exact Below.refl _ _ | assumption | (refine Below.alloc ?_ (by simp) _) | (refine Below.setCell ?_ (by simp) _) | (refine Below.drew ?_) | (refine below_drewN ?_ _))), by omega, Nat.le_refl _⟩
  have hh := heap_keep (heap_alloc_new w (.cells #[.int .i64 0, .int .i64 (-1), .bool false, .int .i64 0] 26)) (.cells #[.slice (some ⟨w.heap.size, 0, none⟩) 1 1] 46)
  rw [cell_of_row _ _ _ _ _ _ hh, Nat.zero_add]
  simpa [asV, AS.cs] using hu
set_option maxHeartbeats 1000000 in
theorem arb_get (p : Nat) (g : Option Nat) (l : List AS) (x : AS) (w : World) (hA : ArbAt w p g (l ++ [x])) : Calls Try.prog 10 #[.pointer (some ⟨p, 0, none⟩)] w fun e w' => e = .returned x.v ∧ Kept w w' := by
  obtain ⟨a, n, c, hp, hF, hg⟩ := hA
  obtain ⟨⟨hl, hnc, hcm, hc⟩, hgb⟩ := appF_slS hF
  obtain rfl : n = l.length + 1 := by simpa using hl.symm
  obtain ⟨b, o, rfl, hlt, hcell⟩ := hc (by omega)
  obtain ⟨e0, e1, e2, e3⟩ := asV_at (l ++ [x]) l.length x (by simp)
  have c0 := hcell _ _ e0
  have c1 := hcell _ _ e1
  have c2 := hcell _ _ e2
  have c3 := hcell _ _ e3
  have cp := one_cell hp
  have hpl := lt_heap hp
  rw [← Nat.add_assoc] at c1 c2 c3
  unfold maxLen at hcm
  clear hc hF hcell e0 e1 e2 e3 hgb hl hp hg
  obtain ⟨e, h, s, f⟩ := x
  generalize l.length = m at *
  dsimp only [AS.v] at *
  go_enter Try.func10, Try.ntmps10
  go_wp2_with fail
  have hi : (m : Int) + 1 - 1 = m := by omega
  go_region
  go_wp2
  exact bodyPost_ret (v := .agg #[.int .i64 e, .int .i64 h, .bool s, .int .i64 f]) (by simp [results, Try.results10, go_sem]) rfl ⟨rfl, by (unfold Kept; repeat (first | exact Below.refl _ _ | assumption | (refine Below.alloc ?_ (by simp) _) | (refine Below.setCell ?_ (by simp) _) | (refine Below.drew ?_) | (refine below_drewN ?_ _)))⟩
/-- the same state, field by field -/
def asEq (e h : Int) (s : Bool) (f e' h' : Int) (s' : Bool) (f' : Int) : Bool := decide (AS.mk e h s f = AS.mk e' h' s' f')
theorem asEq_and (e h : Int) (s : Bool) (f e' h' : Int) (s' : Bool) (f' : Int) : asEq e h s f e' h' s' f' = (e == e' && (h == h' && (s == s' && f == f'))) := by
  unfold asEq
  by_cases h1 : e = e' <;> by_cases h2 : h = h' <;> by_cases h3 : s = s' <;> by_cases h4 : f = f' <;> simp [h1, h2, h3, h4]
theorem eqS (e h : Int) (s : Bool) (f e' h' : Int) (s' : Bool) (f' : Int) (w : World) : (Op.equalIn 10000 26 (.agg #[.int .i64 e, .int .i64 h, .bool s, .int .i64 f]) (.agg #[.int .i64 e', .int .i64 h', .bool s', .int .i64 f'])).run Try.prog w = .ok (asEq e h s f e' h' s' f') w := by
  have hS : Try.prog.underlying 26 = some (.struct (Try.prog.fieldsOf 26)) := by kernel_rfl
  have hp : Try.prog.stoodInHeld 26 = false := by kernel_rfl
  rw [show (10000 : Nat) = 9999 + 1 from rfl, run_equalIn_agg w 9999 26 _ _ hS hp, asEq_and]
  simp only [Program.fieldsOf, Try.underlying26]
  go_simp
  by_cases h1 : e = e' <;> by_cases h2 : h = h' <;> by_cases h3 : s = s' <;> by_cases h4 : f = f' <;> simp [h1, h2, h3, h4]
theorem eqR (e h : Int) (s : Bool) (f e' h' : Int) (s' : Bool) (f' : Int) (w : World) : (Op.equalIn 10000 34 (.agg #[.int .i64 e, .int .i64 h, .bool s, .int .i64 f]) (.agg #[.int .i64 e', .int .i64 h', .bool s', .int .i64 f'])).run Try.prog w = .ok (asEq e h s f e' h' s' f') w := by
  have hS : Try.prog.underlying 34 = some (.struct (Try.prog.fieldsOf 34)) := by kernel_rfl
  have hp : Try.prog.stoodInHeld 34 = false := by kernel_rfl
  rw [show (10000 : Nat) = 9999 + 1 from rfl, run_equalIn_agg w 9999 34 _ _ hS hp, asEq_and]
  simp only [Program.fieldsOf, Try.underlying34]
  go_simp
  by_cases h1 : e = e' <;> by_cases h2 : h = h' <;> by_cases h3 : s = s' <;> by_cases h4 : f = f' <;> simp [h1, h2, h3, h4]
theorem run_eqS (e h : Int) (s : Bool) (f e' h' : Int) (s' : Bool) (f' : Int) (w : World) : (binOp .eql 26 (.agg #[.int .i64 e, .int .i64 h, .bool s, .int .i64 f]) (.agg #[.int .i64 e', .int .i64 h', .bool s', .int .i64 f'])).run Try.prog w = .ok (.bool (asEq e h s f e' h' s' f')) w := by
  rw [run_eql_struct, eqS]; rfl
theorem run_neqS (e h : Int) (s : Bool) (f e' h' : Int) (s' : Bool) (f' : Int) (w : World) : (binOp .neq 26 (.agg #[.int .i64 e, .int .i64 h, .bool s, .int .i64 f]) (.agg #[.int .i64 e', .int .i64 h', .bool s', .int .i64 f'])).run Try.prog w = .ok (.bool (!asEq e h s f e' h' s' f')) w := by
  rw [run_neq_struct, eqS]; rfl
theorem run_eqR (e h : Int) (s : Bool) (f e' h' : Int) (s' : Bool) (f' : Int) (w : World) : (binOp .eql 34 (.agg #[.int .i64 e, .int .i64 h, .bool s, .int .i64 f]) (.agg #[.int .i64 e', .int .i64 h', .bool s', .int .i64 f'])).run Try.prog w = .ok (.bool (asEq e h s f e' h' s' f')) w := by
  rw [run_eql_struct, eqR]; rfl
@[go_sem] theorem guardS (op : BinOp) (x y : Operand) (xs ys : Array Value) (w : World) : (eqGuard op 26 x y (.agg xs) (.agg ys)).run Try.prog w = .ok () w := run_eqGuard_agg w op 26 x y xs ys (by kernel_rfl)
@[go_sem] theorem guardR (op : BinOp) (x y : Operand) (xs ys : Array Value) (w : World) : (eqGuard op 34 x y (.agg xs) (.agg ys)).run Try.prog w = .ok () w := run_eqGuard_agg w op 34 x y xs ys (by kernel_rfl)
end Go.Proofs.Ytciolohapanpfac
