/- What the document tells of the first register: it is so. -/
import Derived.Test.YtciolohapanpfacArbReg2
set_option linter.unusedVariables false
set_option linter.unusedSimpArgs false
namespace Go.Proofs.Ytciolohapanpfac
open Go.RowKit
/-- the four cells of a state -/
def C4 (w : World) (q : Nat) (e h : Int) (s : Bool) (f : Int) : Prop :=
  w.cell? ⟨q, 0, none⟩ = some (.int .i64 e) ∧ w.cell? ⟨q, 1, none⟩ = some (.int .i64 h) ∧ w.cell? ⟨q, 2, none⟩ = some (.bool s) ∧ w.cell? ⟨q, 3, none⟩ = some (.int .i64 f)
theorem Kept.c4 {w w' : World} {q : Nat} {e h f : Int} {s : Bool} (k : Kept w w') (c : C4 w q e h s f) : C4 w' q e h s f := ⟨k.cel c.1, k.cel c.2.1, k.cel c.2.2.1, k.cel c.2.2.2⟩
theorem c4_new (w : World) (t : TypeId) (e h : Int) (s : Bool) (f : Int) : C4 (w.alloc (.cells #[.int .i64 e, .int .i64 h, .bool s, .int .i64 f] t)) w.heap.size e h s f := four_cells (heap_alloc_new w _)
/-- the cells of a new state, whatever is done behind -/
theorem c4_hid (w : World) (t : TypeId) (e h : Int) (s : Bool) (f : Int) : Hid (∀ V, Kept (w.alloc (.cells #[.int .i64 e, .int .i64 h, .bool s, .int .i64 f] t)) V → C4 V w.heap.size e h s f) := fun V k => k.c4 (c4_new w t e h s f)
theorem kept_new (w : World) (o : Obj) : Kept w (w.alloc o) := by (unfold Kept; repeat (first | exact Below.refl _ _ | assumption | (refine Below.alloc ?_ (by simp) _) | (refine Below.setCell ?_ (by simp) _) | (refine Below.drew ?_) | (refine below_drewN ?_ _)))
@[go_sem] theorem fieldS0 (e h : Int) (s : Bool) (f : Int) (w : World) : (Instr.field 26 (.agg #[.int .i64 e, .int .i64 h, .bool s, .int .i64 f]) 0).run Try.prog w = .ok (.int .i64 e) w := by kernel_rfl
set_option maxHeartbeats 2000000 in
theorem awake9 (w : World) : Calls Try.prog 8 #[] w fun e w' => e = .returned (.bool true) ∧ Kept w w' := by
  have q1 : asEq 1 1 false 0 1 1 false 0 = true := by simp [asEq]
  have q2 : asEq 0 (-1) false 0 0 (-1) false 0 = true := by simp [asEq]
  have HE := run_eqS
  go_enter Try.func8, Try.ntmps8
  go_wp2_with fail
  refine (arb_new _).mono ?_
  rintro e w1 ⟨p, k, rfl, hA, K1, hp, hk⟩
  have HA := Lib.hid hA
  clear hA
  go_wp2_with fail
  refine (arb_get p (some k) [] ⟨0, -1, false, 0⟩ w1 HA.out).mono ?_
  rintro e w2 ⟨rfl, K2⟩
  have HA2 := Lib.hid (K2.arb HA.out)
  dsimp only [AS.v]
  go_wp2_with fail
  refine (arb_lead ⟨0, -1, false, 0⟩ 1 w2).mono ?_
  rintro e w3 ⟨rfl, K3⟩
  rw [show leadF ⟨0, -1, false, 0⟩ 1 = (⟨1, 1, false, 0⟩, true) by decide]
  dsimp only [pairV, AS.v]
  have HA3 := Lib.hid (K3.arb HA2.out)
  go_wp2_with fail
  have K4 : Kept w3 (w3.alloc (.cells #[.int .i64 1, .int .i64 1, .bool false, .int .i64 0] 26)) := by (unfold Kept; repeat (first | exact Below.refl _ _ | assumption | (refine Below.alloc ?_ (by simp) _) | (refine Below.setCell ?_ (by simp) _) | (refine Below.drew ?_) | (refine below_drewN ?_ _)))
  refine (arb_get p (some k) [] ⟨0, -1, false, 0⟩ _ (K4.arb HA3.out)).mono ?_
  rintro e w5 ⟨rfl, K5⟩
  have K35 := K4.trans K5
  clear K4 K5
  have HA5 := Lib.hid (K35.arb HA3.out)
  dsimp only [AS.v]
  go_wp2_with fail
  refine (arb_log p (some k) [⟨0, -1, false, 0⟩] _ HA5.out (by simp) (by simp)).mono ?_
  rintro e w6 ⟨a', c', rfl, hS, K6⟩
  have K := (((K1.trans K2).trans K3).trans K35).trans K6
  clear hS
  go_wp2
  go_ret
  exact ⟨rfl, K⟩
end Go.Proofs.Ytciolohapanpfac
