/-
  It is proved that the given statement on outriderlaw22.MsgSame holds: for every input the call returns true and leaves its arguments as they were. There are no conditions beyond the row.
-/
import Derived.Test.YtpojncpblkklgaaRows
import Derived.Test.YtpojncpblkklgaaMsgSameLaw
import Derived.Test.YtpojncpblkklgaaTy
import Derived.WalkKit
import Derived.ProofKit
import Derived.OpenShut
import Derived.ChangeOld
import Derived.Below
set_option linter.unusedVariables false
namespace Go.Proofs.Ytpojncpblkklgaa.msgSame
open Go.ChangeShapes Go.WideShapes Go.ChangeAt Go.RowKit
theorem own : ownKnob Try.prog.godebug = none := by kernel_rfl
theorem laidOut : laidOutB Try.prog = true := by kernel_rfl
theorem fit0 : Fits Try.prog (.st (.cons (.int .i64) (.cons (.int .i64) (.cons (.int .i64) (.cons (.int .i64) (.cons (.int .i64) (.cons (.int .i64) (.cons (.sl (.st (.cons (.int .u64) (.cons (.sl (.int .u8)) .nil)))) (.cons (.st (.cons (.sl (.int .u64)) (.cons (.int .i64) .nil))) .nil))))))))) (.inl 29) := ⟨_, Try.underlying29, by kernel_rfl, ⟨_, _, rfl, rfl, by kernel_rfl, Try.underlying3, ⟨_, _, rfl, rfl, by kernel_rfl, Try.underlying3, ⟨_, _, rfl, rfl, by kernel_rfl, Try.underlying3, ⟨_, _, rfl, rfl, by kernel_rfl, Try.underlying2, ⟨_, _, rfl, rfl, by kernel_rfl, Try.underlying2, ⟨_, _, rfl, rfl, by kernel_rfl, Try.underlying2, ⟨_, _, rfl, rfl, by kernel_rfl, ⟨50, Try.underlying24, by kernel_rfl, by decide, ⟨_, Try.underlying50, by kernel_rfl, ⟨_, _, rfl, rfl, by kernel_rfl, Try.underlying35, ⟨_, _, rfl, rfl, by kernel_rfl, ⟨5, Try.underlying32, by kernel_rfl, by decide, Try.underlying5⟩, rfl⟩⟩⟩⟩, ⟨_, _, rfl, rfl, by kernel_rfl, ⟨_, Try.underlying27, by kernel_rfl, ⟨_, _, rfl, rfl, by kernel_rfl, ⟨35, Try.underlying25, by kernel_rfl, by decide, Try.underlying35⟩, ⟨_, _, rfl, rfl, by kernel_rfl, Try.underlying2, rfl⟩⟩⟩, rfl⟩⟩⟩⟩⟩⟩⟩⟩⟩
theorem fit1 : Fits Try.prog (.st (.cons (.int .i64) (.cons (.int .i64) (.cons (.int .i64) (.cons (.int .i64) (.cons (.int .i64) (.cons (.int .i64) (.cons (.sl (.st (.cons (.int .u64) (.cons (.sl (.int .u8)) .nil)))) (.cons (.st (.cons (.sl (.int .u64)) (.cons (.int .i64) .nil))) .nil))))))))) (.inl 29) := ⟨_, Try.underlying29, by kernel_rfl, ⟨_, _, rfl, rfl, by kernel_rfl, Try.underlying3, ⟨_, _, rfl, rfl, by kernel_rfl, Try.underlying3, ⟨_, _, rfl, rfl, by kernel_rfl, Try.underlying3, ⟨_, _, rfl, rfl, by kernel_rfl, Try.underlying2, ⟨_, _, rfl, rfl, by kernel_rfl, Try.underlying2, ⟨_, _, rfl, rfl, by kernel_rfl, Try.underlying2, ⟨_, _, rfl, rfl, by kernel_rfl, ⟨50, Try.underlying24, by kernel_rfl, by decide, ⟨_, Try.underlying50, by kernel_rfl, ⟨_, _, rfl, rfl, by kernel_rfl, Try.underlying35, ⟨_, _, rfl, rfl, by kernel_rfl, ⟨5, Try.underlying32, by kernel_rfl, by decide, Try.underlying5⟩, rfl⟩⟩⟩⟩, ⟨_, _, rfl, rfl, by kernel_rfl, ⟨_, Try.underlying27, by kernel_rfl, ⟨_, _, rfl, rfl, by kernel_rfl, ⟨35, Try.underlying25, by kernel_rfl, by decide, Try.underlying35⟩, ⟨_, _, rfl, rfl, by kernel_rfl, Try.underlying2, rfl⟩⟩⟩, rfl⟩⟩⟩⟩⟩⟩⟩⟩⟩
set_option maxRecDepth 100000 in
theorem lifted (os : Os) (started : os.Started) (H : Type) (enc : TypeId × Value → H) :
    ReturnsInHanded {} Try.checked os 4 .any (Rows.msgSameSpec.pre6 enc Try.prog Try.f4 Rows.msgSameRow.domain false) (Rows.msgSameSpec.post enc Try.prog Try.f4 false true false false) := by
  refine returnsInHanded_of_change (C := Try.checked) own started (by kernel_rfl) Try.func4
    (ChangeSpec.witness6 (enc := enc) (C := Try.checked) false ⟨#[], #[.agg #[.int .i64 0, .int .i64 0, .int .i64 0, .int .i64 0, .int .i64 0, .int .i64 0, .slice none 0 0, .slice none 0 0, .int .i64 0], .agg #[.int .i64 0, .int .i64 0, .int .i64 0, .int .i64 0, .int .i64 0, .int .i64 0, .slice none 0 0, .slice none 0 0, .int .i64 0]], []⟩ 8 (by kernel_rfl) (by kernel_rfl) (by kernel_rfl) (by kernel_rfl)) ?_
  intro W base args ds gs before hval0 hW hcnd _
  have hval : ∀ (j : Nat) t v, Try.f4.params[j]? = some t → args[j]? = some v → Value.okWide Try.prog W .any base t v := hval0
  have hW' := hW
  obtain ⟨p, q, hA0, hV, rfl, hfz, hnd⟩ := hW
  have hA : DataW.TrodAll enc Try.prog W 0 (fun _ => true) true Try.f4.params.toList args.toList ds p := hA0
  rw [Try.params4] at hA hval
  obtain ⟨v0, vs0, d0, ds0, p0, q0, hargs, rfl, rfl, h0, r0⟩ := trodAll_cons hA
  obtain ⟨v1, vs1, d1, ds1, p1, q1, rfl, rfl, rfl, h1, r1⟩ := trodAll_cons r0
  obtain ⟨rfl, rfl, rfl⟩ := trodAll_nil r1
  obtain rfl : args = #[v0, v1] := by cases args; simp_all
  obtain ⟨rfl, rfl⟩ := trodVars_none hV
  have lt0 : ∀ x ∈ p0, x.block < W.heap.size := by obtain ⟨m, hm⟩ := h0; exact DataW.trod_lt m _ _ _ hm
  obtain ⟨x0, w0⟩ := repV_of_trod fit0 (hval 0 29 v0 rfl rfl) h0
  have lt1 : ∀ x ∈ p1, x.block < W.heap.size := by obtain ⟨m, hm⟩ := h1; exact DataW.trod_lt m _ _ _ hm
  obtain ⟨x1, w1⟩ := repV_of_trod fit1 (hval 1 29 v1 rfl rfl) h1
  clear hA0 hval0
  refine (msgSame_law v0 v1 x0 x1 W w0 w1).mono fun e W' ⟨he, bel⟩ => ?_
  subst he
  exact ⟨_, rfl, _, _, _, [], _, [], hW', trodAll_mk1 (shut_bool Try.underlying4 _), (trodAll_cons_mk (Below.trod laidOut (by kernel_rfl) (of_decide_eq_true (by kernel_rfl)) h0 bel lt0) (trodAll_cons_mk (Below.trod laidOut (by kernel_rfl) (of_decide_eq_true (by kernel_rfl)) h1 bel lt1) trodAll_mk0)), rfl, bel.frame _, fun h => by cases h⟩
theorem over : Rows.msgSameRow.holds Try.pinned (OpenSpec.ofChange Rows.msgSameSpec) :=
  OpenClaim.holds_of_wide 4 Try.f4 rfl rfl rfl rfl rfl rfl rfl ⟨rfl, rfl, rfl, rfl, rfl⟩ rfl rfl rfl rfl rfl (by kernel_rfl) Try.func4 (by kernel_rfl)
    (of_decide_eq_true (by kernel_rfl)) (by unfold Func.isWrapper; first | (rw [if_pos (by decide +kernel)]; kernel_rfl) | (rw [if_neg (by decide +kernel)]; exact ⟨rfl, rfl⟩))
    (fun os started H enc _ => lifted os started H enc)
/-- the statement -/
theorem proved : Rows.MsgSameSaid := over
#print axioms proved
end Go.Proofs.Ytpojncpblkklgaa.msgSame
