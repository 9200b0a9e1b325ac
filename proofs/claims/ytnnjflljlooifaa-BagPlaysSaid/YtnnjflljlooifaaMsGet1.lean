/- slices.Clone of bytes; msg.place. -/
import Derived.Test.YtnnjflljlooifaaTwo
import Derived.Test.YtnnjflljlooifaaEncIn2
set_option linter.unusedVariables false
set_option linter.unusedSimpArgs false
namespace Go.Proofs.Ytnnjflljlooifaa
open Go.RowKit
set_option maxHeartbeats 1000000 in
theorem ms_clone (a : Option Addr) (n c : Nat) (L : List Int) (w : World) (hS : Sl .u8 w a n c L) (hb : n ≤ 1000000) :
    Calls Try.prog 31 #[.slice a n c] w fun e w' => ∃ a' c' g, e = .returned (.slice a' n c') ∧ App w' 5 1 (.slice a' n c') n g (bytesV L) ∧ Kept w w' ∧ (∀ k, g = some k → w.heap.size ≤ k) := by
  have hq : ∀ W, (binOp .eql 53 (.slice a n c) (.slice none 0 0)).run Try.prog W = .ok (.bool a.isNone) W := fun W => Go.Lib.run_eql_slice_nil W _ _ a n c 0 0 Try.underlying53
  have HS := Lib.hid (((Only.refl [] w).alloc (.cells #[] 5)).kept.sl hS)
  cases a with
  | none =>
    obtain ⟨rfl, rfl⟩ := sl_isNone hS
    clear hS
    go_enter Try.func31, Try.ntmps31
    go_wp2
    go_ret
    exact ⟨none, 0, none, rfl, app_nil _ _ _, Kept.refl _, by simp⟩
  | some x =>
    clear hS
    go_enter Try.func31, Try.ntmps31
    go_wp2_with (at_builtin; refine wpList_app rfl (.tmp 5) (.tmp 6) 53 53 rfl elemB _ 0 _ _ rfl (app_empty w _) _ n _ rfl (src_sl Try.underlying53 HS.out) (by omega) (by unfold maxLen; omega) ?_; intro a' c' g'' w1 hA2 hO2 hG2)
    rw [Nat.zero_add, List.nil_append] at hA2
    go_ret
    exact ⟨a', c', g'', rfl, hA2, ((Kept.refl w).only.alloc _ |>.then hO2 (by intro i hi hm; simp at hm; omega)).kept, by intro k hk; rcases hG2 with rfl | rfl <;> simp at hk <;> omega⟩
/-- what place makes of a number -/
def plc (v : Int) : Int := if v ≤ 17592186044417 then v else 17592186044417
set_option maxHeartbeats 1000000 in
theorem msg_place (p : Nat) (s : St) (w : World) (hI : InAt w 74 p s.1 s.2) :
    Calls Try.prog 33 #[.pointer (some ⟨p, 0, none⟩)] w fun e w' => e = .returned (.int .i64 (plc (stU s).1)) ∧ InAt w' 74 p (stU s).2.1 (stU s).2.2 ∧ Only [p] w w' := by
  have HI := Lib.hid (in_U_any p s w hI)
  clear hI
  generalize stU s = st at *
  obtain ⟨v, zs, b⟩ := st
  dsimp only at HI ⊢
  go_enter Try.func33, Try.ntmps33
  go_wp2_with fail
  refine HI.out.mono ?_
  rintro e V ⟨rfl, hA, hO, h0, h1⟩
  have HA := Lib.hid hA
  clear hA
  by_cases hv : v ≤ 17592186044417
  · have hw : IntKind.i64.wrap v = v := by rw [IntKind.wrap_i64]; omega
    have hr : plc v = v := if_pos hv
    go_wp2_with fail
    exact bodyPost_ret (v := .int .i64 v) (by simp [results, Try.results33, go_sem]) rfl ⟨by rw [hr], HA.out, hO⟩
  · have hr : plc v = 17592186044417 := if_neg hv
    go_wp2_with fail
    exact bodyPost_ret (v := .int .i64 17592186044417) (by simp [results, Try.results33, go_sem]) rfl ⟨by rw [hr], HA.out, hO⟩
end Go.Proofs.Ytnnjflljlooifaa
