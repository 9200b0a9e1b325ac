/- Events: the test of all fields. -/
import Derived.Test.YteaepgbakcifkaaDoorEv3
import Derived.Shelf.Strings.FuncGrows
set_option linter.unusedVariables false
set_option linter.unusedSimpArgs false
namespace Go.Proofs.YteaepgbakcifkaaDoor
open Go.RowKit
theorem idx_any (p : Nat → Bool) (l : List UInt8) (hl : ∀ c ∈ l, c.toNat < 128) : ∀ f pos, l.length ≤ pos + f → decide (0 ≤ Lib.idxFuncFrom p true ⟨l.toArray⟩ f pos) = (l.drop pos).any (fun c => p c.toNat) := by
  have hsz : (⟨l.toArray⟩ : ByteArray).size = l.length := by show l.toArray.size = _; simp
  intro f
  induction f with
  | zero =>
    intro pos h
    rw [List.drop_eq_nil_of_le (by omega)]
    rfl
  | succ f ih =>
    intro pos h
    by_cases hp : pos < l.length
    · have hps : pos < (⟨l.toArray⟩ : ByteArray).size := by rw [hsz]; exact hp
      have hc : (⟨l.toArray⟩ : ByteArray)[pos]'hps = l[pos]'hp := by
        show l.toArray[pos]'(by simpa using hp) = _
        simp
      have hd := decode_ascii ⟨l.toArray⟩ pos hps (by rw [hc]; exact hl _ (List.getElem_mem _))
      rw [hc] at hd
      simp only [Lib.idxFuncFrom, hps, if_true, hd]
      rw [List.drop_eq_getElem_cons hp, List.any_cons]
      by_cases hq : p (l[pos]'hp).toNat = true
      · rw [if_pos hq, hq]
        simp
      · rw [if_neg hq, ih (pos + 1) (by omega), Bool.eq_false_iff.2 hq]
        simp
    · rw [List.drop_eq_nil_of_le (by omega), Lib.idxFuncFrom_end]
      · rfl
      · rw [hsz]; exact hp
theorem idx_any0 (p : Nat → Bool) (l : List UInt8) (hl : ∀ c ∈ l, c.toNat < 128) : decide (0 ≤ Lib.idxFunc p true ⟨l.toArray⟩) = l.any (fun c => p c.toNat) := by
  unfold Lib.idxFunc
  rw [idx_any p l hl _ 0 (by show l.length ≤ 0 + l.toArray.size; simp)]
  rfl
theorem ltr_lt {c : UInt8} (h : ltr c) : c.toNat < 128 := by rcases h with rfl | rfl | rfl | rfl | rfl | rfl | rfl <;> decide
set_option maxRecDepth 100000 in
set_option maxHeartbeats 4000000 in
theorem ev_clos (e : EV) (c q : Nat) (w : World) (hq : w.heap[q]? = some (evO e)) : Calls Tryd.prog 20 #[.int .i32 (c : Nat), .pointer (some ⟨q, 0, none⟩)] w fun E w' => E = .returned (.bool (!okF e c)) ∧ Kept w w' := by
  have HG := Lib.hid (fun W => ev_goodf e c W)
  generalize okF e c = b at *
  obtain ⟨a0, a1, a2, a3, a4, a5, a6, a7⟩ := ev_cells hq
  clear hq
  go_enter Tryd.func20, Tryd.ntmps20
  go_wp2_with fail
  refine (HG.out _).mono ?_
  rintro E V ⟨rfl, hK⟩
  have HK := Lib.hid hK
  clear hK
  go_wp2_with fail
  go_ret
  exact ⟨rfl, HK.out⟩
theorem ev_pred (e : EV) (q : Nat) (w : World) (hq : w.heap[q]? = some (evO e)) : PredGrows Tryd.prog 20 #[.pointer (some ⟨q, 0, none⟩)] (fun c => !okF e c) w := by
  intro W x hx hb
  exact (ev_clos e x q W ((hb.block q (lt_heap hq)).trans hq)).mono fun E w' h => h
theorem ev_any (e : EV) (l : List UInt8) (hl : ∀ c ∈ l, ltr c) (q : Nat) (w : World) (hq : w.heap[q]? = some (evO e)) : Calls Tryd.prog 19 #[.string ⟨l.toArray⟩, .func (.func 20) #[] #[.pointer (some ⟨q, 0, none⟩)]] w fun E w' => E = .returned (.bool (l.any fun c => !okF e c.toNat)) ∧ Kept w w' := by
  have h := Any.strings_ContainsFunc_grows cfL 20 #[.pointer (some ⟨q, 0, none⟩)] (enters_of Tryd.func20 (by kernel_rfl) rfl) (fun c => !okF e c) ⟨l.toArray⟩ w (ev_pred e q w hq)
  rw [idx_any0 _ l (fun c hc => ltr_lt (hl c hc))] at h
  exact h.mono fun E w' h => h
end Go.Proofs.YteaepgbakcifkaaDoor
