/- Events: Show. -/
import Derived.Test.YteaepgbakcifkaaDoorEv6
import Derived.Test.YteaepgbakcifkaaDoorEvM4
import Derived.Lib.AppendIntMem
import Derived.Lib.LaidTab
set_option linter.unusedVariables false
set_option linter.unusedSimpArgs false
namespace Go.Proofs.YteaepgbakcifkaaDoor
open Go.RowKit
theorem joinX : Builder.Extra Tryd.prog joinL_ren where
  sizeBuilder := by kernel_rfl
  liesBuilder := by kernel_rfl
  t5 := Tryd.underlying5
  a5 := Tryd.isAgg5
  z5 := Tryd.sizeOf5
  v5 := Tryd.zeroValue5
  infoByte := by kernel_rfl
  cellsByte := by kernel_rfl
  sizeByte := by kernel_rfl
  neB5 := by decide
theorem var_kept {n : String} {cs : Array Value} {w w' : World} (h : w.var? Tryd.prog n = some cs) (k : Kept w w') : w'.var? Tryd.prog n = some cs := by
  unfold World.var? at h ⊢
  cases hg : Tryd.prog.globalNamed n with
  | none => rw [hg] at h; cases h
  | some g =>
    rw [hg] at h
    have h2 : (match w.heap[g]? with | some (.cells cs _ _) => some cs | _ => none) = some cs := h
    show (match w'.heap[g]? with | some (.cells cs _ _) => some cs | _ => none) = some cs
    cases ho : w.heap[g]? with
    | none => rw [ho] at h2; cases h2
    | some o =>
      rw [k.only.heap ho (by simp), ← ho]
      exact h2
/-- what the listed table reads as -/
def EvV (w : World) : Prop := Lib.TabIs Tryd.prog w "internal/strconv.uint64pow10" .u64 Lib.pow10Tab
theorem EvV.kept {w w' : World} (h : EvV w) (k : Kept w w') : EvV w' := var_kept h k
theorem ev_itoa (n : Int) (h0 : -9223372036854775808 ≤ n) (h1 : n ≤ 9223372036854775807) {w : World} (hv : EvV w) : Calls Tryd.prog 25 #[.int .i64 n] w fun e w' => e = .returned (.string ⟨(Lib.itoa n).toArray⟩) ∧ Kept w w' := by
  refine (Any.strconv_Itoa itoaL n h0 h1 w hv).mono ?_
  rintro e w' ⟨rfl, k, os, rfl⟩
  exact ⟨rfl, Lib.below_grow _ w (Nat.le_refl _) k os⟩
theorem ev_fmt (n : Int) (h0 : -9223372036854775808 ≤ n) (h1 : n ≤ 9223372036854775807) {w : World} (hv : EvV w) : Calls Tryd.prog 26 #[.int .i64 n, .int .i64 10] w fun e w' => e = .returned (.string ⟨(Lib.itoa n).toArray⟩) ∧ Kept w w' := by
  refine (Any.strconv_FormatInt_10 fmtIL n h0 h1 w hv).mono ?_
  rintro e w' ⟨rfl, k, os, rfl⟩
  exact ⟨rfl, Lib.below_grow _ w (Nat.le_refl _) k os⟩
set_option maxHeartbeats 2000000 in
theorem ev_word (k : Int) (h1 : 1 ≤ k) (h9 : k ≤ 9) (w : World) : Calls Tryd.prog 24 #[.int .i64 k] w fun e w' => e = .returned (.string ⟨(wordK k).toArray⟩) ∧ Kept w w' := by
  have hk : k = 1 ∨ k = 2 ∨ k = 3 ∨ k = 4 ∨ k = 5 ∨ k = 6 ∨ k = 7 ∨ k = 8 ∨ k = 9 := by omega
  rcases hk with rfl | rfl | rfl | rfl | rfl | rfl | rfl | rfl | rfl
  · rw [show wordK 1 = [100, 101, 102, 105, 110, 101] by decide]
    go_enter Tryd.func24, Tryd.ntmps24
    go_wp2_with fail
    go_ret
    exact ⟨rfl, by (unfold Kept; repeat (first | exact Below.refl _ _ | assumption | (refine Below.alloc ?_ (by simp) _) | (refine Below.setCell ?_ (by simp) _) | (refine Below.drew ?_) | (refine _root_.Go.below_drewN ?_ _)))⟩
  · rw [show wordK 2 = [115, 116, 97, 114, 116] by decide]
    go_enter Tryd.func24, Tryd.ntmps24
    go_wp2_with fail
    go_ret
    exact ⟨rfl, by (unfold Kept; repeat (first | exact Below.refl _ _ | assumption | (refine Below.alloc ?_ (by simp) _) | (refine Below.setCell ?_ (by simp) _) | (refine Below.drew ?_) | (refine _root_.Go.below_drewN ?_ _)))⟩
  · rw [show wordK 3 = [108, 101, 97, 115, 101] by decide]
    go_enter Tryd.func24, Tryd.ntmps24
    go_wp2_with fail
    go_ret
    exact ⟨rfl, by (unfold Kept; repeat (first | exact Below.refl _ _ | assumption | (refine Below.alloc ?_ (by simp) _) | (refine Below.setCell ?_ (by simp) _) | (refine Below.drew ?_) | (refine _root_.Go.below_drewN ?_ _)))⟩
  · rw [show wordK 4 = [100, 111, 110, 101] by decide]
    go_enter Tryd.func24, Tryd.ntmps24
    go_wp2_with fail
    go_ret
    exact ⟨rfl, by (unfold Kept; repeat (first | exact Below.refl _ _ | assumption | (refine Below.alloc ?_ (by simp) _) | (refine Below.setCell ?_ (by simp) _) | (refine Below.drew ?_) | (refine _root_.Go.below_drewN ?_ _)))⟩
  · rw [show wordK 5 = [102, 97, 105, 108] by decide]
    go_enter Tryd.func24, Tryd.ntmps24
    go_wp2_with fail
    go_ret
    exact ⟨rfl, by (unfold Kept; repeat (first | exact Below.refl _ _ | assumption | (refine Below.alloc ?_ (by simp) _) | (refine Below.setCell ?_ (by simp) _) | (refine Below.drew ?_) | (refine _root_.Go.below_drewN ?_ _)))⟩
  · rw [show wordK 6 = [116, 105, 99, 107] by decide]
    go_enter Tryd.func24, Tryd.ntmps24
    go_wp2_with fail
    go_ret
    exact ⟨rfl, by (unfold Kept; repeat (first | exact Below.refl _ _ | assumption | (refine Below.alloc ?_ (by simp) _) | (refine Below.setCell ?_ (by simp) _) | (refine Below.drew ?_) | (refine _root_.Go.below_drewN ?_ _)))⟩
  · rw [show wordK 7 = [115, 105, 103, 110, 97, 108] by decide]
    go_enter Tryd.func24, Tryd.ntmps24
    go_wp2_with fail
    go_ret
    exact ⟨rfl, by (unfold Kept; repeat (first | exact Below.refl _ _ | assumption | (refine Below.alloc ?_ (by simp) _) | (refine Below.setCell ?_ (by simp) _) | (refine Below.drew ?_) | (refine _root_.Go.below_drewN ?_ _)))⟩
  · rw [show wordK 8 = [99, 97, 110, 99, 101, 108] by decide]
    go_enter Tryd.func24, Tryd.ntmps24
    go_wp2_with fail
    go_ret
    exact ⟨rfl, by (unfold Kept; repeat (first | exact Below.refl _ _ | assumption | (refine Below.alloc ?_ (by simp) _) | (refine Below.setCell ?_ (by simp) _) | (refine Below.drew ?_) | (refine _root_.Go.below_drewN ?_ _)))⟩
  · rw [show wordK 9 = [101, 112, 111, 99, 104] by decide]
    go_enter Tryd.func24, Tryd.ntmps24
    go_wp2_with fail
    go_ret
    exact ⟨rfl, by (unfold Kept; repeat (first | exact Below.refl _ _ | assumption | (refine Below.alloc ?_ (by simp) _) | (refine Below.setCell ?_ (by simp) _) | (refine Below.drew ?_) | (refine _root_.Go.below_drewN ?_ _)))⟩
theorem elemS : Elem Tryd.prog 52 9 (.string ⟨#[]⟩) 1 16 :=
  ⟨Tryd.underlying52, info_parts (by kernel_rfl), rfl, by omega⟩
def strsV (L : List ByteArray) : List Value := L.map Value.string
theorem ev_join (a : Option Addr) (n c : Nat) (g : Option Nat) (L : List ByteArray) (w : World) (hA : App w 9 1 (.slice a n c) n g (strsV L)) (hn : 0 < L.length) (h4 : L.length ≤ 100) (hs : ∀ x ∈ L, x.size ≤ 1024) : Calls Tryd.prog 27 #[.slice a n c, .string ⟨#[32]⟩] w fun e w' => e = .returned (.string (joinB L)) ∧ Kept w w' := by
  have hl := hA.len
  have hln : L.length = n := by simpa [strsV] using hl
  have hj := join_len L hs
  obtain ⟨h1, h2⟩ := hA
  rcases h1.2 with ⟨hv, h0⟩ | ⟨b, cap, cur, hv, _, hb, hnc, hcm, hcs, htk⟩
  · omega
  · injection hv with e1 e2 e3
    subst e1 e3
    subst hln
    refine (Any.strings_Join joinL joinX b 0 c L ⟨#[32]⟩ w ?_ (lt_heap hb) (by omega) hnc (by show (Lib.join _ [32]).length ≤ _; omega)).mono ?_
    · intro j x hx
      have hjl : j < L.length := by
        rcases Nat.lt_or_ge j L.length with h | h
        · exact h
        · rw [List.getElem?_eq_none h] at hx; cases hx
      rw [Nat.zero_add, cell_of_row w b j cur _ _ hb, ← Array.getElem?_toList]
      have e := congrArg (fun l : List Value => l[j]?) htk
      simp only [Nat.mul_one, List.getElem?_take, hjl, if_true] at e
      rw [e]
      simp [strsV, hx]
    · rintro e w' ⟨rfl, k⟩
      exact ⟨rfl, k⟩
end Go.Proofs.YteaepgbakcifkaaDoor
