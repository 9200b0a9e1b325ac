/- The bag: To. -/
import Derived.Test.YtnnjflljlooifaaBag4
set_option linter.unusedVariables false
set_option linter.unusedSimpArgs false
namespace Go.Proofs.Ytnnjflljlooifaa
open Go.RowKit
/-- the places of those to one -/
def toL (who : Int) : Nat → List (Int × Int) → List Int
  | _, [] => []
  | k, x :: r => if x.2 = who then (k : Int) :: toL who (k + 1) r else toL who (k + 1) r
theorem elemI : Elem Try.prog 42 3 (.int .i64 0) 1 8 :=
  ⟨Try.underlying42, info_parts (by kernel_rfl), rfl, by omega⟩
theorem app_slI {w : World} {e : TypeId} {a : Option Addr} {k c : Nat} {g : Option Nat} {zs : List Int} (h : App w e 1 (.slice a k c) k g (zs.map (Value.int .i64))) : Sl .i64 w a k c zs := by
  have hl : zs.length = k := by have := h.len; rw [List.length_map] at this; omega
  cases g with
  | none =>
    rcases h.1.2 with ⟨h1, h2⟩ | ⟨b, cap, cur, h1, _⟩
    · injection h1 with e1 e2 e3
      subst e2 e3
      have : zs = [] := List.eq_nil_of_length_eq_zero hl
      subst this
      exact ⟨rfl, Nat.le_refl _, by unfold maxLen; omega, fun i hi => by omega⟩
    · have := h.2; rw [h1] at this; cases this
  | some b =>
    obtain ⟨⟨_, h2⟩, h3⟩ := h
    rcases h2 with ⟨h1, _⟩ | ⟨b', cap, cur, hv, _, hh, hnc, hcm, hcs, htake⟩
    · rw [h1] at h3; cases h3
    · injection hv with e1 e2 e3
      subst e1 e3
      refine ⟨hl, hnc, hcm, fun i hi => ⟨b', 0, rfl, lt_heap hh, ?_⟩⟩
      rw [cell_of_row w b' _ cur _ _ hh, Nat.zero_add]
      have h4 : (zs.map (Value.int .i64))[i]? = some (.int .i64 (zs.getD i 0)) := by
        rw [List.getElem?_map, List.getD_eq_getElem?_getD, List.getElem?_eq_getElem (by omega)]
        rfl
      rw [← htake, List.getElem?_take, Nat.mul_one, if_pos hi] at h4
      rw [← Array.getElem?_toList]; exact h4
set_option maxRecDepth 100000 in
set_option maxHeartbeats 4000000 in
theorem bag_to {X : World} (p : Nat) (g : Option Nat) (A : List (Int × Int)) (who : Int) (w : World) (hB : BagW X w p g A) :
    Calls Try.prog 16 #[.pointer (some ⟨p, 0, none⟩), .int .i64 who] w fun e w' => ∃ a n c, e = .returned (.slice a n c) ∧ Sl .i64 w' a n c (toL who 0 A) ∧ Kept w w' := by
  have HB := Lib.hid hB
  have hfew := hB.few
  obtain ⟨⟨a, c, R, ⟨hBx, _, _⟩⟩, _⟩ := hB
  have c0 : World.cell? _ ⟨p, 0, none⟩ = some (.slice a A.length c) := at_cell hBx 0 _ rfl
  clear hBx
  go_enter Try.func16, Try.ntmps16
  go_wp2_with fail
  clear c0
  go_loopw [5, 14] (fun sl i wr => ∃ (j m : Nat) (P : List Int) (a' : Option Addr) (c' : Nat) (g' : Option Nat), sl = .slice a' m c' ∧ i = .int .i64 (j : Nat) ∧ j ≤ A.length ∧ m ≤ j ∧ Hid (App wr 3 1 (.slice a' m c') m g' (P.map (Value.int .i64))) ∧ Hid (toL who 0 A = P ++ toL who j (A.drop j)) ∧ Kept w wr ∧ Hid (∀ k, g' = some k → w.heap.size ≤ k)) (fun _ i _ => A.length - (intOf i).toNat)
  case atStart => exact ⟨0, 0, [], none, 0, none, rfl, rfl, by omega, by omega, app_nil _ _ _, rfl, Kept.refl _, by intro j hj; cases hj⟩
  case round =>
    obtain ⟨j, m, P, a', c', g', rfl, rfl, hj, hm, HA, HT, KW, HG⟩ := hrel
    by_cases hlt : j < A.length
    · have hlt' : (j : Int) < A.length := by omega
      obtain ⟨x, hx⟩ : ∃ x, A[j]? = some x := ⟨_, List.getElem?_eq_getElem (by omega)⟩
      obtain ⟨n, d⟩ := x
      have HS := Lib.hid (bag_see p g A j n d _ (HB.out.keep KW) hx)
      have hdr : A.drop j = (n, d) :: A.drop (j + 1) := by
        rw [List.getElem?_eq_getElem hlt] at hx
        injection hx with hx
        rw [List.drop_eq_getElem_cons hlt, hx]
      go_wp2_with fail
      refine HS.out.mono ?_
      rintro E V ⟨la, lc, ta, tc, rfl, -, J⟩
      have hq := heap_alloc_new V (.cells #[.int .i64 2, .int .i64 (1 - d), .int .i64 d, .int .i64 1, .int .i64 n, .int .i64 0, .slice la 0 lc, .slice ta 0 tc, .int .i64 0] 33)
      have q2 : World.cell? _ ⟨V.heap.size, 2, none⟩ = some (.int .i64 d) := at_cell hq 2 _ rfl
      have K2 := J.trans (kept_al V (.cells #[.int .i64 2, .int .i64 (1 - d), .int .i64 d, .int .i64 1, .int .i64 n, .int .i64 0, .slice la 0 lc, .slice ta 0 tc, .int .i64 0] 33))
      have HA2 := Lib.hid (K2.only.app HA.out (by simp))
      clear hq
      by_cases hdw : d = who
      · subst hdw
        have hT2 : toL d 0 A = (P ++ [(j : Int)]) ++ toL d (j + 1) (A.drop (j + 1)) := by
          rw [HT.out, hdr]
          simp [toL]
        have K3 := K2.trans (kept_al _ (.cells #[.int .i64 (j : Int)] 3))
        have HA3 := Lib.hid ((kept_al _ (.cells #[.int .i64 (j : Int)] 3)).only.app HA2.out (by simp))
        have HH := Lib.hid (two_new' V (.cells #[.int .i64 2, .int .i64 (1 - d), .int .i64 d, .int .i64 1, .int .i64 n, .int .i64 0, .slice la 0 lc, .slice ta 0 tc, .int .i64 0] 33) (.cells #[.int .i64 (j : Int)] 3))
        go_wp2_with (at_builtin; refine wpList_app rfl (.tmp 27) (.tmp 29) 42 42 rfl elemI _ m _ _ rfl HA3.out _ 1 _ rfl (src_block Try.underlying42 HH.out 1 1 rfl (by simp [Value.oneCell'])) (by omega) (by unfold maxLen; omega) ?_; intro a5 c5 g5 w5 hA5 hO5 hG5)
        have KW5 : Kept w w5 := (KW.trans K3).onl hO5 (by intro q hq; exact HG.out q (by simpa using hq))
        have hsz := (KW.trans K3).size
        go_roundw
        case rel =>
          refine ⟨j + 1, m + 1, P ++ [(j : Int)], a5, c5, g5, rfl, by go_num, by omega, by omega, ?_, hT2, KW5, ?_⟩
          · unfold Hid
            rw [List.map_append]
            exact hA5
          · rcases hG5 with rfl | rfl
            · exact HG.out
            · intro q hq
              injection hq with hq
              omega
        case measure => simp [intOf]; omega
      · have hdw' : (d == who) = false := by simp [hdw]
        have hT2 : toL who 0 A = P ++ toL who (j + 1) (A.drop (j + 1)) := by
          rw [HT.out, hdr]
          simp [toL, hdw]
        go_wp2_with fail
        go_roundw
        case rel => exact ⟨j + 1, m, P, a', c', g', rfl, by go_num, by omega, by omega, HA2.out, hT2, KW.trans K2, HG⟩
        case measure => simp [intOf]; omega
    · have hge : (A.length : Int) ≤ j := by omega
      obtain rfl : j = A.length := by omega
      have hS := app_slI HA.out
      have hT : toL who 0 A = P := by rw [HT.out, List.drop_length]; simp [toL]
      go_wp2
      go_ret
      exact ⟨a', m, c', rfl, by rw [hT]; exact hS, KW⟩
end Go.Proofs.Ytnnjflljlooifaa
