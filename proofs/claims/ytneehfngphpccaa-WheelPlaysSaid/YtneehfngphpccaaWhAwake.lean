/- The wheel's laws: what is held of a wheel of the law's own; dues; awake. -/
import Derived.Test.YtneehfngphpccaaWhTo2
import Derived.Test.YtneehfngphpccaaWhSort
set_option linter.unusedVariables false
set_option linter.unusedSimpArgs false
namespace Go.Proofs.Ytneehfngphpccaa
open Go.RowKit
/-- a wheel that was made behind X -/
structure WS (X w : World) (p q : Nat) (now : Int) (L : List Du) : Prop where
  wh : WhL w p q now L
  kept : Kept X w
  hp : X.heap.size ≤ p
  hq : X.heap.size ≤ q
theorem WS.go {X w w' : World} {p q : Nat} {now now' : Int} {L L' : List Du} (h : WS X w p q now L) (hW : WhL w' p q now' L') (O : Only [p, q] w w') : WS X w' p q now' L' :=
  ⟨hW, h.kept.onl O (by intro i hi; simp at hi; rcases hi with rfl | rfl; exact h.hp; exact h.hq), h.hp, h.hq⟩
theorem WS.keep {X w w' : World} {p q : Nat} {now : Int} {L : List Du} (h : WS X w p q now L) (k : Kept w w') : WS X w' p q now L := ⟨h.wh.keep k, h.kept.trans k, h.hp, h.hq⟩
theorem only_q {p q : Nat} {w w' : World} (h : Only [q] w w') : Only [p, q] w w' := h.mono (by intro k _ hk; simp at hk; simp [hk])
theorem ws_new (X : World) : Calls Try.prog 7 #[] X fun e w' => ∃ p q, e = .returned (.pointer (some ⟨p, 0, none⟩)) ∧ WS X w' p q 0 [] :=
  (wl_new X).mono fun e w' ⟨p, q, h1, h2, h3, h4, h5⟩ => ⟨p, q, h1, ⟨h2, h3, h4, h5⟩⟩
section
variable {X w : World} {p q : Nat} {now : Int} {L : List Du}
theorem ws_now (h : WS X w p q now L) : Calls Try.prog 20 #[.pointer (some ⟨p, 0, none⟩)] w fun e w' => e = .returned (.int .i64 now) ∧ w = w' := wl_now h.wh
theorem ws_len (h : WS X w p q now L) : Calls Try.prog 10 #[.pointer (some ⟨p, 0, none⟩)] w fun e w' => e = .returned (.int .i64 L.length) ∧ w = w' := wl_len h.wh
theorem ws_set (h : WS X w p q now L) (a b t : Int) (ht : t ≤ 1099511627776) (hn : now < t) : Calls Try.prog 8 #[.pointer (some ⟨p, 0, none⟩), .agg #[.int .i64 a, .int .i64 b], .int .i64 t] w fun e w' => e = .returned (.int .i64 0) ∧ WS X w' p q now (insD (a, b, t) (dropD a b L)) ∧ Only [p, q] w w' :=
  (wl_set h.wh a b t ht hn).mono fun e w' ⟨h1, h2, h3⟩ => ⟨h1, h.go h2 (only_q h3), only_q h3⟩
theorem ws_set_no (h : WS X w p q now L) (a b t : Int) (ht : 1099511627776 < t ∨ t ≤ now) : Calls Try.prog 8 #[.pointer (some ⟨p, 0, none⟩), .agg #[.int .i64 a, .int .i64 b], .int .i64 t] w fun e w' => e = .returned (.int .i64 1) ∧ WS X w' p q now L ∧ Only [p, q] w w' :=
  (wl_set_no h.wh a b t ht).mono fun e w' ⟨h1, h2⟩ => ⟨h1, h.keep h2, h2.only.mono (by simp)⟩
theorem ws_drop (h : WS X w p q now L) (a b : Int) : Calls Try.prog 11 #[.pointer (some ⟨p, 0, none⟩), .agg #[.int .i64 a, .int .i64 b]] w fun e w' => e = .returned (.bool (hasD a b L)) ∧ WS X w' p q now (dropD a b L) ∧ Only [p, q] w w' :=
  (wl_drop h.wh a b).mono fun e w' ⟨h1, h2, h3⟩ => ⟨h1, h.go h2 (only_q h3), only_q h3⟩
theorem ws_at (h : WS X w p q now L) (a b : Int) : Calls Try.prog 13 #[.pointer (some ⟨p, 0, none⟩), .agg #[.int .i64 a, .int .i64 b]] w fun e w' => e = .returned (.tuple #[.int .i64 (atD a b L), .bool (hasD a b L)]) ∧ WS X w' p q now L ∧ Only [p, q] w w' :=
  (wl_at h.wh a b).mono fun e w' ⟨h1, h2⟩ => ⟨h1, h.keep h2, h2.only.mono (by simp)⟩
theorem ws_next (h : WS X w p q now L) (hn : L.length ≤ 1000) : Calls Try.prog 12 #[.pointer (some ⟨p, 0, none⟩)] w fun e w' => e = .returned (.tuple #[.int .i64 (nextD L).1, .bool (nextD L).2]) ∧ WS X w' p q now L ∧ Only [p, q] w w' :=
  (wl_next sort_says h.wh hn).mono fun e w' ⟨h1, h2⟩ => ⟨h1, h.keep h2, h2.only.mono (by simp)⟩
theorem ws_to_no (h : WS X w p q now L) (t : Int) (ht : t < now ∨ 1099511627776 < t) : Calls Try.prog 9 #[.pointer (some ⟨p, 0, none⟩), .int .i64 t] w fun e w' => e = .returned (.tuple #[.slice none 0 0, .int .i64 1]) ∧ w = w' := wl_to_no sort_says h.wh t ht
theorem ws_to (h : WS X w p q now L) (hn : L.length ≤ 1000) (t : Int) (h1 : now ≤ t) (h2 : t ≤ 1099511627776) : Calls Try.prog 9 #[.pointer (some ⟨p, 0, none⟩), .int .i64 t] w fun e w' => ∃ (a : Option Addr) (c : Nat), e = .returned (.tuple #[.slice a (dueK t L) c, .int .i64 0]) ∧ SlD w' a (dueK t L) c (L.take (dueK t L)) ∧ WS X w' p q t (L.drop (dueK t L)) ∧ Only [p, q] w w' ∧ inB a [p, q] :=
  (wl_to sort_says h.wh hn t h1 h2).mono fun e w' ⟨a, c, e1, e2, e3, e4, e5⟩ => ⟨a, c, e1, e2, h.go e3 e4, e4, fun y hy hm => by
    have := e5 y hy
    have hl := h.wh.lt
    simp at hm
    omega⟩
end
set_option maxRecDepth 100000 in
set_option maxHeartbeats 4000000 in
theorem dues_law {w : World} {a b : Option Addr} {n m c d : Nat} {A B : List Du} (hA : SlD w a n c A) (hB : SlD w b m d B) (hn : n ≤ 1000) (hm : m ≤ 1000) :
    Calls Try.prog 14 #[.slice a n c, .slice b m d] w fun e w' => e = .returned (.bool (A == B)) ∧ Dr w w' := by
  have hla := hA.1
  have hlb := hB.1
  have hnc := hA.2.1
  have hmd := hB.2.1
  have HA := Lib.hid hA
  have HB := Lib.hid hB
  clear hA hB
  by_cases hnm : n = m
  · subst hnm
    have ht : ((n : Int) != n) = false := by simp
    go_enter Try.func14, Try.ntmps14
    go_wp2_with fail
    go_loopw [5] (fun i wr => ∃ j : Nat, i = .int .i64 (j : Nat) ∧ j ≤ n ∧ Hid (Dr w wr) ∧ Hid (A.take j = B.take j)) (fun i _ => n - (intOf i).toNat)
    case atStart => exact ⟨0, rfl, by omega, Dr.refl w, rfl⟩
    case round =>
      obtain ⟨j, rfl, hj, HD, HE⟩ := hrel
      by_cases hlt : j < n
      · have hlt' : (j : Int) < n := by omega
        obtain ⟨⟨xa, xb, xc⟩, hx⟩ : ∃ x, A[j]? = some x := ⟨_, List.getElem?_eq_getElem (by omega)⟩
        obtain ⟨⟨ya, yb, yc⟩, hy⟩ : ∃ x, B[j]? = some x := ⟨_, List.getElem?_eq_getElem (by omega)⟩
        have hSA : SlD wr a n c A := HA.out.kept ((Kept.refl w).dr HD.out)
        have hSB : SlD wr b n d B := HB.out.kept ((Kept.refl w).dr HD.out)
        obtain ⟨ba, oa, rfl, p0, p1, p2⟩ := hSA.at hx
        obtain ⟨bb, ob, rfl, r0, r1, r2⟩ := hSB.at hy
        dsimp only at p0 p1 p2 r0 r1 r2
        have hXY : Hid (A[j]? = some (xa, xb, xc) ∧ B[j]? = some (ya, yb, yc)) := ⟨hx, hy⟩
        clear hx hy hSA hSB
        by_cases hxy : (xa, xb, xc) = (ya, yb, yc)
        · have HE2 : Hid (A.take (j + 1) = B.take (j + 1)) := by
            unfold Hid
            rw [List.take_add_one, List.take_add_one, HE.out, hXY.out.1, hXY.out.2, hxy]
          injection hxy with e1 e2
          injection e2 with e2 e3
          subst e1 e2 e3
          have b1 : (xa != xa) = false := by simp
          have b2 : (xb != xb) = false := by simp
          have b3 : (xc != xc) = false := by simp
          go_wp2_with fail
          go_quiet (fail)
          go_wp2_with fail
          go_roundw
          case rel => exact ⟨j + 1, by go_num, by omega, HD.out.trans ((Dr.refl _).drewN _), HE2.out⟩
          case measure => simp [intOf]; omega
        · have HF : Hid ((A == B) = false) := by
            unfold Hid
            rw [beq_eq_false_iff_ne]
            rintro rfl
            have := hXY.out.1.symm.trans hXY.out.2
            injection this with this
            exact hxy this
          by_cases e1 : xa = ya
          · by_cases e2 : xb = yb
            · have e3 : xc ≠ yc := fun e => hxy (by rw [e1, e2, e])
              subst e1 e2
              have b1 : (xa != xa) = false := by simp
              have b2 : (xb != xb) = false := by simp
              have b3 : (xc != yc) = true := by simp [e3]
              clear e3 hxy
              go_wp2_with fail
              go_quiet (fail)
              go_wp2_with fail
              go_ret
              exact ⟨ret_bool HF.out.symm, HD.out.trans ((Dr.refl _).drewN _)⟩
            · subst e1
              have b1 : (xa != xa) = false := by simp
              have b2 : (xb != yb) = true := by simp [e2]
              clear e2 hxy
              go_wp2_with fail
              go_quiet (fail)
              go_wp2_with fail
              go_ret
              exact ⟨ret_bool HF.out.symm, HD.out.trans ((Dr.refl _).drewN _)⟩
          · have b1 : (xa != ya) = true := by simp [e1]
            clear e1 hxy
            go_wp2_with fail
            go_quiet (fail)
            go_wp2_with fail
            go_ret
            exact ⟨ret_bool HF.out.symm, HD.out.trans ((Dr.refl _).drewN _)⟩
      · have hge : (n : Int) ≤ j := by omega
        obtain rfl : j = n := by omega
        have HT : Hid ((A == B) = true) := by
          unfold Hid
          have := HE.out
          rw [List.take_of_length_le (by omega), List.take_of_length_le (by omega)] at this
          simp [this]
        go_wp2_with fail
        go_ret
        exact ⟨ret_bool HT.out.symm, HD.out⟩
  · have ht : ((n : Int) != m) = true := by simp; omega
    have HF : Hid ((A == B) = false) := by
      unfold Hid
      rw [beq_eq_false_iff_ne]
      rintro rfl
      omega
    go_enter Try.func14, Try.ntmps14
    go_wp2_with fail
    go_ret
    exact ⟨ret_bool HF.out.symm, Dr.refl w⟩
end Go.Proofs.Ytneehfngphpccaa
