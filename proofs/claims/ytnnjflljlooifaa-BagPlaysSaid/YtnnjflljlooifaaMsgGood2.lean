/- msg.Good as one contract. -/
import Derived.Test.YtnnjflljlooifaaMsgGood
import Derived.Test.YtnnjflljlooifaaTwo
import Derived.Deep.RegionHeld3
set_option linter.unusedVariables false
set_option linter.unusedSimpArgs false
namespace Go.Proofs.Ytnnjflljlooifaa
open Go.RowKit
def goodM (m : MV) (L : List (Int × Nat)) (T : List Int) : Bool :=
  decide ((m.f = 0 ∧ m.t = 1) ∨ (m.f = 1 ∧ m.t = 0)) && (decide (1 ≤ m.e ∧ m.e ≤ 1048575) && (decide (0 ≤ m.o ∧ m.o ≤ 17592186044415) && (decide (0 ≤ m.p ∧ m.p ≤ m.e) &&
    (if m.k = 1 then decide (m.tn = 0 ∧ m.te = 0) && (decide (0 < m.o ∨ m.p = 0) && (RowF m.e m.o m.p 0 L && decide (m.ln ≤ 8)))
    else if m.k = 2 then decide (m.tn = 0 ∧ m.te = 0) && (decide (m.p = 0) && decide (m.ln = 0))
    else if m.k = 3 then decide (m.o = 0) && (decide (m.p = 0) && (decide (m.ln = 0) && (decide (GoodT T m.te) && decide (m.tn ≤ 64))))
    else false))))
set_option maxRecDepth 100000 in
set_option maxHeartbeats 4000000 in
theorem msg_good (m : MV) (L : List (Int × Nat)) (T : List Int) (w : World) (hL : SlM w m.la m.ln m.lc L) (hT : Sl .u64 w m.ta m.tn m.tc T) (hW : IsW T) (hn : m.ln ≤ 100) :
    Calls Try.prog 17 #[.agg m.cs] w fun e w' => e = .returned (.bool (goodM m L T)) ∧ Kept w w' := by
  obtain ⟨k, f, t, e, o, p, la, ln, lc, ta, tn, tc, te⟩ := m
  have HNT := Lib.hid (fun W => msg_noTable ⟨k, f, t, e, o, p, la, ln, lc, ta, tn, tc, te⟩ W)
  unfold MV.cs at *
  dsimp only at *
  have K := kept_al w (.cells #[.int .i64 k, .int .i64 f, .int .i64 t, .int .i64 e, .int .i64 o, .int .i64 p, .slice la ln lc, .slice ta tn tc, .int .i64 te] 33)
  have hh := heap_alloc_new w (.cells #[.int .i64 k, .int .i64 f, .int .i64 t, .int .i64 e, .int .i64 o, .int .i64 p, .slice la ln lc, .slice ta tn tc, .int .i64 te] 33)
  have HRo := Lib.hid (fun W (kk : Kept w W) (o0 : 0 ≤ o) (o1 : o ≤ 17592186044415) (p0 : 0 ≤ p) (p1 : p ≤ e) (e1 : e ≤ 1048575) => msg_row ⟨k, f, t, e, o, p, la, ln, lc, ta, tn, tc, te⟩ L W (hL.kept kk) hn o0 o1 p0 p1 e1)
  unfold MV.cs at HRo
  dsimp only at HRo
  have HGd := Lib.hid (fun W (kk : Kept w W) => ep_good ta tn tc T te W (kk.sl hT) hW)
  have htm := hT.2.1
  have htm2 := hT.2.2.1
  have hlm := hL.2.1
  have hlm2 := hL.2.2.1
  unfold maxLen at htm2 hlm2
  have HC : Hid (∀ V, Kept (w.alloc (.cells #[.int .i64 k, .int .i64 f, .int .i64 t, .int .i64 e, .int .i64 o, .int .i64 p, .slice la ln lc, .slice ta tn tc, .int .i64 te] 33)) V → V.cell? ⟨w.heap.size, 0, none⟩ = some (.int .i64 k) ∧ V.cell? ⟨w.heap.size, 1, none⟩ = some (.int .i64 f) ∧ V.cell? ⟨w.heap.size, 2, none⟩ = some (.int .i64 t) ∧ V.cell? ⟨w.heap.size, 3, none⟩ = some (.int .i64 e) ∧ V.cell? ⟨w.heap.size, 4, none⟩ = some (.int .i64 o) ∧ V.cell? ⟨w.heap.size, 5, none⟩ = some (.int .i64 p) ∧ V.cell? ⟨w.heap.size, 6, none⟩ = some (.slice la ln lc) ∧ V.cell? ⟨w.heap.size, 7, none⟩ = some (.slice ta tn tc) ∧ V.cell? ⟨w.heap.size, 8, none⟩ = some (.int .i64 te)) := fun V kk => ⟨kk.cel (at_cell hh 0 _ rfl), kk.cel (at_cell hh 1 _ rfl), kk.cel (at_cell hh 2 _ rfl), kk.cel (at_cell hh 3 _ rfl), kk.cel (at_cell hh 4 _ rfl), kk.cel (at_cell hh 5 _ rfl), kk.cel (at_cell hh 6 _ rfl), kk.cel (at_cell hh 7 _ rfl), kk.cel (at_cell hh 8 _ rfl)⟩
  have I1 := Lib.hid (fun W => msg_in e 1 1048575 W)
  have I2 := Lib.hid (fun W => msg_in o 0 17592186044415 W)
  have I3 := Lib.hid (fun W => msg_in p 0 e W)
  clear hL hT hW hh
  generalize hX : w.alloc (.cells #[.int .i64 k, .int .i64 f, .int .i64 t, .int .i64 e, .int .i64 o, .int .i64 p, .slice la ln lc, .slice ta tn tc, .int .i64 te] 33) = X at *
  obtain ⟨q0, q1, q2, q3, q4, q5, q6, q7, q8⟩ := HC.out _ (Kept.refl X)
  have KX : Kept X X := Kept.refl X
  have hs : (f = 0 ∧ t = 1) ∨ (f = 1 ∧ t = 0) ∨ (f = 0 ∧ t ≠ 1) ∨ (f = 1 ∧ t ≠ 0) ∨ (f ≠ 0 ∧ f ≠ 1) := by omega
  rcases hs with ⟨rfl, rfl⟩ | ⟨rfl, rfl⟩ | ⟨rfl, h1⟩ | ⟨rfl, h1⟩ | ⟨h1, h2⟩
  · by_cases c1 : 1 ≤ e ∧ e ≤ 1048575
    · rw [decide_eq_true c1] at I1
      by_cases c2 : 0 ≤ o ∧ o ≤ 17592186044415
      · rw [decide_eq_true c2] at I2
        by_cases c3 : 0 ≤ p ∧ p ≤ e
        · rw [decide_eq_true c3] at I3
          by_cases k1 : k = 1
          · subst k1
            by_cases cT : tn = 0 ∧ te = 0
            · rw [decide_eq_true cT] at HNT
              have HRo2 := Lib.hid (fun W kk => HRo.out W kk c2.1 c2.2 c3.1 c3.2 c1.2)
              generalize hrb : (RowF e o p 0 L && decide (ln ≤ 8)) = rb at *
              by_cases cO : 0 < o
              · have d1 : decide (0 < o) = true := decide_eq_true cO
                have hres : Hid (goodM ⟨1, 0, 1, e, o, p, la, ln, lc, ta, tn, tc, te⟩ L T = rb) := by unfold Hid goodM; dsimp only; simp only [decide_eq_true c1, decide_eq_true c2, decide_eq_true c3]; simp [cT, cO, ← hrb]
                clear cT cO hrb
                go_enter Try.func17, Try.ntmps17
                go_wp2_with fail
                refine (I1.out _).mono ?_
                rintro E w' ⟨rfl, rfl⟩
                go_wp2_with fail
                refine (I2.out _).mono ?_
                rintro E w' ⟨rfl, rfl⟩
                go_wp2_with fail
                refine (I3.out _).mono ?_
                rintro E w' ⟨rfl, rfl⟩
                go_wp2_with (first
                  | (go_at_call 26; refine (HNT.out _).mono ?_; rintro E V ⟨rfl, J⟩; replace KX := KX.trans J; clear J; obtain ⟨r0, r1, r2, r3, r4, r5, r6, r7, r8⟩ := HC.out _ KX)
                  | (go_at_call 27; refine (HRo2.out _ (K.trans KX)).mono ?_; rintro E V ⟨rfl, J⟩; replace KX := KX.trans J; clear J)
                  | (go_at_call 28; refine (HGd.out _ (K.trans KX)).mono ?_; rintro E V ⟨rfl, J⟩; replace KX := KX.trans J; clear J; obtain ⟨r0, r1, r2, r3, r4, r5, r6, r7, r8⟩ := HC.out _ KX))
                go_ret
                exact ⟨ret_bool (by rw [hres.out]), K.trans KX⟩
              · have d1 : decide (0 < o) = false := decide_eq_false cO
                by_cases cP : p = 0
                · have d2 : (p == 0) = true := by simp [cP]
                  have hres : Hid (goodM ⟨1, 0, 1, e, o, p, la, ln, lc, ta, tn, tc, te⟩ L T = rb) := by unfold Hid goodM; dsimp only; simp only [decide_eq_true c1, decide_eq_true c2, decide_eq_true c3]; simp [cT, cP, ← hrb]
                  clear cT cP hrb
                  go_enter Try.func17, Try.ntmps17
                  go_wp2_with fail
                  refine (I1.out _).mono ?_
                  rintro E w' ⟨rfl, rfl⟩
                  go_wp2_with fail
                  refine (I2.out _).mono ?_
                  rintro E w' ⟨rfl, rfl⟩
                  go_wp2_with fail
                  refine (I3.out _).mono ?_
                  rintro E w' ⟨rfl, rfl⟩
                  go_wp2_with (first
                    | (go_at_call 26; refine (HNT.out _).mono ?_; rintro E V ⟨rfl, J⟩; replace KX := KX.trans J; clear J; obtain ⟨r0, r1, r2, r3, r4, r5, r6, r7, r8⟩ := HC.out _ KX)
                    | (go_at_call 27; refine (HRo2.out _ (K.trans KX)).mono ?_; rintro E V ⟨rfl, J⟩; replace KX := KX.trans J; clear J)
                    | (go_at_call 28; refine (HGd.out _ (K.trans KX)).mono ?_; rintro E V ⟨rfl, J⟩; replace KX := KX.trans J; clear J; obtain ⟨r0, r1, r2, r3, r4, r5, r6, r7, r8⟩ := HC.out _ KX))
                  go_ret
                  exact ⟨ret_bool (by rw [hres.out]), K.trans KX⟩
                · have d2 : (p == 0) = false := by simp [cP]
                  have hres : Hid (goodM ⟨1, 0, 1, e, o, p, la, ln, lc, ta, tn, tc, te⟩ L T = false) := by unfold Hid goodM; dsimp only; simp only [decide_eq_true c1, decide_eq_true c2, decide_eq_true c3]; simp [cT, cP, cO]
                  clear cT cP cO
                  go_enter Try.func17, Try.ntmps17
                  go_wp2_with fail
                  refine (I1.out _).mono ?_
                  rintro E w' ⟨rfl, rfl⟩
                  go_wp2_with fail
                  refine (I2.out _).mono ?_
                  rintro E w' ⟨rfl, rfl⟩
                  go_wp2_with fail
                  refine (I3.out _).mono ?_
                  rintro E w' ⟨rfl, rfl⟩
                  go_wp2_with (first
                    | (go_at_call 26; refine (HNT.out _).mono ?_; rintro E V ⟨rfl, J⟩; replace KX := KX.trans J; clear J; obtain ⟨r0, r1, r2, r3, r4, r5, r6, r7, r8⟩ := HC.out _ KX)
                    | (go_at_call 27; refine (HRo2.out _ (K.trans KX)).mono ?_; rintro E V ⟨rfl, J⟩; replace KX := KX.trans J; clear J)
                    | (go_at_call 28; refine (HGd.out _ (K.trans KX)).mono ?_; rintro E V ⟨rfl, J⟩; replace KX := KX.trans J; clear J; obtain ⟨r0, r1, r2, r3, r4, r5, r6, r7, r8⟩ := HC.out _ KX))
                  go_ret
                  exact ⟨ret_bool (by rw [hres.out]), K.trans KX⟩
            · rw [decide_eq_false cT] at HNT
              have hres : Hid (goodM ⟨1, 0, 1, e, o, p, la, ln, lc, ta, tn, tc, te⟩ L T = false) := by unfold Hid goodM; dsimp only; simp only [decide_eq_true c1, decide_eq_true c2, decide_eq_true c3]; simp [cT]
              clear cT
              go_enter Try.func17, Try.ntmps17
              go_wp2_with fail
              refine (I1.out _).mono ?_
              rintro E w' ⟨rfl, rfl⟩
              go_wp2_with fail
              refine (I2.out _).mono ?_
              rintro E w' ⟨rfl, rfl⟩
              go_wp2_with fail
              refine (I3.out _).mono ?_
              rintro E w' ⟨rfl, rfl⟩
              go_wp2_with (first
                | (go_at_call 26; refine (HNT.out _).mono ?_; rintro E V ⟨rfl, J⟩; replace KX := KX.trans J; clear J; obtain ⟨r0, r1, r2, r3, r4, r5, r6, r7, r8⟩ := HC.out _ KX)
                | (go_at_call 27; refine (HRo2.out _ (K.trans KX)).mono ?_; rintro E V ⟨rfl, J⟩; replace KX := KX.trans J; clear J)
                | (go_at_call 28; refine (HGd.out _ (K.trans KX)).mono ?_; rintro E V ⟨rfl, J⟩; replace KX := KX.trans J; clear J; obtain ⟨r0, r1, r2, r3, r4, r5, r6, r7, r8⟩ := HC.out _ KX))
              go_ret
              exact ⟨ret_bool (by rw [hres.out]), K.trans KX⟩
          · by_cases k2 : k = 2
            · subst k2
              by_cases cT : tn = 0 ∧ te = 0
              · rw [decide_eq_true cT] at HNT
                by_cases cP : p = 0
                · have d2 : (p == 0) = true := by simp [cP]
                  by_cases cL : ln = 0
                  · have d3 : ((ln : Int) == 0) = true := by simp [cL]
                    have hres : Hid (goodM ⟨2, 0, 1, e, o, p, la, ln, lc, ta, tn, tc, te⟩ L T = true) := by unfold Hid goodM; dsimp only; simp only [decide_eq_true c1, decide_eq_true c2, decide_eq_true c3]; simp [cT, cP, cL]
                    clear cT cP cL
                    go_enter Try.func17, Try.ntmps17
                    go_wp2_with fail
                    refine (I1.out _).mono ?_
                    rintro E w' ⟨rfl, rfl⟩
                    go_wp2_with fail
                    refine (I2.out _).mono ?_
                    rintro E w' ⟨rfl, rfl⟩
                    go_wp2_with fail
                    refine (I3.out _).mono ?_
                    rintro E w' ⟨rfl, rfl⟩
                    go_wp2_with (first
                      | (go_at_call 26; refine (HNT.out _).mono ?_; rintro E V ⟨rfl, J⟩; replace KX := KX.trans J; clear J; obtain ⟨r0, r1, r2, r3, r4, r5, r6, r7, r8⟩ := HC.out _ KX)
                      | (go_at_call 27; refine (HRo2.out _ (K.trans KX)).mono ?_; rintro E V ⟨rfl, J⟩; replace KX := KX.trans J; clear J)
                      | (go_at_call 28; refine (HGd.out _ (K.trans KX)).mono ?_; rintro E V ⟨rfl, J⟩; replace KX := KX.trans J; clear J; obtain ⟨r0, r1, r2, r3, r4, r5, r6, r7, r8⟩ := HC.out _ KX))
                    go_ret
                    exact ⟨ret_bool (by rw [hres.out]), K.trans KX⟩
                  · have d3 : ((ln : Int) == 0) = false := by simp [cL]
                    have hres : Hid (goodM ⟨2, 0, 1, e, o, p, la, ln, lc, ta, tn, tc, te⟩ L T = false) := by unfold Hid goodM; dsimp only; simp only [decide_eq_true c1, decide_eq_true c2, decide_eq_true c3]; simp [cT, cP, cL]
                    clear cT cP cL
                    go_enter Try.func17, Try.ntmps17
                    go_wp2_with fail
                    refine (I1.out _).mono ?_
                    rintro E w' ⟨rfl, rfl⟩
                    go_wp2_with fail
                    refine (I2.out _).mono ?_
                    rintro E w' ⟨rfl, rfl⟩
                    go_wp2_with fail
                    refine (I3.out _).mono ?_
                    rintro E w' ⟨rfl, rfl⟩
                    go_wp2_with (first
                      | (go_at_call 26; refine (HNT.out _).mono ?_; rintro E V ⟨rfl, J⟩; replace KX := KX.trans J; clear J; obtain ⟨r0, r1, r2, r3, r4, r5, r6, r7, r8⟩ := HC.out _ KX)
                      | (go_at_call 27; refine (HRo2.out _ (K.trans KX)).mono ?_; rintro E V ⟨rfl, J⟩; replace KX := KX.trans J; clear J)
                      | (go_at_call 28; refine (HGd.out _ (K.trans KX)).mono ?_; rintro E V ⟨rfl, J⟩; replace KX := KX.trans J; clear J; obtain ⟨r0, r1, r2, r3, r4, r5, r6, r7, r8⟩ := HC.out _ KX))
                    go_ret
                    exact ⟨ret_bool (by rw [hres.out]), K.trans KX⟩
                · have d2 : (p == 0) = false := by simp [cP]
                  have hres : Hid (goodM ⟨2, 0, 1, e, o, p, la, ln, lc, ta, tn, tc, te⟩ L T = false) := by unfold Hid goodM; dsimp only; simp only [decide_eq_true c1, decide_eq_true c2, decide_eq_true c3]; simp [cT, cP]
                  clear cT cP
                  go_enter Try.func17, Try.ntmps17
                  go_wp2_with fail
                  refine (I1.out _).mono ?_
                  rintro E w' ⟨rfl, rfl⟩
                  go_wp2_with fail
                  refine (I2.out _).mono ?_
                  rintro E w' ⟨rfl, rfl⟩
                  go_wp2_with fail
                  refine (I3.out _).mono ?_
                  rintro E w' ⟨rfl, rfl⟩
                  go_wp2_with (first
                    | (go_at_call 26; refine (HNT.out _).mono ?_; rintro E V ⟨rfl, J⟩; replace KX := KX.trans J; clear J; obtain ⟨r0, r1, r2, r3, r4, r5, r6, r7, r8⟩ := HC.out _ KX)
                    | (go_at_call 27; refine (HRo2.out _ (K.trans KX)).mono ?_; rintro E V ⟨rfl, J⟩; replace KX := KX.trans J; clear J)
                    | (go_at_call 28; refine (HGd.out _ (K.trans KX)).mono ?_; rintro E V ⟨rfl, J⟩; replace KX := KX.trans J; clear J; obtain ⟨r0, r1, r2, r3, r4, r5, r6, r7, r8⟩ := HC.out _ KX))
                  go_ret
                  exact ⟨ret_bool (by rw [hres.out]), K.trans KX⟩
              · rw [decide_eq_false cT] at HNT
                have hres : Hid (goodM ⟨2, 0, 1, e, o, p, la, ln, lc, ta, tn, tc, te⟩ L T = false) := by unfold Hid goodM; dsimp only; simp only [decide_eq_true c1, decide_eq_true c2, decide_eq_true c3]; simp [cT]
                clear cT
                go_enter Try.func17, Try.ntmps17
                go_wp2_with fail
                refine (I1.out _).mono ?_
                rintro E w' ⟨rfl, rfl⟩
                go_wp2_with fail
                refine (I2.out _).mono ?_
                rintro E w' ⟨rfl, rfl⟩
                go_wp2_with fail
                refine (I3.out _).mono ?_
                rintro E w' ⟨rfl, rfl⟩
                go_wp2_with (first
                  | (go_at_call 26; refine (HNT.out _).mono ?_; rintro E V ⟨rfl, J⟩; replace KX := KX.trans J; clear J; obtain ⟨r0, r1, r2, r3, r4, r5, r6, r7, r8⟩ := HC.out _ KX)
                  | (go_at_call 27; refine (HRo2.out _ (K.trans KX)).mono ?_; rintro E V ⟨rfl, J⟩; replace KX := KX.trans J; clear J)
                  | (go_at_call 28; refine (HGd.out _ (K.trans KX)).mono ?_; rintro E V ⟨rfl, J⟩; replace KX := KX.trans J; clear J; obtain ⟨r0, r1, r2, r3, r4, r5, r6, r7, r8⟩ := HC.out _ KX))
                go_ret
                exact ⟨ret_bool (by rw [hres.out]), K.trans KX⟩
            · by_cases k3 : k = 3
              · subst k3
                by_cases cO : o = 0
                · have d1 : (o == 0) = true := by simp [cO]
                  by_cases cP : p = 0
                  · have d2 : (p == 0) = true := by simp [cP]
                    by_cases cL : ln = 0
                    · have d3 : ((ln : Int) == 0) = true := by simp [cL]
                      by_cases cG : GoodT T te
                      · rw [decide_eq_true cG] at HGd
                        by_cases cN : tn ≤ 64
                        · have d4 : decide ((tn : Int) ≤ 64) = true := decide_eq_true (by omega)
                          have hres : Hid (goodM ⟨3, 0, 1, e, o, p, la, ln, lc, ta, tn, tc, te⟩ L T = true) := by unfold Hid goodM; dsimp only; simp only [decide_eq_true c1, decide_eq_true c2, decide_eq_true c3]; simp [cO, cP, cL, cG, cN]
                          clear cO cP cL cG cN
                          go_enter Try.func17, Try.ntmps17
                          go_wp2_with fail
                          refine (I1.out _).mono ?_
                          rintro E w' ⟨rfl, rfl⟩
                          go_wp2_with fail
                          refine (I2.out _).mono ?_
                          rintro E w' ⟨rfl, rfl⟩
                          go_wp2_with fail
                          refine (I3.out _).mono ?_
                          rintro E w' ⟨rfl, rfl⟩
                          go_wp2_with (first
                            | (go_at_call 26; refine (HNT.out _).mono ?_; rintro E V ⟨rfl, J⟩; replace KX := KX.trans J; clear J; obtain ⟨r0, r1, r2, r3, r4, r5, r6, r7, r8⟩ := HC.out _ KX)
                            | (go_at_call 27; refine (HRo2.out _ (K.trans KX)).mono ?_; rintro E V ⟨rfl, J⟩; replace KX := KX.trans J; clear J)
                            | (go_at_call 28; refine (HGd.out _ (K.trans KX)).mono ?_; rintro E V ⟨rfl, J⟩; replace KX := KX.trans J; clear J; obtain ⟨r0, r1, r2, r3, r4, r5, r6, r7, r8⟩ := HC.out _ KX))
                          go_ret
                          exact ⟨ret_bool (by rw [hres.out]), K.trans KX⟩
                        · have d4 : decide ((tn : Int) ≤ 64) = false := decide_eq_false (by omega)
                          have hres : Hid (goodM ⟨3, 0, 1, e, o, p, la, ln, lc, ta, tn, tc, te⟩ L T = false) := by unfold Hid goodM; dsimp only; simp only [decide_eq_true c1, decide_eq_true c2, decide_eq_true c3]; simp [cO, cP, cL, cG, cN]
                          clear cO cP cL cG cN
                          go_enter Try.func17, Try.ntmps17
                          go_wp2_with fail
                          refine (I1.out _).mono ?_
                          rintro E w' ⟨rfl, rfl⟩
                          go_wp2_with fail
                          refine (I2.out _).mono ?_
                          rintro E w' ⟨rfl, rfl⟩
                          go_wp2_with fail
                          refine (I3.out _).mono ?_
                          rintro E w' ⟨rfl, rfl⟩
                          go_wp2_with (first
                            | (go_at_call 26; refine (HNT.out _).mono ?_; rintro E V ⟨rfl, J⟩; replace KX := KX.trans J; clear J; obtain ⟨r0, r1, r2, r3, r4, r5, r6, r7, r8⟩ := HC.out _ KX)
                            | (go_at_call 27; refine (HRo2.out _ (K.trans KX)).mono ?_; rintro E V ⟨rfl, J⟩; replace KX := KX.trans J; clear J)
                            | (go_at_call 28; refine (HGd.out _ (K.trans KX)).mono ?_; rintro E V ⟨rfl, J⟩; replace KX := KX.trans J; clear J; obtain ⟨r0, r1, r2, r3, r4, r5, r6, r7, r8⟩ := HC.out _ KX))
                          go_ret
                          exact ⟨ret_bool (by rw [hres.out]), K.trans KX⟩
                      · rw [decide_eq_false cG] at HGd
                        have hres : Hid (goodM ⟨3, 0, 1, e, o, p, la, ln, lc, ta, tn, tc, te⟩ L T = false) := by unfold Hid goodM; dsimp only; simp only [decide_eq_true c1, decide_eq_true c2, decide_eq_true c3]; simp [cO, cP, cL, cG]
                        clear cO cP cL cG
                        go_enter Try.func17, Try.ntmps17
                        go_wp2_with fail
                        refine (I1.out _).mono ?_
                        rintro E w' ⟨rfl, rfl⟩
                        go_wp2_with fail
                        refine (I2.out _).mono ?_
                        rintro E w' ⟨rfl, rfl⟩
                        go_wp2_with fail
                        refine (I3.out _).mono ?_
                        rintro E w' ⟨rfl, rfl⟩
                        go_wp2_with (first
                          | (go_at_call 26; refine (HNT.out _).mono ?_; rintro E V ⟨rfl, J⟩; replace KX := KX.trans J; clear J; obtain ⟨r0, r1, r2, r3, r4, r5, r6, r7, r8⟩ := HC.out _ KX)
                          | (go_at_call 27; refine (HRo2.out _ (K.trans KX)).mono ?_; rintro E V ⟨rfl, J⟩; replace KX := KX.trans J; clear J)
                          | (go_at_call 28; refine (HGd.out _ (K.trans KX)).mono ?_; rintro E V ⟨rfl, J⟩; replace KX := KX.trans J; clear J; obtain ⟨r0, r1, r2, r3, r4, r5, r6, r7, r8⟩ := HC.out _ KX))
                        go_ret
                        exact ⟨ret_bool (by rw [hres.out]), K.trans KX⟩
                    · have d3 : ((ln : Int) == 0) = false := by simp [cL]
                      have hres : Hid (goodM ⟨3, 0, 1, e, o, p, la, ln, lc, ta, tn, tc, te⟩ L T = false) := by unfold Hid goodM; dsimp only; simp only [decide_eq_true c1, decide_eq_true c2, decide_eq_true c3]; simp [cO, cP, cL]
                      clear cO cP cL
                      go_enter Try.func17, Try.ntmps17
                      go_wp2_with fail
                      refine (I1.out _).mono ?_
                      rintro E w' ⟨rfl, rfl⟩
                      go_wp2_with fail
                      refine (I2.out _).mono ?_
                      rintro E w' ⟨rfl, rfl⟩
                      go_wp2_with fail
                      refine (I3.out _).mono ?_
                      rintro E w' ⟨rfl, rfl⟩
                      go_wp2_with (first
                        | (go_at_call 26; refine (HNT.out _).mono ?_; rintro E V ⟨rfl, J⟩; replace KX := KX.trans J; clear J; obtain ⟨r0, r1, r2, r3, r4, r5, r6, r7, r8⟩ := HC.out _ KX)
                        | (go_at_call 27; refine (HRo2.out _ (K.trans KX)).mono ?_; rintro E V ⟨rfl, J⟩; replace KX := KX.trans J; clear J)
                        | (go_at_call 28; refine (HGd.out _ (K.trans KX)).mono ?_; rintro E V ⟨rfl, J⟩; replace KX := KX.trans J; clear J; obtain ⟨r0, r1, r2, r3, r4, r5, r6, r7, r8⟩ := HC.out _ KX))
                      go_ret
                      exact ⟨ret_bool (by rw [hres.out]), K.trans KX⟩
                  · have d2 : (p == 0) = false := by simp [cP]
                    have hres : Hid (goodM ⟨3, 0, 1, e, o, p, la, ln, lc, ta, tn, tc, te⟩ L T = false) := by unfold Hid goodM; dsimp only; simp only [decide_eq_true c1, decide_eq_true c2, decide_eq_true c3]; simp [cO, cP]
                    clear cO cP
                    go_enter Try.func17, Try.ntmps17
                    go_wp2_with fail
                    refine (I1.out _).mono ?_
                    rintro E w' ⟨rfl, rfl⟩
                    go_wp2_with fail
                    refine (I2.out _).mono ?_
                    rintro E w' ⟨rfl, rfl⟩
                    go_wp2_with fail
                    refine (I3.out _).mono ?_
                    rintro E w' ⟨rfl, rfl⟩
                    go_wp2_with (first
                      | (go_at_call 26; refine (HNT.out _).mono ?_; rintro E V ⟨rfl, J⟩; replace KX := KX.trans J; clear J; obtain ⟨r0, r1, r2, r3, r4, r5, r6, r7, r8⟩ := HC.out _ KX)
                      | (go_at_call 27; refine (HRo2.out _ (K.trans KX)).mono ?_; rintro E V ⟨rfl, J⟩; replace KX := KX.trans J; clear J)
                      | (go_at_call 28; refine (HGd.out _ (K.trans KX)).mono ?_; rintro E V ⟨rfl, J⟩; replace KX := KX.trans J; clear J; obtain ⟨r0, r1, r2, r3, r4, r5, r6, r7, r8⟩ := HC.out _ KX))
                    go_ret
                    exact ⟨ret_bool (by rw [hres.out]), K.trans KX⟩
                · have d1 : (o == 0) = false := by simp [cO]
                  have hres : Hid (goodM ⟨3, 0, 1, e, o, p, la, ln, lc, ta, tn, tc, te⟩ L T = false) := by unfold Hid goodM; dsimp only; simp only [decide_eq_true c1, decide_eq_true c2, decide_eq_true c3]; simp [cO]
                  clear cO
                  go_enter Try.func17, Try.ntmps17
                  go_wp2_with fail
                  refine (I1.out _).mono ?_
                  rintro E w' ⟨rfl, rfl⟩
                  go_wp2_with fail
                  refine (I2.out _).mono ?_
                  rintro E w' ⟨rfl, rfl⟩
                  go_wp2_with fail
                  refine (I3.out _).mono ?_
                  rintro E w' ⟨rfl, rfl⟩
                  go_wp2_with (first
                    | (go_at_call 26; refine (HNT.out _).mono ?_; rintro E V ⟨rfl, J⟩; replace KX := KX.trans J; clear J; obtain ⟨r0, r1, r2, r3, r4, r5, r6, r7, r8⟩ := HC.out _ KX)
                    | (go_at_call 27; refine (HRo2.out _ (K.trans KX)).mono ?_; rintro E V ⟨rfl, J⟩; replace KX := KX.trans J; clear J)
                    | (go_at_call 28; refine (HGd.out _ (K.trans KX)).mono ?_; rintro E V ⟨rfl, J⟩; replace KX := KX.trans J; clear J; obtain ⟨r0, r1, r2, r3, r4, r5, r6, r7, r8⟩ := HC.out _ KX))
                  go_ret
                  exact ⟨ret_bool (by rw [hres.out]), K.trans KX⟩
              · have d1 : (k == 1) = false := by simp [k1]
                have d2 : (k == 2) = false := by simp [k2]
                have d3 : (k == 3) = false := by simp [k3]
                have hres : Hid (goodM ⟨k, 0, 1, e, o, p, la, ln, lc, ta, tn, tc, te⟩ L T = false) := by unfold Hid goodM; dsimp only; simp only [decide_eq_true c1, decide_eq_true c2, decide_eq_true c3]; simp [k1, k2, k3]
                clear k1 k2 k3
                go_enter Try.func17, Try.ntmps17
                go_wp2_with fail
                refine (I1.out _).mono ?_
                rintro E w' ⟨rfl, rfl⟩
                go_wp2_with fail
                refine (I2.out _).mono ?_
                rintro E w' ⟨rfl, rfl⟩
                go_wp2_with fail
                refine (I3.out _).mono ?_
                rintro E w' ⟨rfl, rfl⟩
                go_wp2_with (first
                  | (go_at_call 26; refine (HNT.out _).mono ?_; rintro E V ⟨rfl, J⟩; replace KX := KX.trans J; clear J; obtain ⟨r0, r1, r2, r3, r4, r5, r6, r7, r8⟩ := HC.out _ KX)
                  | (go_at_call 27; refine (HRo2.out _ (K.trans KX)).mono ?_; rintro E V ⟨rfl, J⟩; replace KX := KX.trans J; clear J)
                  | (go_at_call 28; refine (HGd.out _ (K.trans KX)).mono ?_; rintro E V ⟨rfl, J⟩; replace KX := KX.trans J; clear J; obtain ⟨r0, r1, r2, r3, r4, r5, r6, r7, r8⟩ := HC.out _ KX))
                go_ret
                exact ⟨ret_bool (by rw [hres.out]), K.trans KX⟩
        · rw [decide_eq_false c3] at I3
          have hres : Hid (goodM ⟨k, 0, 1, e, o, p, la, ln, lc, ta, tn, tc, te⟩ L T = false) := by unfold Hid goodM; dsimp only; simp only [decide_eq_true c1, decide_eq_true c2, decide_eq_false c3]; simp
          go_enter Try.func17, Try.ntmps17
          go_wp2_with fail
          refine (I1.out _).mono ?_
          rintro E w' ⟨rfl, rfl⟩
          go_wp2_with fail
          refine (I2.out _).mono ?_
          rintro E w' ⟨rfl, rfl⟩
          go_wp2_with fail
          refine (I3.out _).mono ?_
          rintro E w' ⟨rfl, rfl⟩
          go_wp2_with (first
            | (go_at_call 26; refine (HNT.out _).mono ?_; rintro E V ⟨rfl, J⟩; replace KX := KX.trans J; clear J; obtain ⟨r0, r1, r2, r3, r4, r5, r6, r7, r8⟩ := HC.out _ KX)
            | (go_at_call 27; refine (HRo2.out _ (K.trans KX)).mono ?_; rintro E V ⟨rfl, J⟩; replace KX := KX.trans J; clear J)
            | (go_at_call 28; refine (HGd.out _ (K.trans KX)).mono ?_; rintro E V ⟨rfl, J⟩; replace KX := KX.trans J; clear J; obtain ⟨r0, r1, r2, r3, r4, r5, r6, r7, r8⟩ := HC.out _ KX))
          go_ret
          exact ⟨ret_bool (by rw [hres.out]), K.trans KX⟩
      · rw [decide_eq_false c2] at I2
        have hres : Hid (goodM ⟨k, 0, 1, e, o, p, la, ln, lc, ta, tn, tc, te⟩ L T = false) := by unfold Hid goodM; dsimp only; simp only [decide_eq_true c1, decide_eq_false c2]; simp
        go_enter Try.func17, Try.ntmps17
        go_wp2_with fail
        refine (I1.out _).mono ?_
        rintro E w' ⟨rfl, rfl⟩
        go_wp2_with fail
        refine (I2.out _).mono ?_
        rintro E w' ⟨rfl, rfl⟩
        go_wp2
        go_ret
        exact ⟨ret_bool (by rw [hres.out]), K.trans KX⟩
    · rw [decide_eq_false c1] at I1
      have hres : Hid (goodM ⟨k, 0, 1, e, o, p, la, ln, lc, ta, tn, tc, te⟩ L T = false) := by unfold Hid goodM; dsimp only; simp only [decide_eq_false c1]; simp
      go_enter Try.func17, Try.ntmps17
      go_wp2_with fail
      refine (I1.out _).mono ?_
      rintro E w' ⟨rfl, rfl⟩
      go_wp2
      go_ret
      exact ⟨ret_bool (by rw [hres.out]), K.trans KX⟩
  · by_cases c1 : 1 ≤ e ∧ e ≤ 1048575
    · rw [decide_eq_true c1] at I1
      by_cases c2 : 0 ≤ o ∧ o ≤ 17592186044415
      · rw [decide_eq_true c2] at I2
        by_cases c3 : 0 ≤ p ∧ p ≤ e
        · rw [decide_eq_true c3] at I3
          by_cases k1 : k = 1
          · subst k1
            by_cases cT : tn = 0 ∧ te = 0
            · rw [decide_eq_true cT] at HNT
              have HRo2 := Lib.hid (fun W kk => HRo.out W kk c2.1 c2.2 c3.1 c3.2 c1.2)
              generalize hrb : (RowF e o p 0 L && decide (ln ≤ 8)) = rb at *
              by_cases cO : 0 < o
              · have d1 : decide (0 < o) = true := decide_eq_true cO
                have hres : Hid (goodM ⟨1, 1, 0, e, o, p, la, ln, lc, ta, tn, tc, te⟩ L T = rb) := by unfold Hid goodM; dsimp only; simp only [decide_eq_true c1, decide_eq_true c2, decide_eq_true c3]; simp [cT, cO, ← hrb]
                clear cT cO hrb
                go_enter Try.func17, Try.ntmps17
                go_wp2_with fail
                refine (I1.out _).mono ?_
                rintro E w' ⟨rfl, rfl⟩
                go_wp2_with fail
                refine (I2.out _).mono ?_
                rintro E w' ⟨rfl, rfl⟩
                go_wp2_with fail
                refine (I3.out _).mono ?_
                rintro E w' ⟨rfl, rfl⟩
                go_wp2_with (first
                  | (go_at_call 26; refine (HNT.out _).mono ?_; rintro E V ⟨rfl, J⟩; replace KX := KX.trans J; clear J; obtain ⟨r0, r1, r2, r3, r4, r5, r6, r7, r8⟩ := HC.out _ KX)
                  | (go_at_call 27; refine (HRo2.out _ (K.trans KX)).mono ?_; rintro E V ⟨rfl, J⟩; replace KX := KX.trans J; clear J)
                  | (go_at_call 28; refine (HGd.out _ (K.trans KX)).mono ?_; rintro E V ⟨rfl, J⟩; replace KX := KX.trans J; clear J; obtain ⟨r0, r1, r2, r3, r4, r5, r6, r7, r8⟩ := HC.out _ KX))
                go_ret
                exact ⟨ret_bool (by rw [hres.out]), K.trans KX⟩
              · have d1 : decide (0 < o) = false := decide_eq_false cO
                by_cases cP : p = 0
                · have d2 : (p == 0) = true := by simp [cP]
                  have hres : Hid (goodM ⟨1, 1, 0, e, o, p, la, ln, lc, ta, tn, tc, te⟩ L T = rb) := by unfold Hid goodM; dsimp only; simp only [decide_eq_true c1, decide_eq_true c2, decide_eq_true c3]; simp [cT, cP, ← hrb]
                  clear cT cP hrb
                  go_enter Try.func17, Try.ntmps17
                  go_wp2_with fail
                  refine (I1.out _).mono ?_
                  rintro E w' ⟨rfl, rfl⟩
                  go_wp2_with fail
                  refine (I2.out _).mono ?_
                  rintro E w' ⟨rfl, rfl⟩
                  go_wp2_with fail
                  refine (I3.out _).mono ?_
                  rintro E w' ⟨rfl, rfl⟩
                  go_wp2_with (first
                    | (go_at_call 26; refine (HNT.out _).mono ?_; rintro E V ⟨rfl, J⟩; replace KX := KX.trans J; clear J; obtain ⟨r0, r1, r2, r3, r4, r5, r6, r7, r8⟩ := HC.out _ KX)
                    | (go_at_call 27; refine (HRo2.out _ (K.trans KX)).mono ?_; rintro E V ⟨rfl, J⟩; replace KX := KX.trans J; clear J)
                    | (go_at_call 28; refine (HGd.out _ (K.trans KX)).mono ?_; rintro E V ⟨rfl, J⟩; replace KX := KX.trans J; clear J; obtain ⟨r0, r1, r2, r3, r4, r5, r6, r7, r8⟩ := HC.out _ KX))
                  go_ret
                  exact ⟨ret_bool (by rw [hres.out]), K.trans KX⟩
                · have d2 : (p == 0) = false := by simp [cP]
                  have hres : Hid (goodM ⟨1, 1, 0, e, o, p, la, ln, lc, ta, tn, tc, te⟩ L T = false) := by unfold Hid goodM; dsimp only; simp only [decide_eq_true c1, decide_eq_true c2, decide_eq_true c3]; simp [cT, cP, cO]
                  clear cT cP cO
                  go_enter Try.func17, Try.ntmps17
                  go_wp2_with fail
                  refine (I1.out _).mono ?_
                  rintro E w' ⟨rfl, rfl⟩
                  go_wp2_with fail
                  refine (I2.out _).mono ?_
                  rintro E w' ⟨rfl, rfl⟩
                  go_wp2_with fail
                  refine (I3.out _).mono ?_
                  rintro E w' ⟨rfl, rfl⟩
                  go_wp2_with (first
                    | (go_at_call 26; refine (HNT.out _).mono ?_; rintro E V ⟨rfl, J⟩; replace KX := KX.trans J; clear J; obtain ⟨r0, r1, r2, r3, r4, r5, r6, r7, r8⟩ := HC.out _ KX)
                    | (go_at_call 27; refine (HRo2.out _ (K.trans KX)).mono ?_; rintro E V ⟨rfl, J⟩; replace KX := KX.trans J; clear J)
                    | (go_at_call 28; refine (HGd.out _ (K.trans KX)).mono ?_; rintro E V ⟨rfl, J⟩; replace KX := KX.trans J; clear J; obtain ⟨r0, r1, r2, r3, r4, r5, r6, r7, r8⟩ := HC.out _ KX))
                  go_ret
                  exact ⟨ret_bool (by rw [hres.out]), K.trans KX⟩
            · rw [decide_eq_false cT] at HNT
              have hres : Hid (goodM ⟨1, 1, 0, e, o, p, la, ln, lc, ta, tn, tc, te⟩ L T = false) := by unfold Hid goodM; dsimp only; simp only [decide_eq_true c1, decide_eq_true c2, decide_eq_true c3]; simp [cT]
              clear cT
              go_enter Try.func17, Try.ntmps17
              go_wp2_with fail
              refine (I1.out _).mono ?_
              rintro E w' ⟨rfl, rfl⟩
              go_wp2_with fail
              refine (I2.out _).mono ?_
              rintro E w' ⟨rfl, rfl⟩
              go_wp2_with fail
              refine (I3.out _).mono ?_
              rintro E w' ⟨rfl, rfl⟩
              go_wp2_with (first
                | (go_at_call 26; refine (HNT.out _).mono ?_; rintro E V ⟨rfl, J⟩; replace KX := KX.trans J; clear J; obtain ⟨r0, r1, r2, r3, r4, r5, r6, r7, r8⟩ := HC.out _ KX)
                | (go_at_call 27; refine (HRo2.out _ (K.trans KX)).mono ?_; rintro E V ⟨rfl, J⟩; replace KX := KX.trans J; clear J)
                | (go_at_call 28; refine (HGd.out _ (K.trans KX)).mono ?_; rintro E V ⟨rfl, J⟩; replace KX := KX.trans J; clear J; obtain ⟨r0, r1, r2, r3, r4, r5, r6, r7, r8⟩ := HC.out _ KX))
              go_ret
              exact ⟨ret_bool (by rw [hres.out]), K.trans KX⟩
          · by_cases k2 : k = 2
            · subst k2
              by_cases cT : tn = 0 ∧ te = 0
              · rw [decide_eq_true cT] at HNT
                by_cases cP : p = 0
                · have d2 : (p == 0) = true := by simp [cP]
                  by_cases cL : ln = 0
                  · have d3 : ((ln : Int) == 0) = true := by simp [cL]
                    have hres : Hid (goodM ⟨2, 1, 0, e, o, p, la, ln, lc, ta, tn, tc, te⟩ L T = true) := by unfold Hid goodM; dsimp only; simp only [decide_eq_true c1, decide_eq_true c2, decide_eq_true c3]; simp [cT, cP, cL]
                    clear cT cP cL
                    go_enter Try.func17, Try.ntmps17
                    go_wp2_with fail
                    refine (I1.out _).mono ?_
                    rintro E w' ⟨rfl, rfl⟩
                    go_wp2_with fail
                    refine (I2.out _).mono ?_
                    rintro E w' ⟨rfl, rfl⟩
                    go_wp2_with fail
                    refine (I3.out _).mono ?_
                    rintro E w' ⟨rfl, rfl⟩
                    go_wp2_with (first
                      | (go_at_call 26; refine (HNT.out _).mono ?_; rintro E V ⟨rfl, J⟩; replace KX := KX.trans J; clear J; obtain ⟨r0, r1, r2, r3, r4, r5, r6, r7, r8⟩ := HC.out _ KX)
                      | (go_at_call 27; refine (HRo2.out _ (K.trans KX)).mono ?_; rintro E V ⟨rfl, J⟩; replace KX := KX.trans J; clear J)
                      | (go_at_call 28; refine (HGd.out _ (K.trans KX)).mono ?_; rintro E V ⟨rfl, J⟩; replace KX := KX.trans J; clear J; obtain ⟨r0, r1, r2, r3, r4, r5, r6, r7, r8⟩ := HC.out _ KX))
                    go_ret
                    exact ⟨ret_bool (by rw [hres.out]), K.trans KX⟩
                  · have d3 : ((ln : Int) == 0) = false := by simp [cL]
                    have hres : Hid (goodM ⟨2, 1, 0, e, o, p, la, ln, lc, ta, tn, tc, te⟩ L T = false) := by unfold Hid goodM; dsimp only; simp only [decide_eq_true c1, decide_eq_true c2, decide_eq_true c3]; simp [cT, cP, cL]
                    clear cT cP cL
                    go_enter Try.func17, Try.ntmps17
                    go_wp2_with fail
                    refine (I1.out _).mono ?_
                    rintro E w' ⟨rfl, rfl⟩
                    go_wp2_with fail
                    refine (I2.out _).mono ?_
                    rintro E w' ⟨rfl, rfl⟩
                    go_wp2_with fail
                    refine (I3.out _).mono ?_
                    rintro E w' ⟨rfl, rfl⟩
                    go_wp2_with (first
                      | (go_at_call 26; refine (HNT.out _).mono ?_; rintro E V ⟨rfl, J⟩; replace KX := KX.trans J; clear J; obtain ⟨r0, r1, r2, r3, r4, r5, r6, r7, r8⟩ := HC.out _ KX)
                      | (go_at_call 27; refine (HRo2.out _ (K.trans KX)).mono ?_; rintro E V ⟨rfl, J⟩; replace KX := KX.trans J; clear J)
                      | (go_at_call 28; refine (HGd.out _ (K.trans KX)).mono ?_; rintro E V ⟨rfl, J⟩; replace KX := KX.trans J; clear J; obtain ⟨r0, r1, r2, r3, r4, r5, r6, r7, r8⟩ := HC.out _ KX))
                    go_ret
                    exact ⟨ret_bool (by rw [hres.out]), K.trans KX⟩
                · have d2 : (p == 0) = false := by simp [cP]
                  have hres : Hid (goodM ⟨2, 1, 0, e, o, p, la, ln, lc, ta, tn, tc, te⟩ L T = false) := by unfold Hid goodM; dsimp only; simp only [decide_eq_true c1, decide_eq_true c2, decide_eq_true c3]; simp [cT, cP]
                  clear cT cP
                  go_enter Try.func17, Try.ntmps17
                  go_wp2_with fail
                  refine (I1.out _).mono ?_
                  rintro E w' ⟨rfl, rfl⟩
                  go_wp2_with fail
                  refine (I2.out _).mono ?_
                  rintro E w' ⟨rfl, rfl⟩
                  go_wp2_with fail
                  refine (I3.out _).mono ?_
                  rintro E w' ⟨rfl, rfl⟩
                  go_wp2_with (first
                    | (go_at_call 26; refine (HNT.out _).mono ?_; rintro E V ⟨rfl, J⟩; replace KX := KX.trans J; clear J; obtain ⟨r0, r1, r2, r3, r4, r5, r6, r7, r8⟩ := HC.out _ KX)
                    | (go_at_call 27; refine (HRo2.out _ (K.trans KX)).mono ?_; rintro E V ⟨rfl, J⟩; replace KX := KX.trans J; clear J)
                    | (go_at_call 28; refine (HGd.out _ (K.trans KX)).mono ?_; rintro E V ⟨rfl, J⟩; replace KX := KX.trans J; clear J; obtain ⟨r0, r1, r2, r3, r4, r5, r6, r7, r8⟩ := HC.out _ KX))
                  go_ret
                  exact ⟨ret_bool (by rw [hres.out]), K.trans KX⟩
              · rw [decide_eq_false cT] at HNT
                have hres : Hid (goodM ⟨2, 1, 0, e, o, p, la, ln, lc, ta, tn, tc, te⟩ L T = false) := by unfold Hid goodM; dsimp only; simp only [decide_eq_true c1, decide_eq_true c2, decide_eq_true c3]; simp [cT]
                clear cT
                go_enter Try.func17, Try.ntmps17
                go_wp2_with fail
                refine (I1.out _).mono ?_
                rintro E w' ⟨rfl, rfl⟩
                go_wp2_with fail
                refine (I2.out _).mono ?_
                rintro E w' ⟨rfl, rfl⟩
                go_wp2_with fail
                refine (I3.out _).mono ?_
                rintro E w' ⟨rfl, rfl⟩
                go_wp2_with (first
                  | (go_at_call 26; refine (HNT.out _).mono ?_; rintro E V ⟨rfl, J⟩; replace KX := KX.trans J; clear J; obtain ⟨r0, r1, r2, r3, r4, r5, r6, r7, r8⟩ := HC.out _ KX)
                  | (go_at_call 27; refine (HRo2.out _ (K.trans KX)).mono ?_; rintro E V ⟨rfl, J⟩; replace KX := KX.trans J; clear J)
                  | (go_at_call 28; refine (HGd.out _ (K.trans KX)).mono ?_; rintro E V ⟨rfl, J⟩; replace KX := KX.trans J; clear J; obtain ⟨r0, r1, r2, r3, r4, r5, r6, r7, r8⟩ := HC.out _ KX))
                go_ret
                exact ⟨ret_bool (by rw [hres.out]), K.trans KX⟩
            · by_cases k3 : k = 3
              · subst k3
                by_cases cO : o = 0
                · have d1 : (o == 0) = true := by simp [cO]
                  by_cases cP : p = 0
                  · have d2 : (p == 0) = true := by simp [cP]
                    by_cases cL : ln = 0
                    · have d3 : ((ln : Int) == 0) = true := by simp [cL]
                      by_cases cG : GoodT T te
                      · rw [decide_eq_true cG] at HGd
                        by_cases cN : tn ≤ 64
                        · have d4 : decide ((tn : Int) ≤ 64) = true := decide_eq_true (by omega)
                          have hres : Hid (goodM ⟨3, 1, 0, e, o, p, la, ln, lc, ta, tn, tc, te⟩ L T = true) := by unfold Hid goodM; dsimp only; simp only [decide_eq_true c1, decide_eq_true c2, decide_eq_true c3]; simp [cO, cP, cL, cG, cN]
                          clear cO cP cL cG cN
                          go_enter Try.func17, Try.ntmps17
                          go_wp2_with fail
                          refine (I1.out _).mono ?_
                          rintro E w' ⟨rfl, rfl⟩
                          go_wp2_with fail
                          refine (I2.out _).mono ?_
                          rintro E w' ⟨rfl, rfl⟩
                          go_wp2_with fail
                          refine (I3.out _).mono ?_
                          rintro E w' ⟨rfl, rfl⟩
                          go_wp2_with (first
                            | (go_at_call 26; refine (HNT.out _).mono ?_; rintro E V ⟨rfl, J⟩; replace KX := KX.trans J; clear J; obtain ⟨r0, r1, r2, r3, r4, r5, r6, r7, r8⟩ := HC.out _ KX)
                            | (go_at_call 27; refine (HRo2.out _ (K.trans KX)).mono ?_; rintro E V ⟨rfl, J⟩; replace KX := KX.trans J; clear J)
                            | (go_at_call 28; refine (HGd.out _ (K.trans KX)).mono ?_; rintro E V ⟨rfl, J⟩; replace KX := KX.trans J; clear J; obtain ⟨r0, r1, r2, r3, r4, r5, r6, r7, r8⟩ := HC.out _ KX))
                          go_ret
                          exact ⟨ret_bool (by rw [hres.out]), K.trans KX⟩
                        · have d4 : decide ((tn : Int) ≤ 64) = false := decide_eq_false (by omega)
                          have hres : Hid (goodM ⟨3, 1, 0, e, o, p, la, ln, lc, ta, tn, tc, te⟩ L T = false) := by unfold Hid goodM; dsimp only; simp only [decide_eq_true c1, decide_eq_true c2, decide_eq_true c3]; simp [cO, cP, cL, cG, cN]
                          clear cO cP cL cG cN
                          go_enter Try.func17, Try.ntmps17
                          go_wp2_with fail
                          refine (I1.out _).mono ?_
                          rintro E w' ⟨rfl, rfl⟩
                          go_wp2_with fail
                          refine (I2.out _).mono ?_
                          rintro E w' ⟨rfl, rfl⟩
                          go_wp2_with fail
                          refine (I3.out _).mono ?_
                          rintro E w' ⟨rfl, rfl⟩
                          go_wp2_with (first
                            | (go_at_call 26; refine (HNT.out _).mono ?_; rintro E V ⟨rfl, J⟩; replace KX := KX.trans J; clear J; obtain ⟨r0, r1, r2, r3, r4, r5, r6, r7, r8⟩ := HC.out _ KX)
                            | (go_at_call 27; refine (HRo2.out _ (K.trans KX)).mono ?_; rintro E V ⟨rfl, J⟩; replace KX := KX.trans J; clear J)
                            | (go_at_call 28; refine (HGd.out _ (K.trans KX)).mono ?_; rintro E V ⟨rfl, J⟩; replace KX := KX.trans J; clear J; obtain ⟨r0, r1, r2, r3, r4, r5, r6, r7, r8⟩ := HC.out _ KX))
                          go_ret
                          exact ⟨ret_bool (by rw [hres.out]), K.trans KX⟩
                      · rw [decide_eq_false cG] at HGd
                        have hres : Hid (goodM ⟨3, 1, 0, e, o, p, la, ln, lc, ta, tn, tc, te⟩ L T = false) := by unfold Hid goodM; dsimp only; simp only [decide_eq_true c1, decide_eq_true c2, decide_eq_true c3]; simp [cO, cP, cL, cG]
                        clear cO cP cL cG
                        go_enter Try.func17, Try.ntmps17
                        go_wp2_with fail
                        refine (I1.out _).mono ?_
                        rintro E w' ⟨rfl, rfl⟩
                        go_wp2_with fail
                        refine (I2.out _).mono ?_
                        rintro E w' ⟨rfl, rfl⟩
                        go_wp2_with fail
                        refine (I3.out _).mono ?_
                        rintro E w' ⟨rfl, rfl⟩
                        go_wp2_with (first
                          | (go_at_call 26; refine (HNT.out _).mono ?_; rintro E V ⟨rfl, J⟩; replace KX := KX.trans J; clear J; obtain ⟨r0, r1, r2, r3, r4, r5, r6, r7, r8⟩ := HC.out _ KX)
                          | (go_at_call 27; refine (HRo2.out _ (K.trans KX)).mono ?_; rintro E V ⟨rfl, J⟩; replace KX := KX.trans J; clear J)
                          | (go_at_call 28; refine (HGd.out _ (K.trans KX)).mono ?_; rintro E V ⟨rfl, J⟩; replace KX := KX.trans J; clear J; obtain ⟨r0, r1, r2, r3, r4, r5, r6, r7, r8⟩ := HC.out _ KX))
                        go_ret
                        exact ⟨ret_bool (by rw [hres.out]), K.trans KX⟩
                    · have d3 : ((ln : Int) == 0) = false := by simp [cL]
                      have hres : Hid (goodM ⟨3, 1, 0, e, o, p, la, ln, lc, ta, tn, tc, te⟩ L T = false) := by unfold Hid goodM; dsimp only; simp only [decide_eq_true c1, decide_eq_true c2, decide_eq_true c3]; simp [cO, cP, cL]
                      clear cO cP cL
                      go_enter Try.func17, Try.ntmps17
                      go_wp2_with fail
                      refine (I1.out _).mono ?_
                      rintro E w' ⟨rfl, rfl⟩
                      go_wp2_with fail
                      refine (I2.out _).mono ?_
                      rintro E w' ⟨rfl, rfl⟩
                      go_wp2_with fail
                      refine (I3.out _).mono ?_
                      rintro E w' ⟨rfl, rfl⟩
                      go_wp2_with (first
                        | (go_at_call 26; refine (HNT.out _).mono ?_; rintro E V ⟨rfl, J⟩; replace KX := KX.trans J; clear J; obtain ⟨r0, r1, r2, r3, r4, r5, r6, r7, r8⟩ := HC.out _ KX)
                        | (go_at_call 27; refine (HRo2.out _ (K.trans KX)).mono ?_; rintro E V ⟨rfl, J⟩; replace KX := KX.trans J; clear J)
                        | (go_at_call 28; refine (HGd.out _ (K.trans KX)).mono ?_; rintro E V ⟨rfl, J⟩; replace KX := KX.trans J; clear J; obtain ⟨r0, r1, r2, r3, r4, r5, r6, r7, r8⟩ := HC.out _ KX))
                      go_ret
                      exact ⟨ret_bool (by rw [hres.out]), K.trans KX⟩
                  · have d2 : (p == 0) = false := by simp [cP]
                    have hres : Hid (goodM ⟨3, 1, 0, e, o, p, la, ln, lc, ta, tn, tc, te⟩ L T = false) := by unfold Hid goodM; dsimp only; simp only [decide_eq_true c1, decide_eq_true c2, decide_eq_true c3]; simp [cO, cP]
                    clear cO cP
                    go_enter Try.func17, Try.ntmps17
                    go_wp2_with fail
                    refine (I1.out _).mono ?_
                    rintro E w' ⟨rfl, rfl⟩
                    go_wp2_with fail
                    refine (I2.out _).mono ?_
                    rintro E w' ⟨rfl, rfl⟩
                    go_wp2_with fail
                    refine (I3.out _).mono ?_
                    rintro E w' ⟨rfl, rfl⟩
                    go_wp2_with (first
                      | (go_at_call 26; refine (HNT.out _).mono ?_; rintro E V ⟨rfl, J⟩; replace KX := KX.trans J; clear J; obtain ⟨r0, r1, r2, r3, r4, r5, r6, r7, r8⟩ := HC.out _ KX)
                      | (go_at_call 27; refine (HRo2.out _ (K.trans KX)).mono ?_; rintro E V ⟨rfl, J⟩; replace KX := KX.trans J; clear J)
                      | (go_at_call 28; refine (HGd.out _ (K.trans KX)).mono ?_; rintro E V ⟨rfl, J⟩; replace KX := KX.trans J; clear J; obtain ⟨r0, r1, r2, r3, r4, r5, r6, r7, r8⟩ := HC.out _ KX))
                    go_ret
                    exact ⟨ret_bool (by rw [hres.out]), K.trans KX⟩
                · have d1 : (o == 0) = false := by simp [cO]
                  have hres : Hid (goodM ⟨3, 1, 0, e, o, p, la, ln, lc, ta, tn, tc, te⟩ L T = false) := by unfold Hid goodM; dsimp only; simp only [decide_eq_true c1, decide_eq_true c2, decide_eq_true c3]; simp [cO]
                  clear cO
                  go_enter Try.func17, Try.ntmps17
                  go_wp2_with fail
                  refine (I1.out _).mono ?_
                  rintro E w' ⟨rfl, rfl⟩
                  go_wp2_with fail
                  refine (I2.out _).mono ?_
                  rintro E w' ⟨rfl, rfl⟩
                  go_wp2_with fail
                  refine (I3.out _).mono ?_
                  rintro E w' ⟨rfl, rfl⟩
                  go_wp2_with (first
                    | (go_at_call 26; refine (HNT.out _).mono ?_; rintro E V ⟨rfl, J⟩; replace KX := KX.trans J; clear J; obtain ⟨r0, r1, r2, r3, r4, r5, r6, r7, r8⟩ := HC.out _ KX)
                    | (go_at_call 27; refine (HRo2.out _ (K.trans KX)).mono ?_; rintro E V ⟨rfl, J⟩; replace KX := KX.trans J; clear J)
                    | (go_at_call 28; refine (HGd.out _ (K.trans KX)).mono ?_; rintro E V ⟨rfl, J⟩; replace KX := KX.trans J; clear J; obtain ⟨r0, r1, r2, r3, r4, r5, r6, r7, r8⟩ := HC.out _ KX))
                  go_ret
                  exact ⟨ret_bool (by rw [hres.out]), K.trans KX⟩
              · have d1 : (k == 1) = false := by simp [k1]
                have d2 : (k == 2) = false := by simp [k2]
                have d3 : (k == 3) = false := by simp [k3]
                have hres : Hid (goodM ⟨k, 1, 0, e, o, p, la, ln, lc, ta, tn, tc, te⟩ L T = false) := by unfold Hid goodM; dsimp only; simp only [decide_eq_true c1, decide_eq_true c2, decide_eq_true c3]; simp [k1, k2, k3]
                clear k1 k2 k3
                go_enter Try.func17, Try.ntmps17
                go_wp2_with fail
                refine (I1.out _).mono ?_
                rintro E w' ⟨rfl, rfl⟩
                go_wp2_with fail
                refine (I2.out _).mono ?_
                rintro E w' ⟨rfl, rfl⟩
                go_wp2_with fail
                refine (I3.out _).mono ?_
                rintro E w' ⟨rfl, rfl⟩
                go_wp2_with (first
                  | (go_at_call 26; refine (HNT.out _).mono ?_; rintro E V ⟨rfl, J⟩; replace KX := KX.trans J; clear J; obtain ⟨r0, r1, r2, r3, r4, r5, r6, r7, r8⟩ := HC.out _ KX)
                  | (go_at_call 27; refine (HRo2.out _ (K.trans KX)).mono ?_; rintro E V ⟨rfl, J⟩; replace KX := KX.trans J; clear J)
                  | (go_at_call 28; refine (HGd.out _ (K.trans KX)).mono ?_; rintro E V ⟨rfl, J⟩; replace KX := KX.trans J; clear J; obtain ⟨r0, r1, r2, r3, r4, r5, r6, r7, r8⟩ := HC.out _ KX))
                go_ret
                exact ⟨ret_bool (by rw [hres.out]), K.trans KX⟩
        · rw [decide_eq_false c3] at I3
          have hres : Hid (goodM ⟨k, 1, 0, e, o, p, la, ln, lc, ta, tn, tc, te⟩ L T = false) := by unfold Hid goodM; dsimp only; simp only [decide_eq_true c1, decide_eq_true c2, decide_eq_false c3]; simp
          go_enter Try.func17, Try.ntmps17
          go_wp2_with fail
          refine (I1.out _).mono ?_
          rintro E w' ⟨rfl, rfl⟩
          go_wp2_with fail
          refine (I2.out _).mono ?_
          rintro E w' ⟨rfl, rfl⟩
          go_wp2_with fail
          refine (I3.out _).mono ?_
          rintro E w' ⟨rfl, rfl⟩
          go_wp2_with (first
            | (go_at_call 26; refine (HNT.out _).mono ?_; rintro E V ⟨rfl, J⟩; replace KX := KX.trans J; clear J; obtain ⟨r0, r1, r2, r3, r4, r5, r6, r7, r8⟩ := HC.out _ KX)
            | (go_at_call 27; refine (HRo2.out _ (K.trans KX)).mono ?_; rintro E V ⟨rfl, J⟩; replace KX := KX.trans J; clear J)
            | (go_at_call 28; refine (HGd.out _ (K.trans KX)).mono ?_; rintro E V ⟨rfl, J⟩; replace KX := KX.trans J; clear J; obtain ⟨r0, r1, r2, r3, r4, r5, r6, r7, r8⟩ := HC.out _ KX))
          go_ret
          exact ⟨ret_bool (by rw [hres.out]), K.trans KX⟩
      · rw [decide_eq_false c2] at I2
        have hres : Hid (goodM ⟨k, 1, 0, e, o, p, la, ln, lc, ta, tn, tc, te⟩ L T = false) := by unfold Hid goodM; dsimp only; simp only [decide_eq_true c1, decide_eq_false c2]; simp
        go_enter Try.func17, Try.ntmps17
        go_wp2_with fail
        refine (I1.out _).mono ?_
        rintro E w' ⟨rfl, rfl⟩
        go_wp2_with fail
        refine (I2.out _).mono ?_
        rintro E w' ⟨rfl, rfl⟩
        go_wp2
        go_ret
        exact ⟨ret_bool (by rw [hres.out]), K.trans KX⟩
    · rw [decide_eq_false c1] at I1
      have hres : Hid (goodM ⟨k, 1, 0, e, o, p, la, ln, lc, ta, tn, tc, te⟩ L T = false) := by unfold Hid goodM; dsimp only; simp only [decide_eq_false c1]; simp
      go_enter Try.func17, Try.ntmps17
      go_wp2_with fail
      refine (I1.out _).mono ?_
      rintro E w' ⟨rfl, rfl⟩
      go_wp2
      go_ret
      exact ⟨ret_bool (by rw [hres.out]), K.trans KX⟩
  · have d1 : (t == 1) = false := by simp [h1]
    have hres : Hid (goodM ⟨k, 0, t, e, o, p, la, ln, lc, ta, tn, tc, te⟩ L T = false) := by unfold Hid goodM; dsimp only; simp [h1]
    clear h1
    go_enter Try.func17, Try.ntmps17
    go_wp2
    go_ret
    exact ⟨ret_bool (by rw [hres.out]), K.trans KX⟩
  · have d1 : (t == 0) = false := by simp [h1]
    have hres : Hid (goodM ⟨k, 1, t, e, o, p, la, ln, lc, ta, tn, tc, te⟩ L T = false) := by unfold Hid goodM; dsimp only; simp [h1]
    clear h1
    go_enter Try.func17, Try.ntmps17
    go_wp2
    go_ret
    exact ⟨ret_bool (by rw [hres.out]), K.trans KX⟩
  · have d1 : (f == 0) = false := by simp [h1]
    have d2 : (f == 1) = false := by simp [h2]
    have hres : Hid (goodM ⟨k, f, t, e, o, p, la, ln, lc, ta, tn, tc, te⟩ L T = false) := by unfold Hid goodM; dsimp only; simp [h1, h2]
    clear h1 h2
    go_enter Try.func17, Try.ntmps17
    go_wp2
    go_ret
    exact ⟨ret_bool (by rw [hres.out]), K.trans KX⟩
end Go.Proofs.Ytnnjflljlooifaa
