/- ship.New, Take, Done. -/
import Derived.Test.YtmkoabalakfehaaMsgGood2
import Derived.Test.YtmkoabalakfehaaEpMeet
set_option linter.unusedVariables false
set_option linter.unusedSimpArgs false
namespace Go.Proofs.Ytmkoabalakfehaa
open Go.RowKit
/-- a Ship as its value -/
structure SV where
  who : Int
  ep : Int
  nx : Int
  ak : Int
def SV.v (s : SV) : Value := .agg #[.int .i64 s.who, .int .i64 s.ep, .int .i64 s.nx, .int .i64 s.ak]
theorem four_set {w : World} {p : Nat} {t : TypeId} {m : Nat × Nat} {v0 v1 v2 v3 : Value} (h : w.heap[p]? = some (.cells #[v0, v1, v2, v3] t m)) (u0 u1 u2 u3 : Value) :
    ((((w.setCell ⟨p, 0, none⟩ u0).setCell ⟨p, 1, none⟩ u1).setCell ⟨p, 2, none⟩ u2).setCell ⟨p, 3, none⟩ u3).heap[p]? = some (.cells #[u0, u1, u2, u3] t m) :=
  at_set (at_set (at_set (at_set h 0 u0) 1 u1) 2 u2) 3 u3
theorem four_cells {w : World} {p : Nat} {t : TypeId} {m : Nat × Nat} {v0 v1 v2 v3 : Value} (h : w.heap[p]? = some (.cells #[v0, v1, v2, v3] t m)) :
    w.cell? ⟨p, 0, none⟩ = some v0 ∧ w.cell? ⟨p, 1, none⟩ = some v1 ∧ w.cell? ⟨p, 2, none⟩ = some v2 ∧ w.cell? ⟨p, 3, none⟩ = some v3 := ⟨at_cell h 0 _ rfl, at_cell h 1 _ rfl, at_cell h 2 _ rfl, at_cell h 3 _ rfl⟩
theorem only_set4 (w : World) (q : Nat) (u0 u1 u2 u3 : Value) : Only [q] w ((((w.setCell ⟨q, 0, none⟩ u0).setCell ⟨q, 1, none⟩ u1).setCell ⟨q, 2, none⟩ u2).setCell ⟨q, 3, none⟩ u3) :=
  (((((Only.refl [q] w).setCell (fun _ => by simp) u0).setCell (fun _ => by simp) u1).setCell (fun _ => by simp) u2).setCell (fun _ => by simp) u3)
theorem ship_new_yes (who ep ed : Int) (w : World) (hw : who = 0 ∨ who = 1) (e0 : 1 ≤ ep) (e1 : ep ≤ 1048575) (d0 : 0 ≤ ed) (d1 : ed ≤ 17592186044415) :
    Calls Try.prog 9 #[.int .i64 who, .int .i64 ep, .int .i64 ed] w fun e w' => e = .returned (.tuple #[SV.v ⟨who, ep, ed, 0⟩, .int .i64 0]) ∧ Kept w w' := by
  have K := kept_al w (.cells #[.int .i64 who, .int .i64 ep, .int .i64 ed, .int .i64 0] 29)
  unfold SV.v
  rcases hw with rfl | rfl
  all_goals
    go_enter Try.func9, Try.ntmps9
    go_wp2
    exact bodyPost_ret (v := .tuple #[.agg #[.int .i64 _, .int .i64 ep, .int .i64 ed, .int .i64 0], .int .i64 0]) (by simp [results, Try.results9, go_sem]) rfl ⟨rfl, K⟩
theorem ship_done (s : SV) (safe : Int) (w : World) : Calls Try.prog 15 #[s.v, .int .i64 safe, .bool false] w fun e w' => e = .returned (.int .i64 (min safe s.ak)) ∧ Kept w w' := by
  obtain ⟨who, ep, nx, ak⟩ := s
  have K := kept_al w (.cells #[.int .i64 who, .int .i64 ep, .int .i64 nx, .int .i64 ak] 29)
  have d3 := at_cell (heap_alloc_new w (.cells #[.int .i64 who, .int .i64 ep, .int .i64 nx, .int .i64 ak] 29)) 3 _ rfl
  unfold SV.v
  go_enter Try.func15, Try.ntmps15
  go_wp2
  all_goals
    go_ret
    exact ⟨ret_int (by omega), K⟩
def takeS (s : SV) (g gm : Bool) (E : Int) (m : MV) (mt : Int) : SV × Int :=
  if g = false ∨ gm = false ∨ m.t ≠ s.who then (⟨0, 0, 0, 0⟩, 1) else if m.e ≠ s.ep then (⟨0, 0, 0, 0⟩, 8) else if m.k = 1 ∨ (m.k = 2 ∧ E < m.o) then (⟨0, 0, 0, 0⟩, 1)
  else if m.k = 2 then (⟨s.who, s.ep, max s.nx m.o, max s.ak m.o⟩, 0) else (⟨s.who, s.ep, mt, s.ak⟩, 0)
theorem new_at {w : World} {q : Nat} (x : Obj) (hq : q = w.heap.size) : (w.alloc x).heap[q]? = some x := by subst hq; exact heap_alloc_new w x
set_option maxRecDepth 100000 in
set_option maxHeartbeats 4000000 in
theorem ship_take (s : SV) (a : Option Addr) (n c : Nat) (T : List Int) (E : Int) (m : MV) (L : List (Int × Nat)) (T2 : List Int) (w : World) (hT : Sl .u64 w a n c T) (wT : IsW T) (hL : SlM w m.la m.ln m.lc L) (hT2 : Sl .u64 w m.ta m.tn m.tc T2) (wT2 : IsW T2) (hn : m.ln ≤ 100) :
    Calls Try.prog 11 #[s.v, .agg #[.slice a n c, .int .i64 E], .agg m.cs] w fun e w' => e = .returned (.tuple #[(takeS s (decide (GoodT T E)) (goodM m L T2) E m (meetI T E T2 m.te)).1.v, .int .i64 (takeS s (decide (GoodT T E)) (goodM m L T2) E m (meetI T E T2 m.te)).2]) ∧ Kept w w' := by
  obtain ⟨k, f, t, e, o, p, la, ln, lc, ta, tn, tc, te⟩ := m
  obtain ⟨who, ep, nx, ak⟩ := s
  have HG1 := Lib.hid (fun W (kk : Kept w W) => ep_good a n c T E W (kk.sl hT) wT)
  have HG2 := Lib.hid (fun W (kk : Kept w W) => msg_good ⟨k, f, t, e, o, p, la, ln, lc, ta, tn, tc, te⟩ L T2 W (hL.kept kk) (kk.sl hT2) wT2 hn)
  have HM := Lib.hid (fun W (kk : Kept w W) => ep_meet a ta n c tn tc T T2 E te W (kk.sl hT) (kk.sl hT2) wT wT2)
  unfold MV.cs at *
  unfold SV.v
  dsimp only at *
  have K : Kept w ((((w.alloc (.cells #[.int .i64 who, .int .i64 ep, .int .i64 nx, .int .i64 ak] 29)).alloc (.cells #[.slice a n c, .int .i64 E] 24)).alloc (.cells #[.int .i64 k, .int .i64 f, .int .i64 t, .int .i64 e, .int .i64 o, .int .i64 p, .slice la ln lc, .slice ta tn tc, .int .i64 te] 36)).alloc (.cells #[.int .i64 0, .int .i64 0, .int .i64 0, .int .i64 0] 29)) := (((kept_al w _).trans (kept_al _ _)).trans (kept_al _ _)).trans (kept_al _ _)
  have h0 : ((((w.alloc (.cells #[.int .i64 who, .int .i64 ep, .int .i64 nx, .int .i64 ak] 29)).alloc (.cells #[.slice a n c, .int .i64 E] 24)).alloc (.cells #[.int .i64 k, .int .i64 f, .int .i64 t, .int .i64 e, .int .i64 o, .int .i64 p, .slice la ln lc, .slice ta tn tc, .int .i64 te] 36)).alloc (.cells #[.int .i64 0, .int .i64 0, .int .i64 0, .int .i64 0] 29)).heap[w.heap.size]? = some (.cells #[.int .i64 who, .int .i64 ep, .int .i64 nx, .int .i64 ak] 29) := (((kept_al (w.alloc (.cells #[.int .i64 who, .int .i64 ep, .int .i64 nx, .int .i64 ak] 29)) (.cells #[.slice a n c, .int .i64 E] 24)).trans (kept_al _ (.cells #[.int .i64 k, .int .i64 f, .int .i64 t, .int .i64 e, .int .i64 o, .int .i64 p, .slice la ln lc, .slice ta tn tc, .int .i64 te] 36))).trans (kept_al _ (.cells #[.int .i64 0, .int .i64 0, .int .i64 0, .int .i64 0] 29))).only.heap (heap_alloc_new w _) (by simp)
  have h1 : ((((w.alloc (.cells #[.int .i64 who, .int .i64 ep, .int .i64 nx, .int .i64 ak] 29)).alloc (.cells #[.slice a n c, .int .i64 E] 24)).alloc (.cells #[.int .i64 k, .int .i64 f, .int .i64 t, .int .i64 e, .int .i64 o, .int .i64 p, .slice la ln lc, .slice ta tn tc, .int .i64 te] 36)).alloc (.cells #[.int .i64 0, .int .i64 0, .int .i64 0, .int .i64 0] 29)).heap[w.heap.size + 1]? = some (.cells #[.slice a n c, .int .i64 E] 24) := ((kept_al ((w.alloc (.cells #[.int .i64 who, .int .i64 ep, .int .i64 nx, .int .i64 ak] 29)).alloc (.cells #[.slice a n c, .int .i64 E] 24)) (.cells #[.int .i64 k, .int .i64 f, .int .i64 t, .int .i64 e, .int .i64 o, .int .i64 p, .slice la ln lc, .slice ta tn tc, .int .i64 te] 36)).trans (kept_al _ (.cells #[.int .i64 0, .int .i64 0, .int .i64 0, .int .i64 0] 29))).only.heap (new_at _ (by simp)) (by simp)
  have h2 : ((((w.alloc (.cells #[.int .i64 who, .int .i64 ep, .int .i64 nx, .int .i64 ak] 29)).alloc (.cells #[.slice a n c, .int .i64 E] 24)).alloc (.cells #[.int .i64 k, .int .i64 f, .int .i64 t, .int .i64 e, .int .i64 o, .int .i64 p, .slice la ln lc, .slice ta tn tc, .int .i64 te] 36)).alloc (.cells #[.int .i64 0, .int .i64 0, .int .i64 0, .int .i64 0] 29)).heap[w.heap.size + 2]? = some (.cells #[.int .i64 k, .int .i64 f, .int .i64 t, .int .i64 e, .int .i64 o, .int .i64 p, .slice la ln lc, .slice ta tn tc, .int .i64 te] 36) := (kept_al (((w.alloc (.cells #[.int .i64 who, .int .i64 ep, .int .i64 nx, .int .i64 ak] 29)).alloc (.cells #[.slice a n c, .int .i64 E] 24)).alloc (.cells #[.int .i64 k, .int .i64 f, .int .i64 t, .int .i64 e, .int .i64 o, .int .i64 p, .slice la ln lc, .slice ta tn tc, .int .i64 te] 36)) (.cells #[.int .i64 0, .int .i64 0, .int .i64 0, .int .i64 0] 29)).only.heap (new_at _ (by simp)) (by simp)
  have h3 : ((((w.alloc (.cells #[.int .i64 who, .int .i64 ep, .int .i64 nx, .int .i64 ak] 29)).alloc (.cells #[.slice a n c, .int .i64 E] 24)).alloc (.cells #[.int .i64 k, .int .i64 f, .int .i64 t, .int .i64 e, .int .i64 o, .int .i64 p, .slice la ln lc, .slice ta tn tc, .int .i64 te] 36)).alloc (.cells #[.int .i64 0, .int .i64 0, .int .i64 0, .int .i64 0] 29)).heap[w.heap.size + 3]? = some (.cells #[.int .i64 0, .int .i64 0, .int .i64 0, .int .i64 0] 29) := new_at _ (by simp)
  generalize hX : ((((w.alloc (.cells #[.int .i64 who, .int .i64 ep, .int .i64 nx, .int .i64 ak] 29)).alloc (.cells #[.slice a n c, .int .i64 E] 24)).alloc (.cells #[.int .i64 k, .int .i64 f, .int .i64 t, .int .i64 e, .int .i64 o, .int .i64 p, .slice la ln lc, .slice ta tn tc, .int .i64 te] 36)).alloc (.cells #[.int .i64 0, .int .i64 0, .int .i64 0, .int .i64 0] 29)) = X at *
  have HC : Hid (∀ V, Kept X V → V.heap[w.heap.size]? = some (.cells #[.int .i64 who, .int .i64 ep, .int .i64 nx, .int .i64 ak] 29) ∧ V.heap[w.heap.size + 1]? = some (.cells #[.slice a n c, .int .i64 E] 24) ∧ V.heap[w.heap.size + 2]? = some (.cells #[.int .i64 k, .int .i64 f, .int .i64 t, .int .i64 e, .int .i64 o, .int .i64 p, .slice la ln lc, .slice ta tn tc, .int .i64 te] 36) ∧ V.heap[w.heap.size + 3]? = some (.cells #[.int .i64 0, .int .i64 0, .int .i64 0, .int .i64 0] 29)) := fun V kk => ⟨kk.only.heap h0 (by simp), kk.only.heap h1 (by simp), kk.only.heap h2 (by simp), kk.only.heap h3 (by simp)⟩
  have t0 := at_cell h1 0 _ rfl
  have t1 := at_cell h1 1 _ rfl
  clear h0 h1 h2 h3 hT hL hT2 wT wT2
  by_cases c1 : GoodT T E
  · rw [decide_eq_true c1] at HG1
    obtain ⟨gm, hgm⟩ : ∃ gm, goodM ⟨k, f, t, e, o, p, la, ln, lc, ta, tn, tc, te⟩ L T2 = gm := ⟨_, rfl⟩
    rw [hgm] at HG2
    cases gm
    · skip
      have hres : Hid ((takeS ⟨who, ep, nx, ak⟩ (decide (GoodT T E)) (goodM ⟨k, f, t, e, o, p, la, ln, lc, ta, tn, tc, te⟩ L T2) E ⟨k, f, t, e, o, p, la, ln, lc, ta, tn, tc, te⟩ (meetI T E T2 te)) = (⟨0, 0, 0, 0⟩, 1)) := by unfold Hid takeS; rw [hgm]; simp [c1]
      clear hgm c1
      go_enter Try.func11, Try.ntmps11
      go_wp2_with fail
      refine (HG1.out _ K).mono ?_
      rintro e1 V1 ⟨rfl, J1⟩
      obtain ⟨h0, h1, h2, h3⟩ := HC.out _ J1
      have as0 := at_cell h0 0 _ rfl
      have as1 := at_cell h0 1 _ rfl
      have as2 := at_cell h0 2 _ rfl
      have as3 := at_cell h0 3 _ rfl
      have at0 := at_cell h1 0 _ rfl
      have at1 := at_cell h1 1 _ rfl
      have am0 := at_cell h2 0 _ rfl
      have am1 := at_cell h2 1 _ rfl
      have am2 := at_cell h2 2 _ rfl
      have am3 := at_cell h2 3 _ rfl
      have am4 := at_cell h2 4 _ rfl
      have am5 := at_cell h2 5 _ rfl
      have am6 := at_cell h2 6 _ rfl
      have am7 := at_cell h2 7 _ rfl
      have am8 := at_cell h2 8 _ rfl
      have ar0 := at_cell h3 0 _ rfl
      have af0 := one_free h3 0
      have ag0 := one_free h0 0
      have ar1 := at_cell h3 1 _ rfl
      have af1 := one_free h3 1
      have ag1 := one_free h0 1
      have ar2 := at_cell h3 2 _ rfl
      have af2 := one_free h3 2
      have ag2 := one_free h0 2
      have ar3 := at_cell h3 3 _ rfl
      have af3 := one_free h3 3
      have ag3 := one_free h0 3
      have H3 := Lib.hid h3
      have H0 := Lib.hid h0
      clear h0 h1 h2 h3
      go_wp2_with fail
      refine (HG2.out _ (K.trans J1)).mono ?_
      rintro e2 V2 ⟨rfl, J2⟩
      clear as0 as1 as2 as3 at0 at1 am0 am1 am2 am3 am4 am5 am6 am7 am8 ar0 ar1 ar2 ar3 af0 af1 af2 af3 ag0 ag1 ag2 ag3 H3 H0
      obtain ⟨h0, h1, h2, h3⟩ := HC.out _ (J1.trans J2)
      have bs0 := at_cell h0 0 _ rfl
      have bs1 := at_cell h0 1 _ rfl
      have bs2 := at_cell h0 2 _ rfl
      have bs3 := at_cell h0 3 _ rfl
      have bt0 := at_cell h1 0 _ rfl
      have bt1 := at_cell h1 1 _ rfl
      have bm0 := at_cell h2 0 _ rfl
      have bm1 := at_cell h2 1 _ rfl
      have bm2 := at_cell h2 2 _ rfl
      have bm3 := at_cell h2 3 _ rfl
      have bm4 := at_cell h2 4 _ rfl
      have bm5 := at_cell h2 5 _ rfl
      have bm6 := at_cell h2 6 _ rfl
      have bm7 := at_cell h2 7 _ rfl
      have bm8 := at_cell h2 8 _ rfl
      have br0 := at_cell h3 0 _ rfl
      have bf0 := one_free h3 0
      have bg0 := one_free h0 0
      have br1 := at_cell h3 1 _ rfl
      have bf1 := one_free h3 1
      have bg1 := one_free h0 1
      have br2 := at_cell h3 2 _ rfl
      have bf2 := one_free h3 2
      have bg2 := one_free h0 2
      have br3 := at_cell h3 3 _ rfl
      have bf3 := one_free h3 3
      have bg3 := one_free h0 3
      have H3 := Lib.hid h3
      have H0 := Lib.hid h0
      clear h0 h1 h2 h3
      have o4 := only_set4 V2 (w.heap.size + 3) (.int .i64 0) (.int .i64 0) (.int .i64 0) (.int .i64 0)
      obtain ⟨z0, z1, z2, z3⟩ := four_cells (four_set H3.out (.int .i64 0) (.int .i64 0) (.int .i64 0) (.int .i64 0))
      have KF := (K.trans (J1.trans J2)).onl o4 (by intro i hi; have := List.mem_singleton.1 hi; omega)
      clear H3 H0 o4
      go_wp2
      exact bodyPost_ret (v := .tuple #[.agg #[.int .i64 0, .int .i64 0, .int .i64 0, .int .i64 0], .int .i64 1]) (by simp [results, Try.results11, go_sem, z0, z1, z2, z3]) rfl ⟨by rw [hres.out], KF⟩
    · skip
      by_cases c2 : t = who
      · have d1 : (t != who) = false := by simp [c2]
        by_cases c3 : e = ep
        · have d2 : (e != ep) = false := by simp [c3]
          by_cases c4 : k = 1
          · have d3 : (k == 1) = true := by simp [c4]
            have hres : Hid ((takeS ⟨who, ep, nx, ak⟩ (decide (GoodT T E)) (goodM ⟨k, f, t, e, o, p, la, ln, lc, ta, tn, tc, te⟩ L T2) E ⟨k, f, t, e, o, p, la, ln, lc, ta, tn, tc, te⟩ (meetI T E T2 te)) = (⟨0, 0, 0, 0⟩, 1)) := by unfold Hid takeS; rw [hgm]; simp [c1, c2, c3, c4]
            clear hgm c1 c2 c3 c4
            go_enter Try.func11, Try.ntmps11
            go_wp2_with fail
            refine (HG1.out _ K).mono ?_
            rintro e1 V1 ⟨rfl, J1⟩
            obtain ⟨h0, h1, h2, h3⟩ := HC.out _ J1
            have as0 := at_cell h0 0 _ rfl
            have as1 := at_cell h0 1 _ rfl
            have as2 := at_cell h0 2 _ rfl
            have as3 := at_cell h0 3 _ rfl
            have at0 := at_cell h1 0 _ rfl
            have at1 := at_cell h1 1 _ rfl
            have am0 := at_cell h2 0 _ rfl
            have am1 := at_cell h2 1 _ rfl
            have am2 := at_cell h2 2 _ rfl
            have am3 := at_cell h2 3 _ rfl
            have am4 := at_cell h2 4 _ rfl
            have am5 := at_cell h2 5 _ rfl
            have am6 := at_cell h2 6 _ rfl
            have am7 := at_cell h2 7 _ rfl
            have am8 := at_cell h2 8 _ rfl
            have ar0 := at_cell h3 0 _ rfl
            have af0 := one_free h3 0
            have ag0 := one_free h0 0
            have ar1 := at_cell h3 1 _ rfl
            have af1 := one_free h3 1
            have ag1 := one_free h0 1
            have ar2 := at_cell h3 2 _ rfl
            have af2 := one_free h3 2
            have ag2 := one_free h0 2
            have ar3 := at_cell h3 3 _ rfl
            have af3 := one_free h3 3
            have ag3 := one_free h0 3
            have H3 := Lib.hid h3
            have H0 := Lib.hid h0
            clear h0 h1 h2 h3
            go_wp2_with fail
            refine (HG2.out _ (K.trans J1)).mono ?_
            rintro e2 V2 ⟨rfl, J2⟩
            clear as0 as1 as2 as3 at0 at1 am0 am1 am2 am3 am4 am5 am6 am7 am8 ar0 ar1 ar2 ar3 af0 af1 af2 af3 ag0 ag1 ag2 ag3 H3 H0
            obtain ⟨h0, h1, h2, h3⟩ := HC.out _ (J1.trans J2)
            have bs0 := at_cell h0 0 _ rfl
            have bs1 := at_cell h0 1 _ rfl
            have bs2 := at_cell h0 2 _ rfl
            have bs3 := at_cell h0 3 _ rfl
            have bt0 := at_cell h1 0 _ rfl
            have bt1 := at_cell h1 1 _ rfl
            have bm0 := at_cell h2 0 _ rfl
            have bm1 := at_cell h2 1 _ rfl
            have bm2 := at_cell h2 2 _ rfl
            have bm3 := at_cell h2 3 _ rfl
            have bm4 := at_cell h2 4 _ rfl
            have bm5 := at_cell h2 5 _ rfl
            have bm6 := at_cell h2 6 _ rfl
            have bm7 := at_cell h2 7 _ rfl
            have bm8 := at_cell h2 8 _ rfl
            have br0 := at_cell h3 0 _ rfl
            have bf0 := one_free h3 0
            have bg0 := one_free h0 0
            have br1 := at_cell h3 1 _ rfl
            have bf1 := one_free h3 1
            have bg1 := one_free h0 1
            have br2 := at_cell h3 2 _ rfl
            have bf2 := one_free h3 2
            have bg2 := one_free h0 2
            have br3 := at_cell h3 3 _ rfl
            have bf3 := one_free h3 3
            have bg3 := one_free h0 3
            have H3 := Lib.hid h3
            have H0 := Lib.hid h0
            clear h0 h1 h2 h3
            have o4 := only_set4 V2 (w.heap.size + 3) (.int .i64 0) (.int .i64 0) (.int .i64 0) (.int .i64 0)
            obtain ⟨z0, z1, z2, z3⟩ := four_cells (four_set H3.out (.int .i64 0) (.int .i64 0) (.int .i64 0) (.int .i64 0))
            have KF := (K.trans (J1.trans J2)).onl o4 (by intro i hi; have := List.mem_singleton.1 hi; omega)
            clear H3 H0 o4
            go_wp2
            exact bodyPost_ret (v := .tuple #[.agg #[.int .i64 0, .int .i64 0, .int .i64 0, .int .i64 0], .int .i64 1]) (by simp [results, Try.results11, go_sem, z0, z1, z2, z3]) rfl ⟨by rw [hres.out], KF⟩
          · have d3 : (k == 1) = false := by simp [c4]
            by_cases c5 : k = 2
            · have d4 : (k == 2) = true := by simp [c5]
              by_cases c6 : E < o
              · have d5 : decide (E < o) = true := decide_eq_true c6
                have hres : Hid ((takeS ⟨who, ep, nx, ak⟩ (decide (GoodT T E)) (goodM ⟨k, f, t, e, o, p, la, ln, lc, ta, tn, tc, te⟩ L T2) E ⟨k, f, t, e, o, p, la, ln, lc, ta, tn, tc, te⟩ (meetI T E T2 te)) = (⟨0, 0, 0, 0⟩, 1)) := by unfold Hid takeS; rw [hgm]; simp [c1, c2, c3, c4, c5, c6]
                clear hgm c1 c2 c3 c4 c5
                go_enter Try.func11, Try.ntmps11
                go_wp2_with fail
                refine (HG1.out _ K).mono ?_
                rintro e1 V1 ⟨rfl, J1⟩
                obtain ⟨h0, h1, h2, h3⟩ := HC.out _ J1
                have as0 := at_cell h0 0 _ rfl
                have as1 := at_cell h0 1 _ rfl
                have as2 := at_cell h0 2 _ rfl
                have as3 := at_cell h0 3 _ rfl
                have at0 := at_cell h1 0 _ rfl
                have at1 := at_cell h1 1 _ rfl
                have am0 := at_cell h2 0 _ rfl
                have am1 := at_cell h2 1 _ rfl
                have am2 := at_cell h2 2 _ rfl
                have am3 := at_cell h2 3 _ rfl
                have am4 := at_cell h2 4 _ rfl
                have am5 := at_cell h2 5 _ rfl
                have am6 := at_cell h2 6 _ rfl
                have am7 := at_cell h2 7 _ rfl
                have am8 := at_cell h2 8 _ rfl
                have ar0 := at_cell h3 0 _ rfl
                have af0 := one_free h3 0
                have ag0 := one_free h0 0
                have ar1 := at_cell h3 1 _ rfl
                have af1 := one_free h3 1
                have ag1 := one_free h0 1
                have ar2 := at_cell h3 2 _ rfl
                have af2 := one_free h3 2
                have ag2 := one_free h0 2
                have ar3 := at_cell h3 3 _ rfl
                have af3 := one_free h3 3
                have ag3 := one_free h0 3
                have H3 := Lib.hid h3
                have H0 := Lib.hid h0
                clear h0 h1 h2 h3
                go_wp2_with fail
                refine (HG2.out _ (K.trans J1)).mono ?_
                rintro e2 V2 ⟨rfl, J2⟩
                clear as0 as1 as2 as3 at0 at1 am0 am1 am2 am3 am4 am5 am6 am7 am8 ar0 ar1 ar2 ar3 af0 af1 af2 af3 ag0 ag1 ag2 ag3 H3 H0
                obtain ⟨h0, h1, h2, h3⟩ := HC.out _ (J1.trans J2)
                have bs0 := at_cell h0 0 _ rfl
                have bs1 := at_cell h0 1 _ rfl
                have bs2 := at_cell h0 2 _ rfl
                have bs3 := at_cell h0 3 _ rfl
                have bt0 := at_cell h1 0 _ rfl
                have bt1 := at_cell h1 1 _ rfl
                have bm0 := at_cell h2 0 _ rfl
                have bm1 := at_cell h2 1 _ rfl
                have bm2 := at_cell h2 2 _ rfl
                have bm3 := at_cell h2 3 _ rfl
                have bm4 := at_cell h2 4 _ rfl
                have bm5 := at_cell h2 5 _ rfl
                have bm6 := at_cell h2 6 _ rfl
                have bm7 := at_cell h2 7 _ rfl
                have bm8 := at_cell h2 8 _ rfl
                have br0 := at_cell h3 0 _ rfl
                have bf0 := one_free h3 0
                have bg0 := one_free h0 0
                have br1 := at_cell h3 1 _ rfl
                have bf1 := one_free h3 1
                have bg1 := one_free h0 1
                have br2 := at_cell h3 2 _ rfl
                have bf2 := one_free h3 2
                have bg2 := one_free h0 2
                have br3 := at_cell h3 3 _ rfl
                have bf3 := one_free h3 3
                have bg3 := one_free h0 3
                have H3 := Lib.hid h3
                have H0 := Lib.hid h0
                clear h0 h1 h2 h3
                have o4 := only_set4 V2 (w.heap.size + 3) (.int .i64 0) (.int .i64 0) (.int .i64 0) (.int .i64 0)
                obtain ⟨z0, z1, z2, z3⟩ := four_cells (four_set H3.out (.int .i64 0) (.int .i64 0) (.int .i64 0) (.int .i64 0))
                have KF := (K.trans (J1.trans J2)).onl o4 (by intro i hi; have := List.mem_singleton.1 hi; omega)
                clear H3 H0 o4
                go_wp2
                exact bodyPost_ret (v := .tuple #[.agg #[.int .i64 0, .int .i64 0, .int .i64 0, .int .i64 0], .int .i64 1]) (by simp [results, Try.results11, go_sem, z0, z1, z2, z3]) rfl ⟨by rw [hres.out], KF⟩
              · have d5 : decide (E < o) = false := decide_eq_false c6
                have hres : Hid ((takeS ⟨who, ep, nx, ak⟩ (decide (GoodT T E)) (goodM ⟨k, f, t, e, o, p, la, ln, lc, ta, tn, tc, te⟩ L T2) E ⟨k, f, t, e, o, p, la, ln, lc, ta, tn, tc, te⟩ (meetI T E T2 te)) = (⟨who, ep, max nx o, max ak o⟩, 0)) := by unfold Hid takeS; rw [hgm]; simp [c1, c2, c3, c4, c5, c6]
                clear hgm c1 c2 c3 c4 c5
                go_enter Try.func11, Try.ntmps11
                go_wp2_with fail
                refine (HG1.out _ K).mono ?_
                rintro e1 V1 ⟨rfl, J1⟩
                obtain ⟨h0, h1, h2, h3⟩ := HC.out _ J1
                have as0 := at_cell h0 0 _ rfl
                have as1 := at_cell h0 1 _ rfl
                have as2 := at_cell h0 2 _ rfl
                have as3 := at_cell h0 3 _ rfl
                have at0 := at_cell h1 0 _ rfl
                have at1 := at_cell h1 1 _ rfl
                have am0 := at_cell h2 0 _ rfl
                have am1 := at_cell h2 1 _ rfl
                have am2 := at_cell h2 2 _ rfl
                have am3 := at_cell h2 3 _ rfl
                have am4 := at_cell h2 4 _ rfl
                have am5 := at_cell h2 5 _ rfl
                have am6 := at_cell h2 6 _ rfl
                have am7 := at_cell h2 7 _ rfl
                have am8 := at_cell h2 8 _ rfl
                have ar0 := at_cell h3 0 _ rfl
                have af0 := one_free h3 0
                have ag0 := one_free h0 0
                have ar1 := at_cell h3 1 _ rfl
                have af1 := one_free h3 1
                have ag1 := one_free h0 1
                have ar2 := at_cell h3 2 _ rfl
                have af2 := one_free h3 2
                have ag2 := one_free h0 2
                have ar3 := at_cell h3 3 _ rfl
                have af3 := one_free h3 3
                have ag3 := one_free h0 3
                have H3 := Lib.hid h3
                have H0 := Lib.hid h0
                clear h0 h1 h2 h3
                go_wp2_with fail
                refine (HG2.out _ (K.trans J1)).mono ?_
                rintro e2 V2 ⟨rfl, J2⟩
                clear as0 as1 as2 as3 at0 at1 am0 am1 am2 am3 am4 am5 am6 am7 am8 ar0 ar1 ar2 ar3 af0 af1 af2 af3 ag0 ag1 ag2 ag3 H3 H0
                obtain ⟨h0, h1, h2, h3⟩ := HC.out _ (J1.trans J2)
                have bs0 := at_cell h0 0 _ rfl
                have bs1 := at_cell h0 1 _ rfl
                have bs2 := at_cell h0 2 _ rfl
                have bs3 := at_cell h0 3 _ rfl
                have bt0 := at_cell h1 0 _ rfl
                have bt1 := at_cell h1 1 _ rfl
                have bm0 := at_cell h2 0 _ rfl
                have bm1 := at_cell h2 1 _ rfl
                have bm2 := at_cell h2 2 _ rfl
                have bm3 := at_cell h2 3 _ rfl
                have bm4 := at_cell h2 4 _ rfl
                have bm5 := at_cell h2 5 _ rfl
                have bm6 := at_cell h2 6 _ rfl
                have bm7 := at_cell h2 7 _ rfl
                have bm8 := at_cell h2 8 _ rfl
                have br0 := at_cell h3 0 _ rfl
                have bf0 := one_free h3 0
                have bg0 := one_free h0 0
                have br1 := at_cell h3 1 _ rfl
                have bf1 := one_free h3 1
                have bg1 := one_free h0 1
                have br2 := at_cell h3 2 _ rfl
                have bf2 := one_free h3 2
                have bg2 := one_free h0 2
                have br3 := at_cell h3 3 _ rfl
                have bf3 := one_free h3 3
                have bg3 := one_free h0 3
                have H3 := Lib.hid h3
                have H0 := Lib.hid h0
                clear h0 h1 h2 h3
                go_wp2_with fail
                · rw [show max ak o = o by omega, show max nx o = o by omega] at hres
                  have oB : Only [w.heap.size] V2 (((V2).setCell ⟨w.heap.size, 3, none⟩ (.int .i64 o)).setCell ⟨w.heap.size, 2, none⟩ (.int .i64 o)) := ((Only.refl _ _).setCell (fun _ => by simp) _).setCell (fun _ => by simp) _
                  have o4 := only_set4 (((V2).setCell ⟨w.heap.size, 3, none⟩ (.int .i64 o)).setCell ⟨w.heap.size, 2, none⟩ (.int .i64 o)) (w.heap.size + 3) (.int .i64 who) (.int .i64 ep) (.int .i64 o) (.int .i64 o)
                  obtain ⟨z0, z1, z2, z3⟩ := four_cells (four_set (oB.heap H3.out (by simp)) (.int .i64 who) (.int .i64 ep) (.int .i64 o) (.int .i64 o))
                  have KF := ((K.trans (J1.trans J2)).onl oB (by intro i hi; have := List.mem_singleton.1 hi; omega)).onl o4 (by intro i hi; have := List.mem_singleton.1 hi; omega)
                  exact bodyPost_ret (v := .tuple #[.agg #[.int .i64 who, .int .i64 ep, .int .i64 o, .int .i64 o], .int .i64 0]) (by simp [results, Try.results11, go_sem, z0, z1, z2, z3]) rfl ⟨by rw [hres.out], KF⟩
                · rw [show max ak o = o by omega, show max nx o = nx by omega] at hres
                  have oB : Only [w.heap.size] V2 (((V2).setCell ⟨w.heap.size, 3, none⟩ (.int .i64 o)).setCell ⟨w.heap.size, 2, none⟩ (.int .i64 nx)) := ((Only.refl _ _).setCell (fun _ => by simp) _).setCell (fun _ => by simp) _
                  have o4 := only_set4 (((V2).setCell ⟨w.heap.size, 3, none⟩ (.int .i64 o)).setCell ⟨w.heap.size, 2, none⟩ (.int .i64 nx)) (w.heap.size + 3) (.int .i64 who) (.int .i64 ep) (.int .i64 nx) (.int .i64 o)
                  obtain ⟨z0, z1, z2, z3⟩ := four_cells (four_set (oB.heap H3.out (by simp)) (.int .i64 who) (.int .i64 ep) (.int .i64 nx) (.int .i64 o))
                  have KF := ((K.trans (J1.trans J2)).onl oB (by intro i hi; have := List.mem_singleton.1 hi; omega)).onl o4 (by intro i hi; have := List.mem_singleton.1 hi; omega)
                  exact bodyPost_ret (v := .tuple #[.agg #[.int .i64 who, .int .i64 ep, .int .i64 nx, .int .i64 o], .int .i64 0]) (by simp [results, Try.results11, go_sem, z0, z1, z2, z3]) rfl ⟨by rw [hres.out], KF⟩
                · rw [show max ak o = ak by omega, show max nx o = o by omega] at hres
                  have oB : Only [w.heap.size] V2 (((V2).setCell ⟨w.heap.size, 3, none⟩ (.int .i64 ak)).setCell ⟨w.heap.size, 2, none⟩ (.int .i64 o)) := ((Only.refl _ _).setCell (fun _ => by simp) _).setCell (fun _ => by simp) _
                  have o4 := only_set4 (((V2).setCell ⟨w.heap.size, 3, none⟩ (.int .i64 ak)).setCell ⟨w.heap.size, 2, none⟩ (.int .i64 o)) (w.heap.size + 3) (.int .i64 who) (.int .i64 ep) (.int .i64 o) (.int .i64 ak)
                  obtain ⟨z0, z1, z2, z3⟩ := four_cells (four_set (oB.heap H3.out (by simp)) (.int .i64 who) (.int .i64 ep) (.int .i64 o) (.int .i64 ak))
                  have KF := ((K.trans (J1.trans J2)).onl oB (by intro i hi; have := List.mem_singleton.1 hi; omega)).onl o4 (by intro i hi; have := List.mem_singleton.1 hi; omega)
                  exact bodyPost_ret (v := .tuple #[.agg #[.int .i64 who, .int .i64 ep, .int .i64 o, .int .i64 ak], .int .i64 0]) (by simp [results, Try.results11, go_sem, z0, z1, z2, z3]) rfl ⟨by rw [hres.out], KF⟩
                · rw [show max ak o = ak by omega, show max nx o = nx by omega] at hres
                  have oB : Only [w.heap.size] V2 (((V2).setCell ⟨w.heap.size, 3, none⟩ (.int .i64 ak)).setCell ⟨w.heap.size, 2, none⟩ (.int .i64 nx)) := ((Only.refl _ _).setCell (fun _ => by simp) _).setCell (fun _ => by simp) _
                  have o4 := only_set4 (((V2).setCell ⟨w.heap.size, 3, none⟩ (.int .i64 ak)).setCell ⟨w.heap.size, 2, none⟩ (.int .i64 nx)) (w.heap.size + 3) (.int .i64 who) (.int .i64 ep) (.int .i64 nx) (.int .i64 ak)
                  obtain ⟨z0, z1, z2, z3⟩ := four_cells (four_set (oB.heap H3.out (by simp)) (.int .i64 who) (.int .i64 ep) (.int .i64 nx) (.int .i64 ak))
                  have KF := ((K.trans (J1.trans J2)).onl oB (by intro i hi; have := List.mem_singleton.1 hi; omega)).onl o4 (by intro i hi; have := List.mem_singleton.1 hi; omega)
                  exact bodyPost_ret (v := .tuple #[.agg #[.int .i64 who, .int .i64 ep, .int .i64 nx, .int .i64 ak], .int .i64 0]) (by simp [results, Try.results11, go_sem, z0, z1, z2, z3]) rfl ⟨by rw [hres.out], KF⟩
            · have d4 : (k == 2) = false := by simp [c5]
              have hres : Hid ((takeS ⟨who, ep, nx, ak⟩ (decide (GoodT T E)) (goodM ⟨k, f, t, e, o, p, la, ln, lc, ta, tn, tc, te⟩ L T2) E ⟨k, f, t, e, o, p, la, ln, lc, ta, tn, tc, te⟩ (meetI T E T2 te)) = (⟨who, ep, meetI T E T2 te, ak⟩, 0)) := by unfold Hid takeS; rw [hgm]; simp [c1, c2, c3, c4, c5]
              clear hgm c1 c2 c3 c4 c5
              go_enter Try.func11, Try.ntmps11
              go_wp2_with fail
              refine (HG1.out _ K).mono ?_
              rintro e1 V1 ⟨rfl, J1⟩
              obtain ⟨h0, h1, h2, h3⟩ := HC.out _ J1
              have as0 := at_cell h0 0 _ rfl
              have as1 := at_cell h0 1 _ rfl
              have as2 := at_cell h0 2 _ rfl
              have as3 := at_cell h0 3 _ rfl
              have at0 := at_cell h1 0 _ rfl
              have at1 := at_cell h1 1 _ rfl
              have am0 := at_cell h2 0 _ rfl
              have am1 := at_cell h2 1 _ rfl
              have am2 := at_cell h2 2 _ rfl
              have am3 := at_cell h2 3 _ rfl
              have am4 := at_cell h2 4 _ rfl
              have am5 := at_cell h2 5 _ rfl
              have am6 := at_cell h2 6 _ rfl
              have am7 := at_cell h2 7 _ rfl
              have am8 := at_cell h2 8 _ rfl
              have ar0 := at_cell h3 0 _ rfl
              have af0 := one_free h3 0
              have ag0 := one_free h0 0
              have ar1 := at_cell h3 1 _ rfl
              have af1 := one_free h3 1
              have ag1 := one_free h0 1
              have ar2 := at_cell h3 2 _ rfl
              have af2 := one_free h3 2
              have ag2 := one_free h0 2
              have ar3 := at_cell h3 3 _ rfl
              have af3 := one_free h3 3
              have ag3 := one_free h0 3
              have H3 := Lib.hid h3
              have H0 := Lib.hid h0
              clear h0 h1 h2 h3
              go_wp2_with fail
              refine (HG2.out _ (K.trans J1)).mono ?_
              rintro e2 V2 ⟨rfl, J2⟩
              clear as0 as1 as2 as3 at0 at1 am0 am1 am2 am3 am4 am5 am6 am7 am8 ar0 ar1 ar2 ar3 af0 af1 af2 af3 ag0 ag1 ag2 ag3 H3 H0
              obtain ⟨h0, h1, h2, h3⟩ := HC.out _ (J1.trans J2)
              have bs0 := at_cell h0 0 _ rfl
              have bs1 := at_cell h0 1 _ rfl
              have bs2 := at_cell h0 2 _ rfl
              have bs3 := at_cell h0 3 _ rfl
              have bt0 := at_cell h1 0 _ rfl
              have bt1 := at_cell h1 1 _ rfl
              have bm0 := at_cell h2 0 _ rfl
              have bm1 := at_cell h2 1 _ rfl
              have bm2 := at_cell h2 2 _ rfl
              have bm3 := at_cell h2 3 _ rfl
              have bm4 := at_cell h2 4 _ rfl
              have bm5 := at_cell h2 5 _ rfl
              have bm6 := at_cell h2 6 _ rfl
              have bm7 := at_cell h2 7 _ rfl
              have bm8 := at_cell h2 8 _ rfl
              have br0 := at_cell h3 0 _ rfl
              have bf0 := one_free h3 0
              have bg0 := one_free h0 0
              have br1 := at_cell h3 1 _ rfl
              have bf1 := one_free h3 1
              have bg1 := one_free h0 1
              have br2 := at_cell h3 2 _ rfl
              have bf2 := one_free h3 2
              have bg2 := one_free h0 2
              have br3 := at_cell h3 3 _ rfl
              have bf3 := one_free h3 3
              have bg3 := one_free h0 3
              have H3 := Lib.hid h3
              have H0 := Lib.hid h0
              clear h0 h1 h2 h3
              go_wp2_with fail
              refine (HM.out _ (K.trans (J1.trans J2))).mono ?_
              rintro e3 V3 ⟨rfl, J3⟩
              clear bs0 bs1 bs2 bs3 bt0 bt1 bm0 bm1 bm2 bm3 bm4 bm5 bm6 bm7 bm8 br0 br1 br2 br3 bf0 bf1 bf2 bf3 bg0 bg1 bg2 bg3 H3 H0
              obtain ⟨h0, h1, h2, h3⟩ := HC.out _ ((J1.trans J2).trans J3)
              have ds0 := at_cell h0 0 _ rfl
              have ds1 := at_cell h0 1 _ rfl
              have ds2 := at_cell h0 2 _ rfl
              have ds3 := at_cell h0 3 _ rfl
              have dt0 := at_cell h1 0 _ rfl
              have dt1 := at_cell h1 1 _ rfl
              have dm0 := at_cell h2 0 _ rfl
              have dm1 := at_cell h2 1 _ rfl
              have dm2 := at_cell h2 2 _ rfl
              have dm3 := at_cell h2 3 _ rfl
              have dm4 := at_cell h2 4 _ rfl
              have dm5 := at_cell h2 5 _ rfl
              have dm6 := at_cell h2 6 _ rfl
              have dm7 := at_cell h2 7 _ rfl
              have dm8 := at_cell h2 8 _ rfl
              have dr0 := at_cell h3 0 _ rfl
              have df0 := one_free h3 0
              have dg0 := one_free h0 0
              have dr1 := at_cell h3 1 _ rfl
              have df1 := one_free h3 1
              have dg1 := one_free h0 1
              have dr2 := at_cell h3 2 _ rfl
              have df2 := one_free h3 2
              have dg2 := one_free h0 2
              have dr3 := at_cell h3 3 _ rfl
              have df3 := one_free h3 3
              have dg3 := one_free h0 3
              have H3 := Lib.hid h3
              have H0 := Lib.hid h0
              clear h0 h1 h2 h3
              go_wp2_with fail
              have oB : Only [w.heap.size] V3 ((V3).setCell ⟨w.heap.size, 2, none⟩ (.int .i64 (meetI T E T2 te))) := (Only.refl _ _).setCell (fun _ => by simp) _
              have o4 := only_set4 ((V3).setCell ⟨w.heap.size, 2, none⟩ (.int .i64 (meetI T E T2 te))) (w.heap.size + 3) (.int .i64 who) (.int .i64 ep) (.int .i64 (meetI T E T2 te)) (.int .i64 ak)
              obtain ⟨z0, z1, z2, z3⟩ := four_cells (four_set (oB.heap H3.out (by simp)) (.int .i64 who) (.int .i64 ep) (.int .i64 (meetI T E T2 te)) (.int .i64 ak))
              have KF := ((K.trans ((J1.trans J2).trans J3)).onl oB (by intro i hi; have := List.mem_singleton.1 hi; omega)).onl o4 (by intro i hi; have := List.mem_singleton.1 hi; omega)
              exact bodyPost_ret (v := .tuple #[.agg #[.int .i64 who, .int .i64 ep, .int .i64 (meetI T E T2 te), .int .i64 ak], .int .i64 0]) (by simp [results, Try.results11, go_sem, z0, z1, z2, z3]) rfl ⟨by rw [hres.out], KF⟩
        · have d2 : (e != ep) = true := by simp [c3]
          have hres : Hid ((takeS ⟨who, ep, nx, ak⟩ (decide (GoodT T E)) (goodM ⟨k, f, t, e, o, p, la, ln, lc, ta, tn, tc, te⟩ L T2) E ⟨k, f, t, e, o, p, la, ln, lc, ta, tn, tc, te⟩ (meetI T E T2 te)) = (⟨0, 0, 0, 0⟩, 8)) := by unfold Hid takeS; rw [hgm]; simp [c1, c2, c3]
          clear hgm c1 c2 c3
          go_enter Try.func11, Try.ntmps11
          go_wp2_with fail
          refine (HG1.out _ K).mono ?_
          rintro e1 V1 ⟨rfl, J1⟩
          obtain ⟨h0, h1, h2, h3⟩ := HC.out _ J1
          have as0 := at_cell h0 0 _ rfl
          have as1 := at_cell h0 1 _ rfl
          have as2 := at_cell h0 2 _ rfl
          have as3 := at_cell h0 3 _ rfl
          have at0 := at_cell h1 0 _ rfl
          have at1 := at_cell h1 1 _ rfl
          have am0 := at_cell h2 0 _ rfl
          have am1 := at_cell h2 1 _ rfl
          have am2 := at_cell h2 2 _ rfl
          have am3 := at_cell h2 3 _ rfl
          have am4 := at_cell h2 4 _ rfl
          have am5 := at_cell h2 5 _ rfl
          have am6 := at_cell h2 6 _ rfl
          have am7 := at_cell h2 7 _ rfl
          have am8 := at_cell h2 8 _ rfl
          have ar0 := at_cell h3 0 _ rfl
          have af0 := one_free h3 0
          have ag0 := one_free h0 0
          have ar1 := at_cell h3 1 _ rfl
          have af1 := one_free h3 1
          have ag1 := one_free h0 1
          have ar2 := at_cell h3 2 _ rfl
          have af2 := one_free h3 2
          have ag2 := one_free h0 2
          have ar3 := at_cell h3 3 _ rfl
          have af3 := one_free h3 3
          have ag3 := one_free h0 3
          have H3 := Lib.hid h3
          have H0 := Lib.hid h0
          clear h0 h1 h2 h3
          go_wp2_with fail
          refine (HG2.out _ (K.trans J1)).mono ?_
          rintro e2 V2 ⟨rfl, J2⟩
          clear as0 as1 as2 as3 at0 at1 am0 am1 am2 am3 am4 am5 am6 am7 am8 ar0 ar1 ar2 ar3 af0 af1 af2 af3 ag0 ag1 ag2 ag3 H3 H0
          obtain ⟨h0, h1, h2, h3⟩ := HC.out _ (J1.trans J2)
          have bs0 := at_cell h0 0 _ rfl
          have bs1 := at_cell h0 1 _ rfl
          have bs2 := at_cell h0 2 _ rfl
          have bs3 := at_cell h0 3 _ rfl
          have bt0 := at_cell h1 0 _ rfl
          have bt1 := at_cell h1 1 _ rfl
          have bm0 := at_cell h2 0 _ rfl
          have bm1 := at_cell h2 1 _ rfl
          have bm2 := at_cell h2 2 _ rfl
          have bm3 := at_cell h2 3 _ rfl
          have bm4 := at_cell h2 4 _ rfl
          have bm5 := at_cell h2 5 _ rfl
          have bm6 := at_cell h2 6 _ rfl
          have bm7 := at_cell h2 7 _ rfl
          have bm8 := at_cell h2 8 _ rfl
          have br0 := at_cell h3 0 _ rfl
          have bf0 := one_free h3 0
          have bg0 := one_free h0 0
          have br1 := at_cell h3 1 _ rfl
          have bf1 := one_free h3 1
          have bg1 := one_free h0 1
          have br2 := at_cell h3 2 _ rfl
          have bf2 := one_free h3 2
          have bg2 := one_free h0 2
          have br3 := at_cell h3 3 _ rfl
          have bf3 := one_free h3 3
          have bg3 := one_free h0 3
          have H3 := Lib.hid h3
          have H0 := Lib.hid h0
          clear h0 h1 h2 h3
          have o4 := only_set4 V2 (w.heap.size + 3) (.int .i64 0) (.int .i64 0) (.int .i64 0) (.int .i64 0)
          obtain ⟨z0, z1, z2, z3⟩ := four_cells (four_set H3.out (.int .i64 0) (.int .i64 0) (.int .i64 0) (.int .i64 0))
          have KF := (K.trans (J1.trans J2)).onl o4 (by intro i hi; have := List.mem_singleton.1 hi; omega)
          clear H3 H0 o4
          go_wp2
          exact bodyPost_ret (v := .tuple #[.agg #[.int .i64 0, .int .i64 0, .int .i64 0, .int .i64 0], .int .i64 8]) (by simp [results, Try.results11, go_sem, z0, z1, z2, z3]) rfl ⟨by rw [hres.out], KF⟩
      · have d1 : (t != who) = true := by simp [c2]
        have hres : Hid ((takeS ⟨who, ep, nx, ak⟩ (decide (GoodT T E)) (goodM ⟨k, f, t, e, o, p, la, ln, lc, ta, tn, tc, te⟩ L T2) E ⟨k, f, t, e, o, p, la, ln, lc, ta, tn, tc, te⟩ (meetI T E T2 te)) = (⟨0, 0, 0, 0⟩, 1)) := by unfold Hid takeS; rw [hgm]; simp [c1, c2]
        clear hgm c1 c2
        go_enter Try.func11, Try.ntmps11
        go_wp2_with fail
        refine (HG1.out _ K).mono ?_
        rintro e1 V1 ⟨rfl, J1⟩
        obtain ⟨h0, h1, h2, h3⟩ := HC.out _ J1
        have as0 := at_cell h0 0 _ rfl
        have as1 := at_cell h0 1 _ rfl
        have as2 := at_cell h0 2 _ rfl
        have as3 := at_cell h0 3 _ rfl
        have at0 := at_cell h1 0 _ rfl
        have at1 := at_cell h1 1 _ rfl
        have am0 := at_cell h2 0 _ rfl
        have am1 := at_cell h2 1 _ rfl
        have am2 := at_cell h2 2 _ rfl
        have am3 := at_cell h2 3 _ rfl
        have am4 := at_cell h2 4 _ rfl
        have am5 := at_cell h2 5 _ rfl
        have am6 := at_cell h2 6 _ rfl
        have am7 := at_cell h2 7 _ rfl
        have am8 := at_cell h2 8 _ rfl
        have ar0 := at_cell h3 0 _ rfl
        have af0 := one_free h3 0
        have ag0 := one_free h0 0
        have ar1 := at_cell h3 1 _ rfl
        have af1 := one_free h3 1
        have ag1 := one_free h0 1
        have ar2 := at_cell h3 2 _ rfl
        have af2 := one_free h3 2
        have ag2 := one_free h0 2
        have ar3 := at_cell h3 3 _ rfl
        have af3 := one_free h3 3
        have ag3 := one_free h0 3
        have H3 := Lib.hid h3
        have H0 := Lib.hid h0
        clear h0 h1 h2 h3
        go_wp2_with fail
        refine (HG2.out _ (K.trans J1)).mono ?_
        rintro e2 V2 ⟨rfl, J2⟩
        clear as0 as1 as2 as3 at0 at1 am0 am1 am2 am3 am4 am5 am6 am7 am8 ar0 ar1 ar2 ar3 af0 af1 af2 af3 ag0 ag1 ag2 ag3 H3 H0
        obtain ⟨h0, h1, h2, h3⟩ := HC.out _ (J1.trans J2)
        have bs0 := at_cell h0 0 _ rfl
        have bs1 := at_cell h0 1 _ rfl
        have bs2 := at_cell h0 2 _ rfl
        have bs3 := at_cell h0 3 _ rfl
        have bt0 := at_cell h1 0 _ rfl
        have bt1 := at_cell h1 1 _ rfl
        have bm0 := at_cell h2 0 _ rfl
        have bm1 := at_cell h2 1 _ rfl
        have bm2 := at_cell h2 2 _ rfl
        have bm3 := at_cell h2 3 _ rfl
        have bm4 := at_cell h2 4 _ rfl
        have bm5 := at_cell h2 5 _ rfl
        have bm6 := at_cell h2 6 _ rfl
        have bm7 := at_cell h2 7 _ rfl
        have bm8 := at_cell h2 8 _ rfl
        have br0 := at_cell h3 0 _ rfl
        have bf0 := one_free h3 0
        have bg0 := one_free h0 0
        have br1 := at_cell h3 1 _ rfl
        have bf1 := one_free h3 1
        have bg1 := one_free h0 1
        have br2 := at_cell h3 2 _ rfl
        have bf2 := one_free h3 2
        have bg2 := one_free h0 2
        have br3 := at_cell h3 3 _ rfl
        have bf3 := one_free h3 3
        have bg3 := one_free h0 3
        have H3 := Lib.hid h3
        have H0 := Lib.hid h0
        clear h0 h1 h2 h3
        have o4 := only_set4 V2 (w.heap.size + 3) (.int .i64 0) (.int .i64 0) (.int .i64 0) (.int .i64 0)
        obtain ⟨z0, z1, z2, z3⟩ := four_cells (four_set H3.out (.int .i64 0) (.int .i64 0) (.int .i64 0) (.int .i64 0))
        have KF := (K.trans (J1.trans J2)).onl o4 (by intro i hi; have := List.mem_singleton.1 hi; omega)
        clear H3 H0 o4
        go_wp2
        exact bodyPost_ret (v := .tuple #[.agg #[.int .i64 0, .int .i64 0, .int .i64 0, .int .i64 0], .int .i64 1]) (by simp [results, Try.results11, go_sem, z0, z1, z2, z3]) rfl ⟨by rw [hres.out], KF⟩
  · rw [decide_eq_false c1] at HG1
    have hres : Hid ((takeS ⟨who, ep, nx, ak⟩ (decide (GoodT T E)) (goodM ⟨k, f, t, e, o, p, la, ln, lc, ta, tn, tc, te⟩ L T2) E ⟨k, f, t, e, o, p, la, ln, lc, ta, tn, tc, te⟩ (meetI T E T2 te)) = (⟨0, 0, 0, 0⟩, 1)) := by unfold Hid takeS; simp [c1]
    clear c1
    go_enter Try.func11, Try.ntmps11
    go_wp2_with fail
    refine (HG1.out _ K).mono ?_
    rintro e1 V1 ⟨rfl, J1⟩
    obtain ⟨h0, h1, h2, h3⟩ := HC.out _ J1
    have as0 := at_cell h0 0 _ rfl
    have as1 := at_cell h0 1 _ rfl
    have as2 := at_cell h0 2 _ rfl
    have as3 := at_cell h0 3 _ rfl
    have at0 := at_cell h1 0 _ rfl
    have at1 := at_cell h1 1 _ rfl
    have am0 := at_cell h2 0 _ rfl
    have am1 := at_cell h2 1 _ rfl
    have am2 := at_cell h2 2 _ rfl
    have am3 := at_cell h2 3 _ rfl
    have am4 := at_cell h2 4 _ rfl
    have am5 := at_cell h2 5 _ rfl
    have am6 := at_cell h2 6 _ rfl
    have am7 := at_cell h2 7 _ rfl
    have am8 := at_cell h2 8 _ rfl
    have ar0 := at_cell h3 0 _ rfl
    have af0 := one_free h3 0
    have ag0 := one_free h0 0
    have ar1 := at_cell h3 1 _ rfl
    have af1 := one_free h3 1
    have ag1 := one_free h0 1
    have ar2 := at_cell h3 2 _ rfl
    have af2 := one_free h3 2
    have ag2 := one_free h0 2
    have ar3 := at_cell h3 3 _ rfl
    have af3 := one_free h3 3
    have ag3 := one_free h0 3
    have H3 := Lib.hid h3
    have H0 := Lib.hid h0
    clear h0 h1 h2 h3
    have o4 := only_set4 V1 (w.heap.size + 3) (.int .i64 0) (.int .i64 0) (.int .i64 0) (.int .i64 0)
    obtain ⟨z0, z1, z2, z3⟩ := four_cells (four_set H3.out (.int .i64 0) (.int .i64 0) (.int .i64 0) (.int .i64 0))
    have KF := (K.trans J1).onl o4 (by intro i hi; have := List.mem_singleton.1 hi; omega)
    clear H3 H0 o4
    go_wp2
    exact bodyPost_ret (v := .tuple #[.agg #[.int .i64 0, .int .i64 0, .int .i64 0, .int .i64 0], .int .i64 1]) (by simp [results, Try.results11, go_sem, z0, z1, z2, z3]) rfl ⟨by rw [hres.out], KF⟩
end Go.Proofs.Ytmkoabalakfehaa
