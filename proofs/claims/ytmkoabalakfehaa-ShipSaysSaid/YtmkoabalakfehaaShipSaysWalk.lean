/- ShipSays: the walk. -/
import Derived.Test.YtmkoabalakfehaaShipSaysM
import Derived.Deep.RegionHeld3
import Derived.Deep.Cut
import Derived.Deep.CutRange
set_option linter.unusedVariables false
set_option linter.unusedSimpArgs false
namespace Go.Proofs.Ytmkoabalakfehaa
open Go.RowKit
set_option maxRecDepth 100000 in
set_option maxHeartbeats 24000000 in
theorem shSays_walk (who ep nx ak E sure : Int) (solo : Bool) (ta : Option Addr) (tn tc : Nat) (T : List Int) (la : Option Addr) (ln lc : Nat) (R : List RV) (L : List (Int × List Int)) (k f t e o p mte : Int) (ma : Option Addr) (mn mc : Nat) (mta : Option Addr) (mtn mtc : Nat) (MR : List RV) (ML : List (Int × List Int)) (T2 : List Int) (w : World)
    (hT : Sl .u64 w ta tn tc T) (wT : IsW T) (hQ : SlQ w la ln lc R) (hB : BytesAt w R L) (hLw : ∀ l ∈ L, 0 ≤ l.1 ∧ l.1 ≤ 18446744073709551615) (hQM : SlQ w ma mn mc MR) (hBM : BytesAt w MR ML) (hMw : ∀ l ∈ ML, 0 ≤ l.1 ∧ l.1 ≤ 18446744073709551615) (hT2 : Sl .u64 w mta mtn mtc T2) (wT2 : IsW T2) (hnx : -9223372036854775808 ≤ nx) :
    Calls Try.prog 5 #[.agg #[.int .i64 who, .int .i64 ep, .int .i64 nx, .int .i64 ak], .agg #[.slice ta tn tc, .int .i64 E], .slice la ln lc, .agg #[.int .i64 k, .int .i64 f, .int .i64 t, .int .i64 e, .int .i64 o, .int .i64 p, .slice ma mn mc, .slice mta mtn mtc, .int .i64 mte], .int .i64 sure, .bool solo] w fun e' w' => e' = .returned (.bool true) ∧ Kept w w' := by
  have KX : Kept w (((w.alloc (.cells #[.int .i64 who, .int .i64 ep, .int .i64 nx, .int .i64 ak] 29)).alloc (.cells #[.slice ta tn tc, .int .i64 E] 24)).alloc (.cells #[.int .i64 k, .int .i64 f, .int .i64 t, .int .i64 e, .int .i64 o, .int .i64 p, .slice ma mn mc, .slice mta mtn mtc, .int .i64 mte] 36)) := ((kept_al w _).trans (kept_al _ _)).trans (kept_al _ _)
  have h0 : (((w.alloc (.cells #[.int .i64 who, .int .i64 ep, .int .i64 nx, .int .i64 ak] 29)).alloc (.cells #[.slice ta tn tc, .int .i64 E] 24)).alloc (.cells #[.int .i64 k, .int .i64 f, .int .i64 t, .int .i64 e, .int .i64 o, .int .i64 p, .slice ma mn mc, .slice mta mtn mtc, .int .i64 mte] 36)).heap[w.heap.size]? = some (.cells #[.int .i64 who, .int .i64 ep, .int .i64 nx, .int .i64 ak] 29 (0, 0)) := ((kept_al _ _).trans (kept_al _ _)).only.heap (heap_alloc_new w _) (by simp)
  have h1 : (((w.alloc (.cells #[.int .i64 who, .int .i64 ep, .int .i64 nx, .int .i64 ak] 29)).alloc (.cells #[.slice ta tn tc, .int .i64 E] 24)).alloc (.cells #[.int .i64 k, .int .i64 f, .int .i64 t, .int .i64 e, .int .i64 o, .int .i64 p, .slice ma mn mc, .slice mta mtn mtc, .int .i64 mte] 36)).heap[w.heap.size + 1]? = some (.cells #[.slice ta tn tc, .int .i64 E] 24 (0, 0)) := (kept_al _ _).only.heap (new_at _ (by simp)) (by simp)
  have h2 : (((w.alloc (.cells #[.int .i64 who, .int .i64 ep, .int .i64 nx, .int .i64 ak] 29)).alloc (.cells #[.slice ta tn tc, .int .i64 E] 24)).alloc (.cells #[.int .i64 k, .int .i64 f, .int .i64 t, .int .i64 e, .int .i64 o, .int .i64 p, .slice ma mn mc, .slice mta mtn mtc, .int .i64 mte] 36)).heap[w.heap.size + 1 + 1]? = some (.cells #[.int .i64 k, .int .i64 f, .int .i64 t, .int .i64 e, .int .i64 o, .int .i64 p, .slice ma mn mc, .slice mta mtn mtc, .int .i64 mte] 36 (0, 0)) := new_at _ (by simp)
  have H6 : Hid (∀ Z, Kept (((w.alloc (.cells #[.int .i64 who, .int .i64 ep, .int .i64 nx, .int .i64 ak] 29)).alloc (.cells #[.slice ta tn tc, .int .i64 E] 24)).alloc (.cells #[.int .i64 k, .int .i64 f, .int .i64 t, .int .i64 e, .int .i64 o, .int .i64 p, .slice ma mn mc, .slice mta mtn mtc, .int .i64 mte] 36)) Z → Z.cell? ⟨w.heap.size, 0, none⟩ = some (.int .i64 who) ∧ Z.cell? ⟨w.heap.size, 1, none⟩ = some (.int .i64 ep) ∧ Z.cell? ⟨w.heap.size, 2, none⟩ = some (.int .i64 nx) ∧ Z.cell? ⟨w.heap.size, 3, none⟩ = some (.int .i64 ak)) := fun Z kk => by
    obtain ⟨s0, s1, s2, s3⟩ := four_cells h0
    exact ⟨kk.cel s0, kk.cel s1, kk.cel s2, kk.cel s3⟩
  have H7 : Hid (∀ Z, Kept (((w.alloc (.cells #[.int .i64 who, .int .i64 ep, .int .i64 nx, .int .i64 ak] 29)).alloc (.cells #[.slice ta tn tc, .int .i64 E] 24)).alloc (.cells #[.int .i64 k, .int .i64 f, .int .i64 t, .int .i64 e, .int .i64 o, .int .i64 p, .slice ma mn mc, .slice mta mtn mtc, .int .i64 mte] 36)) Z → Z.cell? ⟨w.heap.size + 1, 0, none⟩ = some (.slice ta tn tc) ∧ Z.cell? ⟨w.heap.size + 1, 1, none⟩ = some (.int .i64 E)) := fun Z kk => by
    obtain ⟨s0, s1⟩ := two_cells h1
    exact ⟨kk.cel s0, kk.cel s1⟩
  have H9 : Hid (∀ Z, Kept (((w.alloc (.cells #[.int .i64 who, .int .i64 ep, .int .i64 nx, .int .i64 ak] 29)).alloc (.cells #[.slice ta tn tc, .int .i64 E] 24)).alloc (.cells #[.int .i64 k, .int .i64 f, .int .i64 t, .int .i64 e, .int .i64 o, .int .i64 p, .slice ma mn mc, .slice mta mtn mtc, .int .i64 mte] 36)) Z → Z.cell? ⟨w.heap.size + 1 + 1, 0, none⟩ = some (.int .i64 k) ∧ Z.cell? ⟨w.heap.size + 1 + 1, 1, none⟩ = some (.int .i64 f) ∧ Z.cell? ⟨w.heap.size + 1 + 1, 2, none⟩ = some (.int .i64 t) ∧ Z.cell? ⟨w.heap.size + 1 + 1, 3, none⟩ = some (.int .i64 e) ∧ Z.cell? ⟨w.heap.size + 1 + 1, 4, none⟩ = some (.int .i64 o) ∧ Z.cell? ⟨w.heap.size + 1 + 1, 5, none⟩ = some (.int .i64 p) ∧ Z.cell? ⟨w.heap.size + 1 + 1, 6, none⟩ = some (.slice ma mn mc) ∧ Z.cell? ⟨w.heap.size + 1 + 1, 7, none⟩ = some (.slice mta mtn mtc) ∧ Z.cell? ⟨w.heap.size + 1 + 1, 8, none⟩ = some (.int .i64 mte)) := fun Z kk => by
    obtain ⟨s0, s1, s2, s3, s4, s5, s6, s7, s8⟩ := nine_cells h2
    exact ⟨kk.cel s0, kk.cel s1, kk.cel s2, kk.cel s3, kk.cel s4, kk.cel s5, kk.cel s6, kk.cel s7, kk.cel s8⟩
  have hne67 : w.heap.size ≠ w.heap.size + 1 := by omega
  clear h0 h1 h2
  have i1 := hQ.2.1
  have i2 := hQ.2.2.1
  have j1 := hT2.2.1
  have j2 := hT2.2.2.1
  have l1 := hT.2.1
  have l2 := hT.2.2.1
  unfold maxLen at i2 j2 l2
  have HT := Lib.hid hT
  have HQ := Lib.hid hQ
  have HB := Lib.hid hB
  have HLw := Lib.hid hLw
  have HQM := Lib.hid hQM
  have HBM := Lib.hid hBM
  have HMw := Lib.hid hMw
  have HT2 := Lib.hid hT2
  have WT := Lib.hid wT
  have WT2 := Lib.hid wT2
  have hrl := hQ.1
  have hHv := fun W (kk : Kept w W) => sh_heavy2 ⟨k, f, t, e, o, p, ma, mn, mc, mta, mtn, mtc, mte⟩ (rvM MR) W (hQM.kept kk).slM hT2.2.1 hT2.2.2.1
  unfold MV.cs at hHv
  have HHv := Lib.hid hHv
  try dsimp only at HHv
  clear hT wT hQ hB hLw hQM hBM hMw hT2 wT2 hHv
  go_enter Try.func5, Try.ntmps5
  go_wp2_with fail
  generalize World.alloc (World.alloc (World.alloc w _) _) _ = X at *
  generalize w.heap.size + 1 + 1 = p9 at *
  generalize w.heap.size + 1 = p7 at *
  generalize w.heap.size = p6 at *
  refine (awake23 _).mono ?_
  rintro e' w1 ⟨rfl, K1⟩
  obtain ⟨m0, m1, m2, m3, m4, m5, m6, m7, m8⟩ := H9.out _ K1
  go_wp2_with fail
  clear m0 m1 m2 m3 m4 m5 m6 m7 m8
  refine (HHv.out w1 (KX.trans K1)).mono ?_
  rintro e' w2 ⟨(rfl | ⟨rfl, hh1, hh2, hh3⟩), J⟩
  · go_wp2_with fail
    exact bodyPost_ret (v := .bool true) (by simp [results, Try.results5, go_sem]) rfl ⟨rfl, KX.trans (K1.trans J)⟩
  have K2 : Kept X w2 := K1.trans J
  clear HHv J K1 hh3
  obtain ⟨y0, y1⟩ := H7.out _ K2
  by_cases hn40 : 40 < (tn : Int)
  · go_wp2_with fail
    exact bodyPost_ret (v := .bool true) (by simp [results, Try.results5, go_sem]) rfl ⟨rfl, KX.trans K2⟩
  by_cases hn20 : 20 < (ln : Int)
  · go_wp2_with fail
    exact bodyPost_ret (v := .bool true) (by simp [results, Try.results5, go_sem]) rfl ⟨rfl, KX.trans K2⟩
  have htn : tn ≤ 40 := by omega
  have hln : ln ≤ 20 := by omega
  try dsimp only at hh1 hh2
  obtain ⟨k0, f0, t0, e0, o0, p0, er, n0, R0, L0, hM1, hM2, hB0, hn0⟩ := says_make who ep nx ak E ta tn tc T la ln lc R L w HT.out WT.out HQ.out HB.out (by omega) HLw.out hnx
  obtain ⟨x0, x1, x2, x3, et, hK1, hK2⟩ := says_take who ep nx ak E ta tn tc T ⟨k, f, t, e, o, p, ma, mn, mc, mta, mtn, mtc, mte⟩ MR ML T2 w HT.out WT.out HQM.out HBM.out (by show mn ≤ 100; omega) HMw.out HT2.out WT2.out
  unfold MV.cs at hK1
  try dsimp only at hK1
  try dsimp only at hK2
  have HM1 := Lib.hid hM1
  have HM2 := Lib.hid hM2
  have HB0 := Lib.hid hB0
  have HK1 := Lib.hid hK1
  have HK2 := Lib.hid hK2
  clear hM1 hM2 hB0 hK1 hK2
  go_wp2_with fail
  clear y0 y1
  go_loopw [13] (fun i wr => ∃ j : Nat, i = .int .i64 j ∧ j ≤ ln ∧ w2 = wr) (fun i _ => ln - (intOf i).toNat)
  case atStart => exact ⟨0, rfl, by omega, (by first | trivial | rfl)⟩
  case round =>
    obtain ⟨j, rfl, hj, rfl⟩ := hrel
    by_cases hlt : j < ln
    · have hlt' : (j : Int) < ln := by omega
      obtain ⟨r, hr⟩ : ∃ r, R[j]? = some r := ⟨_, List.getElem?_eq_getElem (by omega)⟩
      obtain ⟨⟨_, _, hb2⟩, b, ob, rfl, q0, q1⟩ := (HQ.out.kept (KX.trans K2)).2.2.2 j r hr
      obtain ⟨rat, ra, rn, rc⟩ := r
      dsimp only at q0 q1
      by_cases h3 : 1100 < (rn : Int)
      · go_wp2
        go_ret
        exact ⟨rfl, KX.trans K2⟩
      · go_wp2
        go_roundw
        case rel => exact ⟨j + 1, by go_num, by omega, (by first | trivial | rfl)⟩
        case measure => simp [intOf]; omega
    · have hge : (ln : Int) ≤ j := by omega
      have KW : Kept w w2 := KX.trans K2
      clear hlt hj
      replace H6 : Hid (∀ Z, Kept w2 Z → Z.cell? ⟨p6, 0, none⟩ = some (.int .i64 who) ∧ Z.cell? ⟨p6, 1, none⟩ = some (.int .i64 ep) ∧ Z.cell? ⟨p6, 2, none⟩ = some (.int .i64 nx) ∧ Z.cell? ⟨p6, 3, none⟩ = some (.int .i64 ak)) := fun Z k => H6.out Z (K2.trans k)
      replace H7 : Hid (∀ Z, Kept w2 Z → Z.cell? ⟨p7, 0, none⟩ = some (.slice ta tn tc) ∧ Z.cell? ⟨p7, 1, none⟩ = some (.int .i64 E)) := fun Z k => H7.out Z (K2.trans k)
      replace H9 : Hid (∀ Z, Kept w2 Z → Z.cell? ⟨p9, 0, none⟩ = some (.int .i64 k) ∧ Z.cell? ⟨p9, 1, none⟩ = some (.int .i64 f) ∧ Z.cell? ⟨p9, 2, none⟩ = some (.int .i64 t) ∧ Z.cell? ⟨p9, 3, none⟩ = some (.int .i64 e) ∧ Z.cell? ⟨p9, 4, none⟩ = some (.int .i64 o) ∧ Z.cell? ⟨p9, 5, none⟩ = some (.int .i64 p) ∧ Z.cell? ⟨p9, 6, none⟩ = some (.slice ma mn mc) ∧ Z.cell? ⟨p9, 7, none⟩ = some (.slice mta mtn mtc) ∧ Z.cell? ⟨p9, 8, none⟩ = some (.int .i64 mte)) := fun Z k => H9.out Z (K2.trans k)
      clear K2 KX
      obtain ⟨s0, s1, s2, s3⟩ := H6.out _ (Kept.refl _)
      obtain ⟨u0, u1⟩ := H7.out _ (Kept.refl _)
      go_wp2_with fail
      refine (HM1.out _ KW).mono ?_
      rintro e' v3 ⟨a1, c1, rfl, hq1, J⟩
      clear s0 s1 s2 s3 u0 u1
      have kk := J.trans (kept_al v3 (.cells #[.int .i64 k0, .int .i64 f0, .int .i64 t0, .int .i64 e0, .int .i64 o0, .int .i64 p0, .slice a1 n0 c1, .slice none 0 0, .int .i64 0] 36))
      have hb := heap_alloc_new v3 (.cells #[.int .i64 k0, .int .i64 f0, .int .i64 t0, .int .i64 e0, .int .i64 o0, .int .i64 p0, .slice a1 n0 c1, .slice none 0 0, .int .i64 0] 36)
      have HQ1 : Hid (∀ Z, Kept (v3.alloc (.cells #[.int .i64 k0, .int .i64 f0, .int .i64 t0, .int .i64 e0, .int .i64 o0, .int .i64 p0, .slice a1 n0 c1, .slice none 0 0, .int .i64 0] 36)) Z → SlQ Z a1 n0 c1 R0) := fun Z k => hq1.kept ((kept_al v3 _).trans k)
      have H14 : Hid (∀ Z, Kept (v3.alloc (.cells #[.int .i64 k0, .int .i64 f0, .int .i64 t0, .int .i64 e0, .int .i64 o0, .int .i64 p0, .slice a1 n0 c1, .slice none 0 0, .int .i64 0] 36)) Z → Z.cell? ⟨v3.heap.size, 0, none⟩ = some (.int .i64 k0) ∧ Z.cell? ⟨v3.heap.size, 1, none⟩ = some (.int .i64 f0) ∧ Z.cell? ⟨v3.heap.size, 2, none⟩ = some (.int .i64 t0) ∧ Z.cell? ⟨v3.heap.size, 3, none⟩ = some (.int .i64 e0) ∧ Z.cell? ⟨v3.heap.size, 4, none⟩ = some (.int .i64 o0) ∧ Z.cell? ⟨v3.heap.size, 5, none⟩ = some (.int .i64 p0) ∧ Z.cell? ⟨v3.heap.size, 6, none⟩ = some (.slice a1 n0 c1) ∧ Z.cell? ⟨v3.heap.size, 7, none⟩ = some (.slice none 0 0) ∧ Z.cell? ⟨v3.heap.size, 8, none⟩ = some (.int .i64 0)) := fun Z k => by
        obtain ⟨s0, s1, s2, s3, s4, s5, s6, s7, s8⟩ := nine_cells hb
        exact ⟨k.cel s0, k.cel s1, k.cel s2, k.cel s3, k.cel s4, k.cel s5, k.cel s6, k.cel s7, k.cel s8⟩
      clear hb hq1 J
      go_upto_region 11 with fail
      generalize World.alloc v3 _ = w3 at *
      generalize v3.heap.size = p14 at *
      replace H6 : Hid (∀ Z, Kept w3 Z → Z.cell? ⟨p6, 0, none⟩ = some (.int .i64 who) ∧ Z.cell? ⟨p6, 1, none⟩ = some (.int .i64 ep) ∧ Z.cell? ⟨p6, 2, none⟩ = some (.int .i64 nx) ∧ Z.cell? ⟨p6, 3, none⟩ = some (.int .i64 ak)) := fun Z k => H6.out Z (kk.trans k)
      replace H7 : Hid (∀ Z, Kept w3 Z → Z.cell? ⟨p7, 0, none⟩ = some (.slice ta tn tc) ∧ Z.cell? ⟨p7, 1, none⟩ = some (.int .i64 E)) := fun Z k => H7.out Z (kk.trans k)
      replace H9 : Hid (∀ Z, Kept w3 Z → Z.cell? ⟨p9, 0, none⟩ = some (.int .i64 k) ∧ Z.cell? ⟨p9, 1, none⟩ = some (.int .i64 f) ∧ Z.cell? ⟨p9, 2, none⟩ = some (.int .i64 t) ∧ Z.cell? ⟨p9, 3, none⟩ = some (.int .i64 e) ∧ Z.cell? ⟨p9, 4, none⟩ = some (.int .i64 o) ∧ Z.cell? ⟨p9, 5, none⟩ = some (.int .i64 p) ∧ Z.cell? ⟨p9, 6, none⟩ = some (.slice ma mn mc) ∧ Z.cell? ⟨p9, 7, none⟩ = some (.slice mta mtn mtc) ∧ Z.cell? ⟨p9, 8, none⟩ = some (.int .i64 mte)) := fun Z k => H9.out Z (kk.trans k)
      replace KW := KW.trans kk
      clear kk
      go_cut [16, 17] from 61 to 70 (fun p e' wx => e' = .int .i64 er ∧ Kept w3 wx ∧ ∃ q a5 c5, p = .pointer (some ⟨q, 0, none⟩) ∧ (wx.cell? ⟨q, 0, none⟩ = some (.int .i64 k0) ∧ wx.cell? ⟨q, 1, none⟩ = some (.int .i64 f0) ∧ wx.cell? ⟨q, 2, none⟩ = some (.int .i64 t0) ∧ wx.cell? ⟨q, 3, none⟩ = some (.int .i64 e0) ∧ wx.cell? ⟨q, 4, none⟩ = some (.int .i64 o0) ∧ wx.cell? ⟨q, 5, none⟩ = some (.int .i64 p0) ∧ wx.cell? ⟨q, 6, none⟩ = some (.slice a5 n0 c5) ∧ wx.cell? ⟨q, 7, none⟩ = some (.slice none 0 0) ∧ wx.cell? ⟨q, 8, none⟩ = some (.int .i64 0)) ∧ SlRR wx a5 n0 c5 L0)
      case first =>
        have gM0 : ∀ (V : World) (a0 a1 a2 a3 a4 a5 a6 a7 a8 : Value), (V.alloc (.cells #[a0, a1, a2, a3, a4, a5, a6, a7, a8] 54)).cell? ⟨V.heap.size, 0, none⟩ = some a0 := fun V a0 a1 a2 a3 a4 a5 a6 a7 a8 => (nine_cells (heap_alloc_new V _)).1
        have gE0 : ∀ (a0 a1 a2 a3 a4 a5 a6 a7 a8 : Value), (World.alloc w3.drew (.cells #[a0, a1, a2, a3, a4, a5, a6, a7, a8] 54)).cell? ⟨w3.heap.size, 0, none⟩ = some a0 := fun a0 a1 a2 a3 a4 a5 a6 a7 a8 => (nine_cells (heap_alloc_new _ _)).1
        have gM1 : ∀ (V : World) (a0 a1 a2 a3 a4 a5 a6 a7 a8 : Value), (V.alloc (.cells #[a0, a1, a2, a3, a4, a5, a6, a7, a8] 54)).cell? ⟨V.heap.size, 1, none⟩ = some a1 := fun V a0 a1 a2 a3 a4 a5 a6 a7 a8 => (nine_cells (heap_alloc_new V _)).2.1
        have gE1 : ∀ (a0 a1 a2 a3 a4 a5 a6 a7 a8 : Value), (World.alloc w3.drew (.cells #[a0, a1, a2, a3, a4, a5, a6, a7, a8] 54)).cell? ⟨w3.heap.size, 1, none⟩ = some a1 := fun a0 a1 a2 a3 a4 a5 a6 a7 a8 => (nine_cells (heap_alloc_new _ _)).2.1
        have gM2 : ∀ (V : World) (a0 a1 a2 a3 a4 a5 a6 a7 a8 : Value), (V.alloc (.cells #[a0, a1, a2, a3, a4, a5, a6, a7, a8] 54)).cell? ⟨V.heap.size, 2, none⟩ = some a2 := fun V a0 a1 a2 a3 a4 a5 a6 a7 a8 => (nine_cells (heap_alloc_new V _)).2.2.1
        have gE2 : ∀ (a0 a1 a2 a3 a4 a5 a6 a7 a8 : Value), (World.alloc w3.drew (.cells #[a0, a1, a2, a3, a4, a5, a6, a7, a8] 54)).cell? ⟨w3.heap.size, 2, none⟩ = some a2 := fun a0 a1 a2 a3 a4 a5 a6 a7 a8 => (nine_cells (heap_alloc_new _ _)).2.2.1
        have gM3 : ∀ (V : World) (a0 a1 a2 a3 a4 a5 a6 a7 a8 : Value), (V.alloc (.cells #[a0, a1, a2, a3, a4, a5, a6, a7, a8] 54)).cell? ⟨V.heap.size, 3, none⟩ = some a3 := fun V a0 a1 a2 a3 a4 a5 a6 a7 a8 => (nine_cells (heap_alloc_new V _)).2.2.2.1
        have gE3 : ∀ (a0 a1 a2 a3 a4 a5 a6 a7 a8 : Value), (World.alloc w3.drew (.cells #[a0, a1, a2, a3, a4, a5, a6, a7, a8] 54)).cell? ⟨w3.heap.size, 3, none⟩ = some a3 := fun a0 a1 a2 a3 a4 a5 a6 a7 a8 => (nine_cells (heap_alloc_new _ _)).2.2.2.1
        have gM4 : ∀ (V : World) (a0 a1 a2 a3 a4 a5 a6 a7 a8 : Value), (V.alloc (.cells #[a0, a1, a2, a3, a4, a5, a6, a7, a8] 54)).cell? ⟨V.heap.size, 4, none⟩ = some a4 := fun V a0 a1 a2 a3 a4 a5 a6 a7 a8 => (nine_cells (heap_alloc_new V _)).2.2.2.2.1
        have gE4 : ∀ (a0 a1 a2 a3 a4 a5 a6 a7 a8 : Value), (World.alloc w3.drew (.cells #[a0, a1, a2, a3, a4, a5, a6, a7, a8] 54)).cell? ⟨w3.heap.size, 4, none⟩ = some a4 := fun a0 a1 a2 a3 a4 a5 a6 a7 a8 => (nine_cells (heap_alloc_new _ _)).2.2.2.2.1
        have gM5 : ∀ (V : World) (a0 a1 a2 a3 a4 a5 a6 a7 a8 : Value), (V.alloc (.cells #[a0, a1, a2, a3, a4, a5, a6, a7, a8] 54)).cell? ⟨V.heap.size, 5, none⟩ = some a5 := fun V a0 a1 a2 a3 a4 a5 a6 a7 a8 => (nine_cells (heap_alloc_new V _)).2.2.2.2.2.1
        have gE5 : ∀ (a0 a1 a2 a3 a4 a5 a6 a7 a8 : Value), (World.alloc w3.drew (.cells #[a0, a1, a2, a3, a4, a5, a6, a7, a8] 54)).cell? ⟨w3.heap.size, 5, none⟩ = some a5 := fun a0 a1 a2 a3 a4 a5 a6 a7 a8 => (nine_cells (heap_alloc_new _ _)).2.2.2.2.2.1
        have gM6 : ∀ (V : World) (a0 a1 a2 a3 a4 a5 a6 a7 a8 : Value), (V.alloc (.cells #[a0, a1, a2, a3, a4, a5, a6, a7, a8] 54)).cell? ⟨V.heap.size, 6, none⟩ = some a6 := fun V a0 a1 a2 a3 a4 a5 a6 a7 a8 => (nine_cells (heap_alloc_new V _)).2.2.2.2.2.2.1
        have gE6 : ∀ (a0 a1 a2 a3 a4 a5 a6 a7 a8 : Value), (World.alloc w3.drew (.cells #[a0, a1, a2, a3, a4, a5, a6, a7, a8] 54)).cell? ⟨w3.heap.size, 6, none⟩ = some a6 := fun a0 a1 a2 a3 a4 a5 a6 a7 a8 => (nine_cells (heap_alloc_new _ _)).2.2.2.2.2.2.1
        have gM7 : ∀ (V : World) (a0 a1 a2 a3 a4 a5 a6 a7 a8 : Value), (V.alloc (.cells #[a0, a1, a2, a3, a4, a5, a6, a7, a8] 54)).cell? ⟨V.heap.size, 7, none⟩ = some a7 := fun V a0 a1 a2 a3 a4 a5 a6 a7 a8 => (nine_cells (heap_alloc_new V _)).2.2.2.2.2.2.2.1
        have gE7 : ∀ (a0 a1 a2 a3 a4 a5 a6 a7 a8 : Value), (World.alloc w3.drew (.cells #[a0, a1, a2, a3, a4, a5, a6, a7, a8] 54)).cell? ⟨w3.heap.size, 7, none⟩ = some a7 := fun a0 a1 a2 a3 a4 a5 a6 a7 a8 => (nine_cells (heap_alloc_new _ _)).2.2.2.2.2.2.2.1
        have gM8 : ∀ (V : World) (a0 a1 a2 a3 a4 a5 a6 a7 a8 : Value), (V.alloc (.cells #[a0, a1, a2, a3, a4, a5, a6, a7, a8] 54)).cell? ⟨V.heap.size, 8, none⟩ = some a8 := fun V a0 a1 a2 a3 a4 a5 a6 a7 a8 => (nine_cells (heap_alloc_new V _)).2.2.2.2.2.2.2.2
        have gE8 : ∀ (a0 a1 a2 a3 a4 a5 a6 a7 a8 : Value), (World.alloc w3.drew (.cells #[a0, a1, a2, a3, a4, a5, a6, a7, a8] 54)).cell? ⟨w3.heap.size, 8, none⟩ = some a8 := fun a0 a1 a2 a3 a4 a5 a6 a7 a8 => (nine_cells (heap_alloc_new _ _)).2.2.2.2.2.2.2.2
        have gMF : ∀ (V : World) (a0 a1 a2 a3 a4 a5 a6 a7 a8 : Value) (j : Nat), (V.alloc (.cells #[a0, a1, a2, a3, a4, a5, a6, a7, a8] 54)).frozen? ⟨V.heap.size, j, none⟩ = false := fun V a0 a1 a2 a3 a4 a5 a6 a7 a8 j => one_free (heap_alloc_new V _) j
        have gEF : ∀ (a0 a1 a2 a3 a4 a5 a6 a7 a8 : Value) (j : Nat), (World.alloc w3.drew (.cells #[a0, a1, a2, a3, a4, a5, a6, a7, a8] 54)).frozen? ⟨w3.heap.size, j, none⟩ = false := fun a0 a1 a2 a3 a4 a5 a6 a7 a8 j => one_free (heap_alloc_new w3.drew _) j
        have KD : Kept w3 w3.drew := (Kept.refl _).dr ⟨1, rfl⟩
        have hdr : ∀ (V : World) (p : Addr), V.drew.cell? p = V.cell? p := fun _ _ => rfl
        have HS : Hid (∀ Z, Kept w3 Z → Z.cell? ⟨p6, 0, none⟩ = some (.int .i64 who) ∧ Z.cell? ⟨p6, 1, none⟩ = some (.int .i64 ep) ∧ Z.cell? ⟨p6, 2, none⟩ = some (.int .i64 nx) ∧ Z.cell? ⟨p6, 3, none⟩ = some (.int .i64 ak) ∧ Z.cell? ⟨p7, 0, none⟩ = some (.slice ta tn tc) ∧ Z.cell? ⟨p7, 1, none⟩ = some (.int .i64 E)) := fun Z k => by
          obtain ⟨xH60, xH61, xH62, xH63⟩ := H6.out Z k
          obtain ⟨xH70, xH71⟩ := H7.out Z k
          exact ⟨xH60, xH61, xH62, xH63, xH70, xH71⟩
        have hN00 : w3.heap.size ≠ p6 := World.new_ne w3 ⟨p6, 0, none⟩ (HS.out _ (Kept.refl _)).1
        have hN01 : w3.heap.size ≠ p7 := World.new_ne w3 ⟨p7, 0, none⟩ (HS.out _ (Kept.refl _)).2.2.2.2.1
        go_region_held3 (fun Z => Z.cell? ⟨p6, 0, none⟩ = some (.int .i64 who) ∧ Z.cell? ⟨p6, 1, none⟩ = some (.int .i64 ep) ∧ Z.cell? ⟨p6, 2, none⟩ = some (.int .i64 nx) ∧ Z.cell? ⟨p6, 3, none⟩ = some (.int .i64 ak) ∧ Z.cell? ⟨p7, 0, none⟩ = some (.slice ta tn tc) ∧ Z.cell? ⟨p7, 1, none⟩ = some (.int .i64 E)) ((obtain ⟨s0, s1, s2, s3, s4, s5⟩ := HS.out _ KD; obtain ⟨t0, t1, t2, t3, t4, t5⟩ := HS.out _ (Kept.refl _); first | simp only [s0, s1, s2, s3, s4, s5, t0, t1, t2, t3, t4, t5, hdr, World.cell?_alloc_some, World.cell?_setCell_far, Option.isSome_some, ne_eq, not_false_eq_true, and_self, hN00, hN01, hN10, hN11, hN20, hN21, hN30, hN31, hN40, hN41] | simp only [s0, s1, s2, s3, s4, s5, t0, t1, t2, t3, t4, t5, hdr, World.cell?_alloc_some, World.cell?_setCell_far, Option.isSome_some, ne_eq, not_false_eq_true, and_self, hN00, hN01, hN10, hN11, hN20, hN21, hN30, hN31] | simp only [s0, s1, s2, s3, s4, s5, t0, t1, t2, t3, t4, t5, hdr, World.cell?_alloc_some, World.cell?_setCell_far, Option.isSome_some, ne_eq, not_false_eq_true, and_self, hN00, hN01, hN10, hN11, hN20, hN21] | simp only [s0, s1, s2, s3, s4, s5, t0, t1, t2, t3, t4, t5, hdr, World.cell?_alloc_some, World.cell?_setCell_far, Option.isSome_some, ne_eq, not_false_eq_true, and_self, hN00, hN01, hN10, hN11] | simp only [s0, s1, s2, s3, s4, s5, t0, t1, t2, t3, t4, t5, hdr, World.cell?_alloc_some, World.cell?_setCell_far, Option.isSome_some, ne_eq, not_false_eq_true, and_self, hN00, hN01])) (first | (go_at_call 17; refine (law_own who ep nx ak _).mono ?_; rintro e' y1v ⟨rfl, J⟩; have KE : Kept w3 y1v := (by first | exact KD.trans J | exact (KD.trans (kept_al _ _)).trans J); have cJ1 := J.cq; have fJ1 := J.fq; have zJ1 := J.size; (try simp at zJ1); have HJ1 := Lib.hid J;  clear KD J; have KD := KE; clear KE; have hz1 := KD.size; (first | (have hqw1 : w3.heap.size < y1v.heap.size := (by omega)) | skip); have hN10 : y1v.heap.size ≠ p6 := World.new_ne y1v ⟨p6, 0, none⟩ (HS.out _ KD).1; have hN11 : y1v.heap.size ≠ p7 := World.new_ne y1v ⟨p7, 0, none⟩ (HS.out _ KD).2.2.2.2.1) | (go_at_call 18; refine (law_tableOf ta tn tc T E _ ((by first | exact KW.trans KD | exact KW.trans (KD.trans (kept_al _ _)) : Kept w _).sl HT.out) (by omega)).mono ?_; rintro e' y2v ⟨at2, ct2, rfl, hs2, J⟩; have KE : Kept w3 y2v := (by first | exact KD.trans J | exact (KD.trans (kept_al _ _)).trans J); have cJ2 := J.cq; have fJ2 := J.fq; have zJ2 := J.size; (try simp at zJ2); have HJ2 := Lib.hid J; have HsT := Lib.hid hs2; clear hs2; clear KD J; have KD := KE; clear KE; have hz2 := KD.size; (first | (have hqw2 : w3.heap.size < y2v.heap.size := (by omega)) | skip); (first | (have hqv12 : y1v.heap.size < y2v.heap.size := (by omega)) | skip); have hN20 : y2v.heap.size ≠ p6 := World.new_ne y2v ⟨p6, 0, none⟩ (HS.out _ KD).1; have hN21 : y2v.heap.size ≠ p7 := World.new_ne y2v ⟨p7, 0, none⟩ (HS.out _ KD).2.2.2.2.1) | (go_at_call 19; refine (law_recsOf la ln lc R L _ (HQ.out.kept (by first | exact KW.trans KD | exact KW.trans (KD.trans (kept_al _ _)))) (HB.out.kept (by first | exact KW.trans KD | exact KW.trans (KD.trans (kept_al _ _)))) (by omega)).mono ?_; rintro e' y3v ⟨ar3, cr3, rfl, hs3, J⟩; have KE : Kept w3 y3v := (by first | exact KD.trans J | exact (KD.trans (kept_al _ _)).trans J); have cJ3 := J.cq; have fJ3 := J.fq; have zJ3 := J.size; (try simp at zJ3); have HJ3 := Lib.hid J; have HsR := Lib.hid hs3; replace HsT := Lib.hid (by first | exact J.sl HsT.out | exact J.sl ((kept_al _ _).sl HsT.out) : Sl .u64 y3v at2 tn ct2 T); clear hs3; clear KD J; have KD := KE; clear KE; have hz3 := KD.size; (first | (have hqw3 : w3.heap.size < y3v.heap.size := (by omega)) | skip); (first | (have hqv13 : y1v.heap.size < y3v.heap.size := (by omega)) | skip); (first | (have hqv23 : y2v.heap.size < y3v.heap.size := (by omega)) | skip); have hN30 : y3v.heap.size ≠ p6 := World.new_ne y3v ⟨p6, 0, none⟩ (HS.out _ KD).1; have hN31 : y3v.heap.size ≠ p7 := World.new_ne y3v ⟨p7, 0, none⟩ (HS.out _ KD).2.2.2.2.1) | (go_at_call 16; refine (HM2.out _ at2 ct2 ar3 cr3 (by first | exact HsT.out | exact (kept_al _ _).sl HsT.out) (by first | exact HsR.out | exact HsR.out.kept (kept_al _ _))).mono ?_; rintro e' y4v ⟨a5, c5, rfl, hs4, J⟩; have KE : Kept w3 y4v := (by first | exact KD.trans J | exact (KD.trans (kept_al _ _)).trans J); have cJ4 := J.cq; have fJ4 := J.fq; have zJ4 := J.size; (try simp at zJ4); have HJ4 := Lib.hid J; have HsM := Lib.hid hs4; clear hs4; clear KD J; have KD := KE; clear KE; have hz4 := KD.size; (first | (have hqw4 : w3.heap.size < y4v.heap.size := (by omega)) | skip); (first | (have hqv14 : y1v.heap.size < y4v.heap.size := (by omega)) | skip); (first | (have hqv24 : y2v.heap.size < y4v.heap.size := (by omega)) | skip); (first | (have hqv34 : y3v.heap.size < y4v.heap.size := (by omega)) | skip); have hN40 : y4v.heap.size ≠ p6 := World.new_ne y4v ⟨p6, 0, none⟩ (HS.out _ KD).1; have hN41 : y4v.heap.size ≠ p7 := World.new_ne y4v ⟨p7, 0, none⟩ (HS.out _ KD).2.2.2.2.1))
        all_goals (first | (go_wp2_with fail; done) | skip)
        all_goals (first | go_meet | (go_wp2_with fail; go_meet))
        · exact ⟨rfl, KD.trans (kept_al y4v _), _, _, _, rfl, nine_cells (heap_alloc_new y4v (.cells #[.int .i64 k0, .int .i64 f0, .int .i64 t0, .int .i64 e0, .int .i64 o0, .int .i64 p0, .slice a5 n0 c5, .slice none 0 0, .int .i64 0] 54)), HsM.out.kept (kept_al y4v _)⟩
        · have hb := (HJ4.out.only.heap (heap_alloc_new y3v (.cells #[.int .i64 0, .int .i64 0, .int .i64 0, .int .i64 0, .int .i64 0, .int .i64 0, .slice none 0 0, .slice none 0 0, .int .i64 0] 54)) (by simp))
          exact ⟨rfl, KD.onl (only_set9 _ _ _ _ _ _ _ _ _ _ _) (by intro i hi; have := List.mem_singleton.1 hi; first | omega | (subst this; exact Nat.le_refl _)), _, _, _, rfl, nine_cells (nine_set hb (.int .i64 k0) (.int .i64 f0) (.int .i64 t0) (.int .i64 e0) (.int .i64 o0) (.int .i64 p0) (.slice a5 n0 c5) (.slice none 0 0) (.int .i64 0)), slRR_apart (only_set9 _ _ (.int .i64 k0) (.int .i64 f0) (.int .i64 t0) (.int .i64 e0) (.int .i64 o0) (.int .i64 p0) (.slice a5 n0 c5) (.slice none 0 0) (.int .i64 0)) HsM.out hb (by simp)⟩
        · have hb := (HJ4.out.only.heap (HJ3.out.only.heap (heap_alloc_new y2v (.cells #[.int .i64 0, .int .i64 0, .int .i64 0, .int .i64 0, .int .i64 0, .int .i64 0, .slice none 0 0, .slice none 0 0, .int .i64 0] 54)) (by simp)) (by simp))
          exact ⟨rfl, KD.onl (only_set9 _ _ _ _ _ _ _ _ _ _ _) (by intro i hi; have := List.mem_singleton.1 hi; first | omega | (subst this; exact Nat.le_refl _)), _, _, _, rfl, nine_cells (nine_set hb (.int .i64 k0) (.int .i64 f0) (.int .i64 t0) (.int .i64 e0) (.int .i64 o0) (.int .i64 p0) (.slice a5 n0 c5) (.slice none 0 0) (.int .i64 0)), slRR_apart (only_set9 _ _ (.int .i64 k0) (.int .i64 f0) (.int .i64 t0) (.int .i64 e0) (.int .i64 o0) (.int .i64 p0) (.slice a5 n0 c5) (.slice none 0 0) (.int .i64 0)) HsM.out hb (by simp)⟩
        · have hb := (HJ4.out.only.heap (HJ3.out.only.heap (HJ2.out.only.heap (heap_alloc_new y1v (.cells #[.int .i64 0, .int .i64 0, .int .i64 0, .int .i64 0, .int .i64 0, .int .i64 0, .slice none 0 0, .slice none 0 0, .int .i64 0] 54)) (by simp)) (by simp)) (by simp))
          exact ⟨rfl, KD.onl (only_set9 _ _ _ _ _ _ _ _ _ _ _) (by intro i hi; have := List.mem_singleton.1 hi; first | omega | (subst this; exact Nat.le_refl _)), _, _, _, rfl, nine_cells (nine_set hb (.int .i64 k0) (.int .i64 f0) (.int .i64 t0) (.int .i64 e0) (.int .i64 o0) (.int .i64 p0) (.slice a5 n0 c5) (.slice none 0 0) (.int .i64 0)), slRR_apart (only_set9 _ _ (.int .i64 k0) (.int .i64 f0) (.int .i64 t0) (.int .i64 e0) (.int .i64 o0) (.int .i64 p0) (.slice a5 n0 c5) (.slice none 0 0) (.int .i64 0)) HsM.out hb (by simp)⟩
        · have hb := (HJ4.out.only.heap (HJ3.out.only.heap (HJ2.out.only.heap (HJ1.out.only.heap (heap_alloc_new w3.drew (.cells #[.int .i64 0, .int .i64 0, .int .i64 0, .int .i64 0, .int .i64 0, .int .i64 0, .slice none 0 0, .slice none 0 0, .int .i64 0] 54)) (by simp)) (by simp)) (by simp)) (by simp))
          exact ⟨rfl, KD.onl (only_set9 _ _ _ _ _ _ _ _ _ _ _) (by intro i hi; have := List.mem_singleton.1 hi; first | omega | (subst this; exact Nat.le_refl _)), _, _, _, rfl, nine_cells (nine_set hb (.int .i64 k0) (.int .i64 f0) (.int .i64 t0) (.int .i64 e0) (.int .i64 o0) (.int .i64 p0) (.slice a5 n0 c5) (.slice none 0 0) (.int .i64 0)), slRR_apart (only_set9 _ _ (.int .i64 k0) (.int .i64 f0) (.int .i64 t0) (.int .i64 e0) (.int .i64 o0) (.int .i64 p0) (.slice a5 n0 c5) (.slice none 0 0) (.int .i64 0)) HsM.out hb (by simp)⟩
      case rest =>
        obtain ⟨rfl, kk, p16, a5, c5, rfl, ⟨zq0, zq1, zq2, zq3, zq4, zq5, zq6, zq7, zq8⟩, hsl⟩ := hcut
        generalize wc = w4 at *
        replace H6 : Hid (∀ Z, Kept w4 Z → Z.cell? ⟨p6, 0, none⟩ = some (.int .i64 who) ∧ Z.cell? ⟨p6, 1, none⟩ = some (.int .i64 ep) ∧ Z.cell? ⟨p6, 2, none⟩ = some (.int .i64 nx) ∧ Z.cell? ⟨p6, 3, none⟩ = some (.int .i64 ak)) := fun Z k => H6.out Z (kk.trans k)
        replace H7 : Hid (∀ Z, Kept w4 Z → Z.cell? ⟨p7, 0, none⟩ = some (.slice ta tn tc) ∧ Z.cell? ⟨p7, 1, none⟩ = some (.int .i64 E)) := fun Z k => H7.out Z (kk.trans k)
        replace H9 : Hid (∀ Z, Kept w4 Z → Z.cell? ⟨p9, 0, none⟩ = some (.int .i64 k) ∧ Z.cell? ⟨p9, 1, none⟩ = some (.int .i64 f) ∧ Z.cell? ⟨p9, 2, none⟩ = some (.int .i64 t) ∧ Z.cell? ⟨p9, 3, none⟩ = some (.int .i64 e) ∧ Z.cell? ⟨p9, 4, none⟩ = some (.int .i64 o) ∧ Z.cell? ⟨p9, 5, none⟩ = some (.int .i64 p) ∧ Z.cell? ⟨p9, 6, none⟩ = some (.slice ma mn mc) ∧ Z.cell? ⟨p9, 7, none⟩ = some (.slice mta mtn mtc) ∧ Z.cell? ⟨p9, 8, none⟩ = some (.int .i64 mte)) := fun Z k => H9.out Z (kk.trans k)
        replace H14 : Hid (∀ Z, Kept w4 Z → Z.cell? ⟨p14, 0, none⟩ = some (.int .i64 k0) ∧ Z.cell? ⟨p14, 1, none⟩ = some (.int .i64 f0) ∧ Z.cell? ⟨p14, 2, none⟩ = some (.int .i64 t0) ∧ Z.cell? ⟨p14, 3, none⟩ = some (.int .i64 e0) ∧ Z.cell? ⟨p14, 4, none⟩ = some (.int .i64 o0) ∧ Z.cell? ⟨p14, 5, none⟩ = some (.int .i64 p0) ∧ Z.cell? ⟨p14, 6, none⟩ = some (.slice a1 n0 c1) ∧ Z.cell? ⟨p14, 7, none⟩ = some (.slice none 0 0) ∧ Z.cell? ⟨p14, 8, none⟩ = some (.int .i64 0)) := fun Z k => H14.out Z (kk.trans k)
        replace HQ1 : Hid (∀ Z, Kept w4 Z → SlQ Z a1 n0 c1 R0) := fun Z k => HQ1.out Z (kk.trans k)
        replace KW := KW.trans kk
        clear kk
        have H16 : Hid (∀ Z, Kept w4 Z → Z.cell? ⟨p16, 0, none⟩ = some (.int .i64 k0) ∧ Z.cell? ⟨p16, 1, none⟩ = some (.int .i64 f0) ∧ Z.cell? ⟨p16, 2, none⟩ = some (.int .i64 t0) ∧ Z.cell? ⟨p16, 3, none⟩ = some (.int .i64 e0) ∧ Z.cell? ⟨p16, 4, none⟩ = some (.int .i64 o0) ∧ Z.cell? ⟨p16, 5, none⟩ = some (.int .i64 p0) ∧ Z.cell? ⟨p16, 6, none⟩ = some (.slice a5 n0 c5) ∧ Z.cell? ⟨p16, 7, none⟩ = some (.slice none 0 0) ∧ Z.cell? ⟨p16, 8, none⟩ = some (.int .i64 0)) := fun Z k => ⟨k.cel zq0, k.cel zq1, k.cel zq2, k.cel zq3, k.cel zq4, k.cel zq5, k.cel zq6, k.cel zq7, k.cel zq8⟩
        have HS5 : Hid (∀ Z, Kept w4 Z → SlRR Z a5 n0 c5 L0) := fun Z k => hsl.kept k
        clear hsl zq0 zq1 zq2 zq3 zq4 zq5 zq6 zq7 zq8
        obtain ⟨s0, s1, s2, s3⟩ := H6.out _ (Kept.refl _)
        obtain ⟨u0, u1⟩ := H7.out _ (Kept.refl _)
        obtain ⟨m0, m1, m2, m3, m4, m5, m6, m7, m8⟩ := H9.out _ (Kept.refl _)
        go_wp2_with fail
        refine (HK1.out _ KW).mono ?_
        rintro e' v5 ⟨rfl, J⟩
        clear s0 s1 s2 s3 u0 u1 m0 m1 m2 m3 m4 m5 m6 m7 m8
        have kk := J.trans (kept_al v5 (.cells #[.int .i64 x0, .int .i64 x1, .int .i64 x2, .int .i64 x3] 29))
        have hb := heap_alloc_new v5 (.cells #[.int .i64 x0, .int .i64 x1, .int .i64 x2, .int .i64 x3] 29)
        have H18 : Hid (∀ Z, Kept (v5.alloc (.cells #[.int .i64 x0, .int .i64 x1, .int .i64 x2, .int .i64 x3] 29)) Z → Z.cell? ⟨v5.heap.size, 0, none⟩ = some (.int .i64 x0) ∧ Z.cell? ⟨v5.heap.size, 1, none⟩ = some (.int .i64 x1) ∧ Z.cell? ⟨v5.heap.size, 2, none⟩ = some (.int .i64 x2) ∧ Z.cell? ⟨v5.heap.size, 3, none⟩ = some (.int .i64 x3)) := fun Z k => by
          obtain ⟨s0, s1, s2, s3⟩ := four_cells hb
          exact ⟨k.cel s0, k.cel s1, k.cel s2, k.cel s3⟩
        clear hb J
        go_upto_region 13 with fail
        generalize World.alloc v5 _ = w5 at *
        generalize v5.heap.size = p18 at *
        replace H6 : Hid (∀ Z, Kept w5 Z → Z.cell? ⟨p6, 0, none⟩ = some (.int .i64 who) ∧ Z.cell? ⟨p6, 1, none⟩ = some (.int .i64 ep) ∧ Z.cell? ⟨p6, 2, none⟩ = some (.int .i64 nx) ∧ Z.cell? ⟨p6, 3, none⟩ = some (.int .i64 ak)) := fun Z k => H6.out Z (kk.trans k)
        replace H7 : Hid (∀ Z, Kept w5 Z → Z.cell? ⟨p7, 0, none⟩ = some (.slice ta tn tc) ∧ Z.cell? ⟨p7, 1, none⟩ = some (.int .i64 E)) := fun Z k => H7.out Z (kk.trans k)
        replace H9 : Hid (∀ Z, Kept w5 Z → Z.cell? ⟨p9, 0, none⟩ = some (.int .i64 k) ∧ Z.cell? ⟨p9, 1, none⟩ = some (.int .i64 f) ∧ Z.cell? ⟨p9, 2, none⟩ = some (.int .i64 t) ∧ Z.cell? ⟨p9, 3, none⟩ = some (.int .i64 e) ∧ Z.cell? ⟨p9, 4, none⟩ = some (.int .i64 o) ∧ Z.cell? ⟨p9, 5, none⟩ = some (.int .i64 p) ∧ Z.cell? ⟨p9, 6, none⟩ = some (.slice ma mn mc) ∧ Z.cell? ⟨p9, 7, none⟩ = some (.slice mta mtn mtc) ∧ Z.cell? ⟨p9, 8, none⟩ = some (.int .i64 mte)) := fun Z k => H9.out Z (kk.trans k)
        replace H14 : Hid (∀ Z, Kept w5 Z → Z.cell? ⟨p14, 0, none⟩ = some (.int .i64 k0) ∧ Z.cell? ⟨p14, 1, none⟩ = some (.int .i64 f0) ∧ Z.cell? ⟨p14, 2, none⟩ = some (.int .i64 t0) ∧ Z.cell? ⟨p14, 3, none⟩ = some (.int .i64 e0) ∧ Z.cell? ⟨p14, 4, none⟩ = some (.int .i64 o0) ∧ Z.cell? ⟨p14, 5, none⟩ = some (.int .i64 p0) ∧ Z.cell? ⟨p14, 6, none⟩ = some (.slice a1 n0 c1) ∧ Z.cell? ⟨p14, 7, none⟩ = some (.slice none 0 0) ∧ Z.cell? ⟨p14, 8, none⟩ = some (.int .i64 0)) := fun Z k => H14.out Z (kk.trans k)
        replace HQ1 : Hid (∀ Z, Kept w5 Z → SlQ Z a1 n0 c1 R0) := fun Z k => HQ1.out Z (kk.trans k)
        replace H16 : Hid (∀ Z, Kept w5 Z → Z.cell? ⟨p16, 0, none⟩ = some (.int .i64 k0) ∧ Z.cell? ⟨p16, 1, none⟩ = some (.int .i64 f0) ∧ Z.cell? ⟨p16, 2, none⟩ = some (.int .i64 t0) ∧ Z.cell? ⟨p16, 3, none⟩ = some (.int .i64 e0) ∧ Z.cell? ⟨p16, 4, none⟩ = some (.int .i64 o0) ∧ Z.cell? ⟨p16, 5, none⟩ = some (.int .i64 p0) ∧ Z.cell? ⟨p16, 6, none⟩ = some (.slice a5 n0 c5) ∧ Z.cell? ⟨p16, 7, none⟩ = some (.slice none 0 0) ∧ Z.cell? ⟨p16, 8, none⟩ = some (.int .i64 0)) := fun Z k => H16.out Z (kk.trans k)
        replace HS5 : Hid (∀ Z, Kept w5 Z → SlRR Z a5 n0 c5 L0) := fun Z k => HS5.out Z (kk.trans k)
        replace KW := KW.trans kk
        clear kk
        go_cut [20, 21] from 78 to 87 (fun p e' wx => e' = .int .i64 et ∧ Kept w5 wx ∧ ∃ q , p = .pointer (some ⟨q, 0, none⟩) ∧ (wx.cell? ⟨q, 0, none⟩ = some (.int .i64 x0) ∧ wx.cell? ⟨q, 1, none⟩ = some (.int .i64 x1) ∧ wx.cell? ⟨q, 2, none⟩ = some (.int .i64 x2) ∧ wx.cell? ⟨q, 3, none⟩ = some (.int .i64 x3)))
        case first =>
          have gM0 : ∀ (V : World) (a0 a1 a2 a3 : Value), (V.alloc (.cells #[a0, a1, a2, a3] 57)).cell? ⟨V.heap.size, 0, none⟩ = some a0 := fun V a0 a1 a2 a3 => (four_cells (heap_alloc_new V _)).1
          have gE0 : ∀ (a0 a1 a2 a3 : Value), (World.alloc w5.drew (.cells #[a0, a1, a2, a3] 57)).cell? ⟨w5.heap.size, 0, none⟩ = some a0 := fun a0 a1 a2 a3 => (four_cells (heap_alloc_new _ _)).1
          have gM1 : ∀ (V : World) (a0 a1 a2 a3 : Value), (V.alloc (.cells #[a0, a1, a2, a3] 57)).cell? ⟨V.heap.size, 1, none⟩ = some a1 := fun V a0 a1 a2 a3 => (four_cells (heap_alloc_new V _)).2.1
          have gE1 : ∀ (a0 a1 a2 a3 : Value), (World.alloc w5.drew (.cells #[a0, a1, a2, a3] 57)).cell? ⟨w5.heap.size, 1, none⟩ = some a1 := fun a0 a1 a2 a3 => (four_cells (heap_alloc_new _ _)).2.1
          have gM2 : ∀ (V : World) (a0 a1 a2 a3 : Value), (V.alloc (.cells #[a0, a1, a2, a3] 57)).cell? ⟨V.heap.size, 2, none⟩ = some a2 := fun V a0 a1 a2 a3 => (four_cells (heap_alloc_new V _)).2.2.1
          have gE2 : ∀ (a0 a1 a2 a3 : Value), (World.alloc w5.drew (.cells #[a0, a1, a2, a3] 57)).cell? ⟨w5.heap.size, 2, none⟩ = some a2 := fun a0 a1 a2 a3 => (four_cells (heap_alloc_new _ _)).2.2.1
          have gM3 : ∀ (V : World) (a0 a1 a2 a3 : Value), (V.alloc (.cells #[a0, a1, a2, a3] 57)).cell? ⟨V.heap.size, 3, none⟩ = some a3 := fun V a0 a1 a2 a3 => (four_cells (heap_alloc_new V _)).2.2.2
          have gE3 : ∀ (a0 a1 a2 a3 : Value), (World.alloc w5.drew (.cells #[a0, a1, a2, a3] 57)).cell? ⟨w5.heap.size, 3, none⟩ = some a3 := fun a0 a1 a2 a3 => (four_cells (heap_alloc_new _ _)).2.2.2
          have gMF : ∀ (V : World) (a0 a1 a2 a3 : Value) (j : Nat), (V.alloc (.cells #[a0, a1, a2, a3] 57)).frozen? ⟨V.heap.size, j, none⟩ = false := fun V a0 a1 a2 a3 j => one_free (heap_alloc_new V _) j
          have gEF : ∀ (a0 a1 a2 a3 : Value) (j : Nat), (World.alloc w5.drew (.cells #[a0, a1, a2, a3] 57)).frozen? ⟨w5.heap.size, j, none⟩ = false := fun a0 a1 a2 a3 j => one_free (heap_alloc_new w5.drew _) j
          have KD : Kept w5 w5.drew := (Kept.refl _).dr ⟨1, rfl⟩
          have hdr : ∀ (V : World) (p : Addr), V.drew.cell? p = V.cell? p := fun _ _ => rfl
          have HS : Hid (∀ Z, Kept w5 Z → Z.cell? ⟨p6, 0, none⟩ = some (.int .i64 who) ∧ Z.cell? ⟨p6, 1, none⟩ = some (.int .i64 ep) ∧ Z.cell? ⟨p6, 2, none⟩ = some (.int .i64 nx) ∧ Z.cell? ⟨p6, 3, none⟩ = some (.int .i64 ak) ∧ Z.cell? ⟨p7, 0, none⟩ = some (.slice ta tn tc) ∧ Z.cell? ⟨p7, 1, none⟩ = some (.int .i64 E) ∧ Z.cell? ⟨p9, 0, none⟩ = some (.int .i64 k) ∧ Z.cell? ⟨p9, 1, none⟩ = some (.int .i64 f) ∧ Z.cell? ⟨p9, 2, none⟩ = some (.int .i64 t) ∧ Z.cell? ⟨p9, 3, none⟩ = some (.int .i64 e) ∧ Z.cell? ⟨p9, 4, none⟩ = some (.int .i64 o) ∧ Z.cell? ⟨p9, 5, none⟩ = some (.int .i64 p) ∧ Z.cell? ⟨p9, 6, none⟩ = some (.slice ma mn mc) ∧ Z.cell? ⟨p9, 7, none⟩ = some (.slice mta mtn mtc) ∧ Z.cell? ⟨p9, 8, none⟩ = some (.int .i64 mte)) := fun Z k => by
            obtain ⟨xH60, xH61, xH62, xH63⟩ := H6.out Z k
            obtain ⟨xH70, xH71⟩ := H7.out Z k
            obtain ⟨xH90, xH91, xH92, xH93, xH94, xH95, xH96, xH97, xH98⟩ := H9.out Z k
            exact ⟨xH60, xH61, xH62, xH63, xH70, xH71, xH90, xH91, xH92, xH93, xH94, xH95, xH96, xH97, xH98⟩
          have hN00 : w5.heap.size ≠ p6 := World.new_ne w5 ⟨p6, 0, none⟩ (HS.out _ (Kept.refl _)).1
          have hN01 : w5.heap.size ≠ p7 := World.new_ne w5 ⟨p7, 0, none⟩ (HS.out _ (Kept.refl _)).2.2.2.2.1
          have hN02 : w5.heap.size ≠ p9 := World.new_ne w5 ⟨p9, 0, none⟩ (HS.out _ (Kept.refl _)).2.2.2.2.2.2.1
          go_region_held3 (fun Z => Z.cell? ⟨p6, 0, none⟩ = some (.int .i64 who) ∧ Z.cell? ⟨p6, 1, none⟩ = some (.int .i64 ep) ∧ Z.cell? ⟨p6, 2, none⟩ = some (.int .i64 nx) ∧ Z.cell? ⟨p6, 3, none⟩ = some (.int .i64 ak) ∧ Z.cell? ⟨p7, 0, none⟩ = some (.slice ta tn tc) ∧ Z.cell? ⟨p7, 1, none⟩ = some (.int .i64 E) ∧ Z.cell? ⟨p9, 0, none⟩ = some (.int .i64 k) ∧ Z.cell? ⟨p9, 1, none⟩ = some (.int .i64 f) ∧ Z.cell? ⟨p9, 2, none⟩ = some (.int .i64 t) ∧ Z.cell? ⟨p9, 3, none⟩ = some (.int .i64 e) ∧ Z.cell? ⟨p9, 4, none⟩ = some (.int .i64 o) ∧ Z.cell? ⟨p9, 5, none⟩ = some (.int .i64 p) ∧ Z.cell? ⟨p9, 6, none⟩ = some (.slice ma mn mc) ∧ Z.cell? ⟨p9, 7, none⟩ = some (.slice mta mtn mtc) ∧ Z.cell? ⟨p9, 8, none⟩ = some (.int .i64 mte)) ((obtain ⟨s0, s1, s2, s3, s4, s5, s6, s7, s8, s9, s10, s11, s12, s13, s14⟩ := HS.out _ KD; obtain ⟨t0, t1, t2, t3, t4, t5, t6, t7, t8, t9, t10, t11, t12, t13, t14⟩ := HS.out _ (Kept.refl _); first | simp only [s0, s1, s2, s3, s4, s5, s6, s7, s8, s9, s10, s11, s12, s13, s14, t0, t1, t2, t3, t4, t5, t6, t7, t8, t9, t10, t11, t12, t13, t14, hdr, World.cell?_alloc_some, World.cell?_setCell_far, Option.isSome_some, ne_eq, not_false_eq_true, and_self, hN00, hN01, hN02, hN10, hN11, hN12, hN20, hN21, hN22, hN30, hN31, hN32, hN40, hN41, hN42] | simp only [s0, s1, s2, s3, s4, s5, s6, s7, s8, s9, s10, s11, s12, s13, s14, t0, t1, t2, t3, t4, t5, t6, t7, t8, t9, t10, t11, t12, t13, t14, hdr, World.cell?_alloc_some, World.cell?_setCell_far, Option.isSome_some, ne_eq, not_false_eq_true, and_self, hN00, hN01, hN02, hN10, hN11, hN12, hN20, hN21, hN22, hN30, hN31, hN32] | simp only [s0, s1, s2, s3, s4, s5, s6, s7, s8, s9, s10, s11, s12, s13, s14, t0, t1, t2, t3, t4, t5, t6, t7, t8, t9, t10, t11, t12, t13, t14, hdr, World.cell?_alloc_some, World.cell?_setCell_far, Option.isSome_some, ne_eq, not_false_eq_true, and_self, hN00, hN01, hN02, hN10, hN11, hN12, hN20, hN21, hN22] | simp only [s0, s1, s2, s3, s4, s5, s6, s7, s8, s9, s10, s11, s12, s13, s14, t0, t1, t2, t3, t4, t5, t6, t7, t8, t9, t10, t11, t12, t13, t14, hdr, World.cell?_alloc_some, World.cell?_setCell_far, Option.isSome_some, ne_eq, not_false_eq_true, and_self, hN00, hN01, hN02, hN10, hN11, hN12] | simp only [s0, s1, s2, s3, s4, s5, s6, s7, s8, s9, s10, s11, s12, s13, s14, t0, t1, t2, t3, t4, t5, t6, t7, t8, t9, t10, t11, t12, t13, t14, hdr, World.cell?_alloc_some, World.cell?_setCell_far, Option.isSome_some, ne_eq, not_false_eq_true, and_self, hN00, hN01, hN02])) (first | (go_at_call 17; refine (law_own who ep nx ak _).mono ?_; rintro e' y1v ⟨rfl, J⟩; have KE : Kept w5 y1v := (by first | exact KD.trans J | exact (KD.trans (kept_al _ _)).trans J); have cJ1 := J.cq; have fJ1 := J.fq; have zJ1 := J.size; (try simp at zJ1); have HJ1 := Lib.hid J;  clear KD J; have KD := KE; clear KE; have hz1 := KD.size; (first | (have hqw1 : w5.heap.size < y1v.heap.size := (by omega)) | skip); have hN10 : y1v.heap.size ≠ p6 := World.new_ne y1v ⟨p6, 0, none⟩ (HS.out _ KD).1; have hN11 : y1v.heap.size ≠ p7 := World.new_ne y1v ⟨p7, 0, none⟩ (HS.out _ KD).2.2.2.2.1; have hN12 : y1v.heap.size ≠ p9 := World.new_ne y1v ⟨p9, 0, none⟩ (HS.out _ KD).2.2.2.2.2.2.1) | (go_at_call 18; refine (law_tableOf ta tn tc T E _ ((by first | exact KW.trans KD | exact KW.trans (KD.trans (kept_al _ _)) : Kept w _).sl HT.out) (by omega)).mono ?_; rintro e' y2v ⟨at2, ct2, rfl, hs2, J⟩; have KE : Kept w5 y2v := (by first | exact KD.trans J | exact (KD.trans (kept_al _ _)).trans J); have cJ2 := J.cq; have fJ2 := J.fq; have zJ2 := J.size; (try simp at zJ2); have HJ2 := Lib.hid J; have HsT := Lib.hid hs2; clear hs2; clear KD J; have KD := KE; clear KE; have hz2 := KD.size; (first | (have hqw2 : w5.heap.size < y2v.heap.size := (by omega)) | skip); (first | (have hqv12 : y1v.heap.size < y2v.heap.size := (by omega)) | skip); have hN20 : y2v.heap.size ≠ p6 := World.new_ne y2v ⟨p6, 0, none⟩ (HS.out _ KD).1; have hN21 : y2v.heap.size ≠ p7 := World.new_ne y2v ⟨p7, 0, none⟩ (HS.out _ KD).2.2.2.2.1; have hN22 : y2v.heap.size ≠ p9 := World.new_ne y2v ⟨p9, 0, none⟩ (HS.out _ KD).2.2.2.2.2.2.1) | (go_at_call 21; refine (law_msgOf ⟨k, f, t, e, o, p, ma, mn, mc, mta, mtn, mtc, mte⟩ MR ML T2 _ (HQM.out.kept (by first | exact KW.trans KD | exact KW.trans (KD.trans (kept_al _ _)))) (HBM.out.kept (by first | exact KW.trans KD | exact KW.trans (KD.trans (kept_al _ _)))) ((by first | exact KW.trans KD | exact KW.trans (KD.trans (kept_al _ _)) : Kept w _).sl HT2.out) (by show mn ≤ 1000; omega) (by show mtn ≤ 1000; omega)).mono ?_; rintro e' y3v ⟨ar3, cr3, ar4, cr4, rfl, hs3, hs4, J⟩; have KE : Kept w5 y3v := (by first | exact KD.trans J | exact (KD.trans (kept_al _ _)).trans J); have cJ3 := J.cq; have fJ3 := J.fq; have zJ3 := J.size; (try simp at zJ3); have HJ3 := Lib.hid J; have HsR := Lib.hid hs3; have HsU := Lib.hid hs4; replace HsT := Lib.hid (by first | exact J.sl HsT.out | exact J.sl ((kept_al _ _).sl HsT.out) : Sl .u64 y3v at2 tn ct2 T); clear hs3 hs4; clear KD J; have KD := KE; clear KE; have hz3 := KD.size; (first | (have hqw3 : w5.heap.size < y3v.heap.size := (by omega)) | skip); (first | (have hqv13 : y1v.heap.size < y3v.heap.size := (by omega)) | skip); (first | (have hqv23 : y2v.heap.size < y3v.heap.size := (by omega)) | skip); have hN30 : y3v.heap.size ≠ p6 := World.new_ne y3v ⟨p6, 0, none⟩ (HS.out _ KD).1; have hN31 : y3v.heap.size ≠ p7 := World.new_ne y3v ⟨p7, 0, none⟩ (HS.out _ KD).2.2.2.2.1; have hN32 : y3v.heap.size ≠ p9 := World.new_ne y3v ⟨p9, 0, none⟩ (HS.out _ KD).2.2.2.2.2.2.1) | (go_at_call 20; refine (HK2.out _ at2 ct2 ar3 cr3 ar4 cr4 (by first | exact HsT.out | exact (kept_al _ _).sl HsT.out) (by first | exact HsR.out | exact HsR.out.kept (kept_al _ _)) (by first | exact HsU.out | exact (kept_al _ _).sl HsU.out)).mono ?_; rintro e' y4v ⟨rfl, J⟩; have KE : Kept w5 y4v := (by first | exact KD.trans J | exact (KD.trans (kept_al _ _)).trans J); have cJ4 := J.cq; have fJ4 := J.fq; have zJ4 := J.size; (try simp at zJ4); have HJ4 := Lib.hid J;  clear KD J; have KD := KE; clear KE; have hz4 := KD.size; (first | (have hqw4 : w5.heap.size < y4v.heap.size := (by omega)) | skip); (first | (have hqv14 : y1v.heap.size < y4v.heap.size := (by omega)) | skip); (first | (have hqv24 : y2v.heap.size < y4v.heap.size := (by omega)) | skip); (first | (have hqv34 : y3v.heap.size < y4v.heap.size := (by omega)) | skip); have hN40 : y4v.heap.size ≠ p6 := World.new_ne y4v ⟨p6, 0, none⟩ (HS.out _ KD).1; have hN41 : y4v.heap.size ≠ p7 := World.new_ne y4v ⟨p7, 0, none⟩ (HS.out _ KD).2.2.2.2.1; have hN42 : y4v.heap.size ≠ p9 := World.new_ne y4v ⟨p9, 0, none⟩ (HS.out _ KD).2.2.2.2.2.2.1))
          all_goals (first | (go_wp2_with fail; done) | skip)
          all_goals (first | go_meet | (go_wp2_with fail; go_meet))
          · exact ⟨rfl, KD.trans (kept_al y4v _), _, rfl, four_cells (heap_alloc_new y4v (.cells #[.int .i64 x0, .int .i64 x1, .int .i64 x2, .int .i64 x3] 57))⟩
          · have hb := (HJ4.out.only.heap (heap_alloc_new y3v (.cells #[.int .i64 0, .int .i64 0, .int .i64 0, .int .i64 0] 57)) (by simp))
            exact ⟨rfl, KD.onl (only_set4 _ _ _ _ _ _) (by intro i hi; have := List.mem_singleton.1 hi; first | omega | (subst this; exact Nat.le_refl _)), _, rfl, four_cells (four_set hb (.int .i64 x0) (.int .i64 x1) (.int .i64 x2) (.int .i64 x3))⟩
          · have hb := (HJ4.out.only.heap (HJ3.out.only.heap (heap_alloc_new y2v (.cells #[.int .i64 0, .int .i64 0, .int .i64 0, .int .i64 0] 57)) (by simp)) (by simp))
            exact ⟨rfl, KD.onl (only_set4 _ _ _ _ _ _) (by intro i hi; have := List.mem_singleton.1 hi; first | omega | (subst this; exact Nat.le_refl _)), _, rfl, four_cells (four_set hb (.int .i64 x0) (.int .i64 x1) (.int .i64 x2) (.int .i64 x3))⟩
          · have hb := (HJ4.out.only.heap (HJ3.out.only.heap (HJ2.out.only.heap (heap_alloc_new y1v (.cells #[.int .i64 0, .int .i64 0, .int .i64 0, .int .i64 0] 57)) (by simp)) (by simp)) (by simp))
            exact ⟨rfl, KD.onl (only_set4 _ _ _ _ _ _) (by intro i hi; have := List.mem_singleton.1 hi; first | omega | (subst this; exact Nat.le_refl _)), _, rfl, four_cells (four_set hb (.int .i64 x0) (.int .i64 x1) (.int .i64 x2) (.int .i64 x3))⟩
          · have hb := (HJ4.out.only.heap (HJ3.out.only.heap (HJ2.out.only.heap (HJ1.out.only.heap (heap_alloc_new w5.drew (.cells #[.int .i64 0, .int .i64 0, .int .i64 0, .int .i64 0] 57)) (by simp)) (by simp)) (by simp)) (by simp))
            exact ⟨rfl, KD.onl (only_set4 _ _ _ _ _ _) (by intro i hi; have := List.mem_singleton.1 hi; first | omega | (subst this; exact Nat.le_refl _)), _, rfl, four_cells (four_set hb (.int .i64 x0) (.int .i64 x1) (.int .i64 x2) (.int .i64 x3))⟩
        case rest =>
          obtain ⟨rfl, kk, p20, rfl, ⟨zq0, zq1, zq2, zq3⟩⟩ := hcut
          generalize wc = w6 at *
          replace H6 : Hid (∀ Z, Kept w6 Z → Z.cell? ⟨p6, 0, none⟩ = some (.int .i64 who) ∧ Z.cell? ⟨p6, 1, none⟩ = some (.int .i64 ep) ∧ Z.cell? ⟨p6, 2, none⟩ = some (.int .i64 nx) ∧ Z.cell? ⟨p6, 3, none⟩ = some (.int .i64 ak)) := fun Z k => H6.out Z (kk.trans k)
          replace H7 : Hid (∀ Z, Kept w6 Z → Z.cell? ⟨p7, 0, none⟩ = some (.slice ta tn tc) ∧ Z.cell? ⟨p7, 1, none⟩ = some (.int .i64 E)) := fun Z k => H7.out Z (kk.trans k)
          replace H9 : Hid (∀ Z, Kept w6 Z → Z.cell? ⟨p9, 0, none⟩ = some (.int .i64 k) ∧ Z.cell? ⟨p9, 1, none⟩ = some (.int .i64 f) ∧ Z.cell? ⟨p9, 2, none⟩ = some (.int .i64 t) ∧ Z.cell? ⟨p9, 3, none⟩ = some (.int .i64 e) ∧ Z.cell? ⟨p9, 4, none⟩ = some (.int .i64 o) ∧ Z.cell? ⟨p9, 5, none⟩ = some (.int .i64 p) ∧ Z.cell? ⟨p9, 6, none⟩ = some (.slice ma mn mc) ∧ Z.cell? ⟨p9, 7, none⟩ = some (.slice mta mtn mtc) ∧ Z.cell? ⟨p9, 8, none⟩ = some (.int .i64 mte)) := fun Z k => H9.out Z (kk.trans k)
          replace H14 : Hid (∀ Z, Kept w6 Z → Z.cell? ⟨p14, 0, none⟩ = some (.int .i64 k0) ∧ Z.cell? ⟨p14, 1, none⟩ = some (.int .i64 f0) ∧ Z.cell? ⟨p14, 2, none⟩ = some (.int .i64 t0) ∧ Z.cell? ⟨p14, 3, none⟩ = some (.int .i64 e0) ∧ Z.cell? ⟨p14, 4, none⟩ = some (.int .i64 o0) ∧ Z.cell? ⟨p14, 5, none⟩ = some (.int .i64 p0) ∧ Z.cell? ⟨p14, 6, none⟩ = some (.slice a1 n0 c1) ∧ Z.cell? ⟨p14, 7, none⟩ = some (.slice none 0 0) ∧ Z.cell? ⟨p14, 8, none⟩ = some (.int .i64 0)) := fun Z k => H14.out Z (kk.trans k)
          replace HQ1 : Hid (∀ Z, Kept w6 Z → SlQ Z a1 n0 c1 R0) := fun Z k => HQ1.out Z (kk.trans k)
          replace H16 : Hid (∀ Z, Kept w6 Z → Z.cell? ⟨p16, 0, none⟩ = some (.int .i64 k0) ∧ Z.cell? ⟨p16, 1, none⟩ = some (.int .i64 f0) ∧ Z.cell? ⟨p16, 2, none⟩ = some (.int .i64 t0) ∧ Z.cell? ⟨p16, 3, none⟩ = some (.int .i64 e0) ∧ Z.cell? ⟨p16, 4, none⟩ = some (.int .i64 o0) ∧ Z.cell? ⟨p16, 5, none⟩ = some (.int .i64 p0) ∧ Z.cell? ⟨p16, 6, none⟩ = some (.slice a5 n0 c5) ∧ Z.cell? ⟨p16, 7, none⟩ = some (.slice none 0 0) ∧ Z.cell? ⟨p16, 8, none⟩ = some (.int .i64 0)) := fun Z k => H16.out Z (kk.trans k)
          replace HS5 : Hid (∀ Z, Kept w6 Z → SlRR Z a5 n0 c5 L0) := fun Z k => HS5.out Z (kk.trans k)
          replace H18 : Hid (∀ Z, Kept w6 Z → Z.cell? ⟨p18, 0, none⟩ = some (.int .i64 x0) ∧ Z.cell? ⟨p18, 1, none⟩ = some (.int .i64 x1) ∧ Z.cell? ⟨p18, 2, none⟩ = some (.int .i64 x2) ∧ Z.cell? ⟨p18, 3, none⟩ = some (.int .i64 x3)) := fun Z k => H18.out Z (kk.trans k)
          replace KW := KW.trans kk
          clear kk
          have H20 : Hid (∀ Z, Kept w6 Z → Z.cell? ⟨p20, 0, none⟩ = some (.int .i64 x0) ∧ Z.cell? ⟨p20, 1, none⟩ = some (.int .i64 x1) ∧ Z.cell? ⟨p20, 2, none⟩ = some (.int .i64 x2) ∧ Z.cell? ⟨p20, 3, none⟩ = some (.int .i64 x3)) := fun Z k => ⟨k.cel zq0, k.cel zq1, k.cel zq2, k.cel zq3⟩
          clear zq0 zq1 zq2 zq3
          obtain ⟨n1, n2, n3, n4, en, hN1, hN2⟩ : ∃ n1 n2 n3 n4 en : Int, (∀ W, Calls Try.prog 9 #[.int .i64 who, .int .i64 ep, .int .i64 nx] W fun e' w' => e' = .returned (.tuple #[.agg #[.int .i64 n1, .int .i64 n2, .int .i64 n3, .int .i64 n4], .int .i64 en]) ∧ Kept W w') ∧ (∀ W, Calls Try.prog 22 #[.int .i64 who, .int .i64 ep, .int .i64 nx] W fun e' w' => e' = .returned (.tuple #[.agg #[.int .i64 n1, .int .i64 n2, .int .i64 n3, .int .i64 n4], .int .i64 en]) ∧ Kept W w') := ⟨_, _, _, _, _, fun W => ship_new who ep nx W, fun W => ref_new who ep nx W⟩
          have HN1 := Lib.hid hN1
          have HN2 := Lib.hid hN2
          clear hN1 hN2
          obtain ⟨s0, s1, s2, s3⟩ := H6.out _ (Kept.refl _)
          go_wp2_with fail
          refine (HN1.out _).mono ?_
          rintro e' v7 ⟨rfl, J⟩
          clear s0 s1 s2 s3
          have kk := J.trans (kept_al v7 (.cells #[.int .i64 n1, .int .i64 n2, .int .i64 n3, .int .i64 n4] 29))
          have hb := heap_alloc_new v7 (.cells #[.int .i64 n1, .int .i64 n2, .int .i64 n3, .int .i64 n4] 29)
          have H22 : Hid (∀ Z, Kept (v7.alloc (.cells #[.int .i64 n1, .int .i64 n2, .int .i64 n3, .int .i64 n4] 29)) Z → Z.cell? ⟨v7.heap.size, 0, none⟩ = some (.int .i64 n1) ∧ Z.cell? ⟨v7.heap.size, 1, none⟩ = some (.int .i64 n2) ∧ Z.cell? ⟨v7.heap.size, 2, none⟩ = some (.int .i64 n3) ∧ Z.cell? ⟨v7.heap.size, 3, none⟩ = some (.int .i64 n4)) := fun Z k => by
            obtain ⟨s0, s1, s2, s3⟩ := four_cells hb
            exact ⟨k.cel s0, k.cel s1, k.cel s2, k.cel s3⟩
          clear hb J
          go_upto_region 15 with fail
          generalize World.alloc v7 _ = w7 at *
          generalize v7.heap.size = p22 at *
          replace H6 : Hid (∀ Z, Kept w7 Z → Z.cell? ⟨p6, 0, none⟩ = some (.int .i64 who) ∧ Z.cell? ⟨p6, 1, none⟩ = some (.int .i64 ep) ∧ Z.cell? ⟨p6, 2, none⟩ = some (.int .i64 nx) ∧ Z.cell? ⟨p6, 3, none⟩ = some (.int .i64 ak)) := fun Z k => H6.out Z (kk.trans k)
          replace H7 : Hid (∀ Z, Kept w7 Z → Z.cell? ⟨p7, 0, none⟩ = some (.slice ta tn tc) ∧ Z.cell? ⟨p7, 1, none⟩ = some (.int .i64 E)) := fun Z k => H7.out Z (kk.trans k)
          replace H9 : Hid (∀ Z, Kept w7 Z → Z.cell? ⟨p9, 0, none⟩ = some (.int .i64 k) ∧ Z.cell? ⟨p9, 1, none⟩ = some (.int .i64 f) ∧ Z.cell? ⟨p9, 2, none⟩ = some (.int .i64 t) ∧ Z.cell? ⟨p9, 3, none⟩ = some (.int .i64 e) ∧ Z.cell? ⟨p9, 4, none⟩ = some (.int .i64 o) ∧ Z.cell? ⟨p9, 5, none⟩ = some (.int .i64 p) ∧ Z.cell? ⟨p9, 6, none⟩ = some (.slice ma mn mc) ∧ Z.cell? ⟨p9, 7, none⟩ = some (.slice mta mtn mtc) ∧ Z.cell? ⟨p9, 8, none⟩ = some (.int .i64 mte)) := fun Z k => H9.out Z (kk.trans k)
          replace H14 : Hid (∀ Z, Kept w7 Z → Z.cell? ⟨p14, 0, none⟩ = some (.int .i64 k0) ∧ Z.cell? ⟨p14, 1, none⟩ = some (.int .i64 f0) ∧ Z.cell? ⟨p14, 2, none⟩ = some (.int .i64 t0) ∧ Z.cell? ⟨p14, 3, none⟩ = some (.int .i64 e0) ∧ Z.cell? ⟨p14, 4, none⟩ = some (.int .i64 o0) ∧ Z.cell? ⟨p14, 5, none⟩ = some (.int .i64 p0) ∧ Z.cell? ⟨p14, 6, none⟩ = some (.slice a1 n0 c1) ∧ Z.cell? ⟨p14, 7, none⟩ = some (.slice none 0 0) ∧ Z.cell? ⟨p14, 8, none⟩ = some (.int .i64 0)) := fun Z k => H14.out Z (kk.trans k)
          replace HQ1 : Hid (∀ Z, Kept w7 Z → SlQ Z a1 n0 c1 R0) := fun Z k => HQ1.out Z (kk.trans k)
          replace H16 : Hid (∀ Z, Kept w7 Z → Z.cell? ⟨p16, 0, none⟩ = some (.int .i64 k0) ∧ Z.cell? ⟨p16, 1, none⟩ = some (.int .i64 f0) ∧ Z.cell? ⟨p16, 2, none⟩ = some (.int .i64 t0) ∧ Z.cell? ⟨p16, 3, none⟩ = some (.int .i64 e0) ∧ Z.cell? ⟨p16, 4, none⟩ = some (.int .i64 o0) ∧ Z.cell? ⟨p16, 5, none⟩ = some (.int .i64 p0) ∧ Z.cell? ⟨p16, 6, none⟩ = some (.slice a5 n0 c5) ∧ Z.cell? ⟨p16, 7, none⟩ = some (.slice none 0 0) ∧ Z.cell? ⟨p16, 8, none⟩ = some (.int .i64 0)) := fun Z k => H16.out Z (kk.trans k)
          replace HS5 : Hid (∀ Z, Kept w7 Z → SlRR Z a5 n0 c5 L0) := fun Z k => HS5.out Z (kk.trans k)
          replace H18 : Hid (∀ Z, Kept w7 Z → Z.cell? ⟨p18, 0, none⟩ = some (.int .i64 x0) ∧ Z.cell? ⟨p18, 1, none⟩ = some (.int .i64 x1) ∧ Z.cell? ⟨p18, 2, none⟩ = some (.int .i64 x2) ∧ Z.cell? ⟨p18, 3, none⟩ = some (.int .i64 x3)) := fun Z k => H18.out Z (kk.trans k)
          replace H20 : Hid (∀ Z, Kept w7 Z → Z.cell? ⟨p20, 0, none⟩ = some (.int .i64 x0) ∧ Z.cell? ⟨p20, 1, none⟩ = some (.int .i64 x1) ∧ Z.cell? ⟨p20, 2, none⟩ = some (.int .i64 x2) ∧ Z.cell? ⟨p20, 3, none⟩ = some (.int .i64 x3)) := fun Z k => H20.out Z (kk.trans k)
          replace KW := KW.trans kk
          clear kk
          obtain ⟨s0, s1, s2, s3⟩ := H6.out _ (Kept.refl _)
          go_wp2_with fail
          refine (HN2.out _).mono ?_
          rintro e' v8 ⟨rfl, J⟩
          clear s0 s1 s2 s3
          have kk := J.trans (kept_al v8 (.cells #[.int .i64 n1, .int .i64 n2, .int .i64 n3, .int .i64 n4] 57))
          have hb := heap_alloc_new v8 (.cells #[.int .i64 n1, .int .i64 n2, .int .i64 n3, .int .i64 n4] 57)
          have H24 : Hid (∀ Z, Kept (v8.alloc (.cells #[.int .i64 n1, .int .i64 n2, .int .i64 n3, .int .i64 n4] 57)) Z → Z.cell? ⟨v8.heap.size, 0, none⟩ = some (.int .i64 n1) ∧ Z.cell? ⟨v8.heap.size, 1, none⟩ = some (.int .i64 n2) ∧ Z.cell? ⟨v8.heap.size, 2, none⟩ = some (.int .i64 n3) ∧ Z.cell? ⟨v8.heap.size, 3, none⟩ = some (.int .i64 n4)) := fun Z k => by
            obtain ⟨s0, s1, s2, s3⟩ := four_cells hb
            exact ⟨k.cel s0, k.cel s1, k.cel s2, k.cel s3⟩
          clear hb J
          go_upto_region 16 with fail
          generalize World.alloc v8 _ = w8 at *
          generalize v8.heap.size = p24 at *
          replace H6 : Hid (∀ Z, Kept w8 Z → Z.cell? ⟨p6, 0, none⟩ = some (.int .i64 who) ∧ Z.cell? ⟨p6, 1, none⟩ = some (.int .i64 ep) ∧ Z.cell? ⟨p6, 2, none⟩ = some (.int .i64 nx) ∧ Z.cell? ⟨p6, 3, none⟩ = some (.int .i64 ak)) := fun Z k => H6.out Z (kk.trans k)
          replace H7 : Hid (∀ Z, Kept w8 Z → Z.cell? ⟨p7, 0, none⟩ = some (.slice ta tn tc) ∧ Z.cell? ⟨p7, 1, none⟩ = some (.int .i64 E)) := fun Z k => H7.out Z (kk.trans k)
          replace H9 : Hid (∀ Z, Kept w8 Z → Z.cell? ⟨p9, 0, none⟩ = some (.int .i64 k) ∧ Z.cell? ⟨p9, 1, none⟩ = some (.int .i64 f) ∧ Z.cell? ⟨p9, 2, none⟩ = some (.int .i64 t) ∧ Z.cell? ⟨p9, 3, none⟩ = some (.int .i64 e) ∧ Z.cell? ⟨p9, 4, none⟩ = some (.int .i64 o) ∧ Z.cell? ⟨p9, 5, none⟩ = some (.int .i64 p) ∧ Z.cell? ⟨p9, 6, none⟩ = some (.slice ma mn mc) ∧ Z.cell? ⟨p9, 7, none⟩ = some (.slice mta mtn mtc) ∧ Z.cell? ⟨p9, 8, none⟩ = some (.int .i64 mte)) := fun Z k => H9.out Z (kk.trans k)
          replace H14 : Hid (∀ Z, Kept w8 Z → Z.cell? ⟨p14, 0, none⟩ = some (.int .i64 k0) ∧ Z.cell? ⟨p14, 1, none⟩ = some (.int .i64 f0) ∧ Z.cell? ⟨p14, 2, none⟩ = some (.int .i64 t0) ∧ Z.cell? ⟨p14, 3, none⟩ = some (.int .i64 e0) ∧ Z.cell? ⟨p14, 4, none⟩ = some (.int .i64 o0) ∧ Z.cell? ⟨p14, 5, none⟩ = some (.int .i64 p0) ∧ Z.cell? ⟨p14, 6, none⟩ = some (.slice a1 n0 c1) ∧ Z.cell? ⟨p14, 7, none⟩ = some (.slice none 0 0) ∧ Z.cell? ⟨p14, 8, none⟩ = some (.int .i64 0)) := fun Z k => H14.out Z (kk.trans k)
          replace HQ1 : Hid (∀ Z, Kept w8 Z → SlQ Z a1 n0 c1 R0) := fun Z k => HQ1.out Z (kk.trans k)
          replace H16 : Hid (∀ Z, Kept w8 Z → Z.cell? ⟨p16, 0, none⟩ = some (.int .i64 k0) ∧ Z.cell? ⟨p16, 1, none⟩ = some (.int .i64 f0) ∧ Z.cell? ⟨p16, 2, none⟩ = some (.int .i64 t0) ∧ Z.cell? ⟨p16, 3, none⟩ = some (.int .i64 e0) ∧ Z.cell? ⟨p16, 4, none⟩ = some (.int .i64 o0) ∧ Z.cell? ⟨p16, 5, none⟩ = some (.int .i64 p0) ∧ Z.cell? ⟨p16, 6, none⟩ = some (.slice a5 n0 c5) ∧ Z.cell? ⟨p16, 7, none⟩ = some (.slice none 0 0) ∧ Z.cell? ⟨p16, 8, none⟩ = some (.int .i64 0)) := fun Z k => H16.out Z (kk.trans k)
          replace HS5 : Hid (∀ Z, Kept w8 Z → SlRR Z a5 n0 c5 L0) := fun Z k => HS5.out Z (kk.trans k)
          replace H18 : Hid (∀ Z, Kept w8 Z → Z.cell? ⟨p18, 0, none⟩ = some (.int .i64 x0) ∧ Z.cell? ⟨p18, 1, none⟩ = some (.int .i64 x1) ∧ Z.cell? ⟨p18, 2, none⟩ = some (.int .i64 x2) ∧ Z.cell? ⟨p18, 3, none⟩ = some (.int .i64 x3)) := fun Z k => H18.out Z (kk.trans k)
          replace H20 : Hid (∀ Z, Kept w8 Z → Z.cell? ⟨p20, 0, none⟩ = some (.int .i64 x0) ∧ Z.cell? ⟨p20, 1, none⟩ = some (.int .i64 x1) ∧ Z.cell? ⟨p20, 2, none⟩ = some (.int .i64 x2) ∧ Z.cell? ⟨p20, 3, none⟩ = some (.int .i64 x3)) := fun Z k => H20.out Z (kk.trans k)
          replace H22 : Hid (∀ Z, Kept w8 Z → Z.cell? ⟨p22, 0, none⟩ = some (.int .i64 n1) ∧ Z.cell? ⟨p22, 1, none⟩ = some (.int .i64 n2) ∧ Z.cell? ⟨p22, 2, none⟩ = some (.int .i64 n3) ∧ Z.cell? ⟨p22, 3, none⟩ = some (.int .i64 n4)) := fun Z k => H22.out Z (kk.trans k)
          replace KW := KW.trans kk
          clear kk
          have HS : Hid (∀ Z, Kept w8 Z → Z.cell? ⟨p14, 0, none⟩ = some (.int .i64 k0) ∧ Z.cell? ⟨p14, 1, none⟩ = some (.int .i64 f0) ∧ Z.cell? ⟨p14, 2, none⟩ = some (.int .i64 t0) ∧ Z.cell? ⟨p14, 3, none⟩ = some (.int .i64 e0) ∧ Z.cell? ⟨p14, 4, none⟩ = some (.int .i64 o0) ∧ Z.cell? ⟨p14, 5, none⟩ = some (.int .i64 p0) ∧ Z.cell? ⟨p14, 6, none⟩ = some (.slice a1 n0 c1) ∧ Z.cell? ⟨p14, 7, none⟩ = some (.slice none 0 0) ∧ Z.cell? ⟨p14, 8, none⟩ = some (.int .i64 0) ∧ Z.cell? ⟨p16, 0, none⟩ = some (.int .i64 k0) ∧ Z.cell? ⟨p16, 1, none⟩ = some (.int .i64 f0) ∧ Z.cell? ⟨p16, 2, none⟩ = some (.int .i64 t0) ∧ Z.cell? ⟨p16, 3, none⟩ = some (.int .i64 e0) ∧ Z.cell? ⟨p16, 4, none⟩ = some (.int .i64 o0) ∧ Z.cell? ⟨p16, 5, none⟩ = some (.int .i64 p0) ∧ Z.cell? ⟨p16, 6, none⟩ = some (.slice a5 n0 c5) ∧ Z.cell? ⟨p16, 7, none⟩ = some (.slice none 0 0) ∧ Z.cell? ⟨p16, 8, none⟩ = some (.int .i64 0) ∧ Z.cell? ⟨p18, 0, none⟩ = some (.int .i64 x0) ∧ Z.cell? ⟨p18, 1, none⟩ = some (.int .i64 x1) ∧ Z.cell? ⟨p18, 2, none⟩ = some (.int .i64 x2) ∧ Z.cell? ⟨p18, 3, none⟩ = some (.int .i64 x3) ∧ Z.cell? ⟨p20, 0, none⟩ = some (.int .i64 x0) ∧ Z.cell? ⟨p20, 1, none⟩ = some (.int .i64 x1) ∧ Z.cell? ⟨p20, 2, none⟩ = some (.int .i64 x2) ∧ Z.cell? ⟨p20, 3, none⟩ = some (.int .i64 x3) ∧ Z.cell? ⟨p22, 0, none⟩ = some (.int .i64 n1) ∧ Z.cell? ⟨p22, 1, none⟩ = some (.int .i64 n2) ∧ Z.cell? ⟨p22, 2, none⟩ = some (.int .i64 n3) ∧ Z.cell? ⟨p22, 3, none⟩ = some (.int .i64 n4) ∧ Z.cell? ⟨p24, 0, none⟩ = some (.int .i64 n1) ∧ Z.cell? ⟨p24, 1, none⟩ = some (.int .i64 n2) ∧ Z.cell? ⟨p24, 2, none⟩ = some (.int .i64 n3) ∧ Z.cell? ⟨p24, 3, none⟩ = some (.int .i64 n4) ∧ Z.cell? ⟨p6, 0, none⟩ = some (.int .i64 who) ∧ Z.cell? ⟨p6, 1, none⟩ = some (.int .i64 ep) ∧ Z.cell? ⟨p6, 2, none⟩ = some (.int .i64 nx) ∧ Z.cell? ⟨p6, 3, none⟩ = some (.int .i64 ak)) := fun Z k => by
            obtain ⟨xH140, xH141, xH142, xH143, xH144, xH145, xH146, xH147, xH148⟩ := H14.out Z k
            obtain ⟨xH160, xH161, xH162, xH163, xH164, xH165, xH166, xH167, xH168⟩ := H16.out Z k
            obtain ⟨xH180, xH181, xH182, xH183⟩ := H18.out Z k
            obtain ⟨xH200, xH201, xH202, xH203⟩ := H20.out Z k
            obtain ⟨xH220, xH221, xH222, xH223⟩ := H22.out Z k
            obtain ⟨xH240, xH241, xH242, xH243⟩ := H24.out Z k
            obtain ⟨xH60, xH61, xH62, xH63⟩ := H6.out Z k
            exact ⟨xH140, xH141, xH142, xH143, xH144, xH145, xH146, xH147, xH148, xH160, xH161, xH162, xH163, xH164, xH165, xH166, xH167, xH168, xH180, xH181, xH182, xH183, xH200, xH201, xH202, xH203, xH220, xH221, xH222, xH223, xH240, xH241, xH242, xH243, xH60, xH61, xH62, xH63⟩
          have KD : Kept w8 w8.drew := (Kept.refl _).dr ⟨1, rfl⟩
          have b1 : (er == er) = true := by simp
          have b2 : (et == et) = true := by simp
          have b3 : (en == en) = true := by simp
          obtain ⟨dn, hdn⟩ : ∃ dn, doneI ⟨who, ep, nx, ak⟩ sure solo = dn := ⟨_, rfl⟩
          have b4 : (dn == dn) = true := by simp
          have HE := run_eqSR
          have HD1 := Lib.hid (fun W => ship_doneI ⟨who, ep, nx, ak⟩ sure solo W)
          have HD2 := Lib.hid (fun W => ref_done ⟨who, ep, nx, ak⟩ sure solo W)
          unfold SV.v at HD1 HD2
          dsimp only at HD1 HD2
          rw [hdn] at HD1 HD2
          clear hdn
          go_region_held3 (fun Z => Z.cell? ⟨p14, 0, none⟩ = some (.int .i64 k0) ∧ Z.cell? ⟨p14, 1, none⟩ = some (.int .i64 f0) ∧ Z.cell? ⟨p14, 2, none⟩ = some (.int .i64 t0) ∧ Z.cell? ⟨p14, 3, none⟩ = some (.int .i64 e0) ∧ Z.cell? ⟨p14, 4, none⟩ = some (.int .i64 o0) ∧ Z.cell? ⟨p14, 5, none⟩ = some (.int .i64 p0) ∧ Z.cell? ⟨p14, 6, none⟩ = some (.slice a1 n0 c1) ∧ Z.cell? ⟨p14, 7, none⟩ = some (.slice none 0 0) ∧ Z.cell? ⟨p14, 8, none⟩ = some (.int .i64 0) ∧ Z.cell? ⟨p16, 0, none⟩ = some (.int .i64 k0) ∧ Z.cell? ⟨p16, 1, none⟩ = some (.int .i64 f0) ∧ Z.cell? ⟨p16, 2, none⟩ = some (.int .i64 t0) ∧ Z.cell? ⟨p16, 3, none⟩ = some (.int .i64 e0) ∧ Z.cell? ⟨p16, 4, none⟩ = some (.int .i64 o0) ∧ Z.cell? ⟨p16, 5, none⟩ = some (.int .i64 p0) ∧ Z.cell? ⟨p16, 6, none⟩ = some (.slice a5 n0 c5) ∧ Z.cell? ⟨p16, 7, none⟩ = some (.slice none 0 0) ∧ Z.cell? ⟨p16, 8, none⟩ = some (.int .i64 0) ∧ Z.cell? ⟨p18, 0, none⟩ = some (.int .i64 x0) ∧ Z.cell? ⟨p18, 1, none⟩ = some (.int .i64 x1) ∧ Z.cell? ⟨p18, 2, none⟩ = some (.int .i64 x2) ∧ Z.cell? ⟨p18, 3, none⟩ = some (.int .i64 x3) ∧ Z.cell? ⟨p20, 0, none⟩ = some (.int .i64 x0) ∧ Z.cell? ⟨p20, 1, none⟩ = some (.int .i64 x1) ∧ Z.cell? ⟨p20, 2, none⟩ = some (.int .i64 x2) ∧ Z.cell? ⟨p20, 3, none⟩ = some (.int .i64 x3) ∧ Z.cell? ⟨p22, 0, none⟩ = some (.int .i64 n1) ∧ Z.cell? ⟨p22, 1, none⟩ = some (.int .i64 n2) ∧ Z.cell? ⟨p22, 2, none⟩ = some (.int .i64 n3) ∧ Z.cell? ⟨p22, 3, none⟩ = some (.int .i64 n4) ∧ Z.cell? ⟨p24, 0, none⟩ = some (.int .i64 n1) ∧ Z.cell? ⟨p24, 1, none⟩ = some (.int .i64 n2) ∧ Z.cell? ⟨p24, 2, none⟩ = some (.int .i64 n3) ∧ Z.cell? ⟨p24, 3, none⟩ = some (.int .i64 n4) ∧ Z.cell? ⟨p6, 0, none⟩ = some (.int .i64 who) ∧ Z.cell? ⟨p6, 1, none⟩ = some (.int .i64 ep) ∧ Z.cell? ⟨p6, 2, none⟩ = some (.int .i64 nx) ∧ Z.cell? ⟨p6, 3, none⟩ = some (.int .i64 ak)) (exact HS.out _ KD) (first | (go_at_call 17; refine (law_own _ _ _ _ _).mono ?_; rintro e' V ⟨rfl, J⟩; replace KD : Kept w8 V := KD.trans J; clear J) | (go_at_call 21; refine (law_msgOf ⟨k0, f0, t0, e0, o0, p0, a1, n0, c1, none, 0, 0, 0⟩ R0 L0 [] _ (HQ1.out _ KD) (HB0.out.kept (KW.trans KD)) (sl_nil _ _) (by show n0 ≤ 1000; omega) (by show 0 ≤ 1000; omega)).mono ?_; rintro e' V ⟨a6, c6, a7, c7, rfl, hs6, hs7, J⟩; have HS6 := Lib.hid hs6; have HS7 := Lib.hid hs7; replace KD : Kept w8 V := KD.trans J; clear J hs6 hs7) | (go_at_call 23; refine (law_alike k0 f0 t0 e0 o0 p0 0 a6 n0 c6 a7 0 c7 a5 c5 none 0 L0 [] _ HS6.out HS7.out (HS5.out _ KD) (sl_nil _ _)).mono ?_; rintro e' V ⟨rfl, J⟩; replace KD : Kept w8 V := KD.trans J; clear J) | (go_at_call 15; refine (HD1.out _).mono ?_; rintro e' V ⟨rfl, J⟩; replace KD : Kept w8 V := KD.trans J; clear J) | (go_at_call 24; refine (HD2.out _).mono ?_; rintro e' V ⟨rfl, J⟩; replace KD : Kept w8 V := KD.trans J; clear J))
          all_goals (go_wp2; exact bodyPost_ret (v := .bool true) (by simp [results, Try.results5, go_sem]) rfl ⟨rfl, KW.trans KD⟩)
end Go.Proofs.Ytmkoabalakfehaa
