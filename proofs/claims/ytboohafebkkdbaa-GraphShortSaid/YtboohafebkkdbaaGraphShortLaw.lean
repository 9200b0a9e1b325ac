/- Graphs: Short keeps what is reached. -/
import Derived.Test.YtboohafebkkdbaaGrTy
import Derived.Test.YtboohafebkkdbaaGrM3
import Derived.Test.YtboohafebkkdbaaGrReach
set_option linter.unusedVariables false
set_option linter.unusedSimpArgs false
namespace Go.Proofs.Ytboohafebkkdbaa
open Go.RowKit
theorem short_reach {N : Int} {E : List Ed} (hg : goodG N E = true) (hcy : cycleL N E = []) {n : Int} (hn : inG N n = true) : reachL N (shortL N E) n = reachL N E n :=
  srt_ext (reachL_srt _ _ _) (reachL_srt _ _ _) fun x => by
    rw [mem_reachL (short_good hg) hn, mem_reachL hg hn]
    exact short_way hg hcy n x
set_option maxRecDepth 100000 in
set_option maxHeartbeats 16000000 in
theorem graphShort_law (v0 : Value) (x0 : TyGraph.den) (w : World) (w0 : RepV w TyGraph v0 x0) :
    Calls Try.prog 3 #[v0] w fun e w' => e = .returned (.bool true) ∧ Below w.heap.size w w' := by
  obtain ⟨N, s, m, c, E, rfl, hE, hNb⟩ := repV_graph w0
  have hl := hE.1
  have hnc := hE.2.1
  have hB0 := heap_alloc_new w (.cells #[.int .i64 N, .slice s m c] 24)
  have K0 := kept_al w (.cells #[.int .i64 N, .slice s m c] 24)
  have HE := Lib.hid hE
  have HAw := Lib.hid (awake10 (w.alloc (.cells #[.int .i64 N, .slice s m c] 24)))
  have HK0 := Lib.hid K0
  have HB := Lib.hid hB0
  clear w0 hE K0 hB0
  go_enter Try.func3, Try.ntmps3
  go_wp2_with fail
  generalize World.alloc w _ = X0 at *
  generalize hbx : w.heap.size = bx at *
  refine HAw.out.mono ?_
  rintro E1 V1 ⟨rfl, hK1⟩
  have HB1 := Lib.hid (hK1.only.heap HB.out (by simp))
  have HK1 := Lib.hid (HK0.out.trans hK1)
  have b0 := at_cell HB1.out 0 _ rfl
  have b1 := at_cell HB1.out 1 _ rfl
  clear hK1 HAw
  by_cases hm : m ≤ 60
  · have g1 : ¬ (60 : Int) < m := by omega
    have HGd := Lib.hid (g_good N (HE.out.kept HK1.out) (by omega))
    go_wp2_with fail
    refine HGd.out.mono ?_
    rintro E2 V2 ⟨rfl, hK2⟩
    have HB2 := Lib.hid (hK2.only.heap HB1.out (by simp))
    have HK2 := Lib.hid (HK1.out.trans hK2)
    replace b0 := hK2.cel b0
    replace b1 := hK2.cel b1
    clear hK2 HGd
    cases hg : goodG N E with
    | false =>
      go_wp2_with fail
      go_ret
      exact ⟨rfl, HK2.out⟩
    | true =>
      have HG : Hid (goodG N E = true) := hg
      clear hg
      have HCy := Lib.hid (g_cycle N (HE.out.kept HK2.out) (by omega))
      go_wp2_with fail
      refine HCy.out.mono ?_
      rintro E3 V3 ⟨ca, ck, cc, rfl, hSc, hK3, hck, -⟩
      have hcl := hSc.1
      have HB3 := Lib.hid (hK3.only.heap HB2.out (by simp))
      have HK3 := Lib.hid (HK2.out.trans hK3)
      replace b0 := hK3.cel b0
      replace b1 := hK3.cel b1
      clear hK3 HCy hSc
      by_cases hc0 : 0 < ck
      · have g2 : (0 : Int) < ck := by omega
        go_wp2_with fail
        go_ret
        exact ⟨rfl, HK3.out⟩
      · have g2 : ¬ (0 : Int) < ck := by omega
        have HC0 : Hid (cycleL N E = []) := List.length_eq_zero_iff.1 (by omega)
        have hN := good_N HG.out
        have HSh := Lib.hid (g_short N (HE.out.kept HK3.out) (by omega))
        clear hcl hc0
        go_wp2_with fail
        refine HSh.out.mono ?_
        rintro E4 V4 ⟨sa, sk, sc, rfl, hSs, hK4, hsk⟩
        have KB := kept_al V4 (.cells #[.int .i64 N, .slice sa sk sc] 24)
        have HBS := heap_alloc_new V4 (.cells #[.int .i64 N, .slice sa sk sc] 24)
        have HBG := Lib.hid ((hK4.trans KB).only.heap HB3.out (by simp))
        have HKA := Lib.hid ((HK3.out.trans hK4).trans KB)
        have HES := Lib.hid (hSs.kept KB)
        have HEG := Lib.hid (HE.out.kept ((HK3.out.trans hK4).trans KB))
        have HBS := Lib.hid HBS
        clear hSs hK4 KB HSh b0 b1
        go_wp2_with fail
        generalize World.alloc V4 _ = A at *
        generalize hbs : V4.heap.size = bs at *
        clear hbs
        go_loopw [4] (fun v wr => ∃ (z : Int), v = .int .i64 z ∧ 0 ≤ z ∧ z ≤ N ∧ Hid (Kept A wr)) (fun v _ => N.toNat - (intOf v).toNat)
        case atStart => exact ⟨0, rfl, by omega, by omega, Kept.refl _⟩
        case round =>
          obtain ⟨z, rfl, hz0, hz1, HKW⟩ := hrel
          have c0 := at_cell (HKW.out.only.heap HBG.out (by simp)) 0 (.int .i64 N) rfl
          by_cases hlt : z < N
          · have HIn : Hid (inG N z = true) := decide_eq_true ⟨hz0, hlt⟩
            have HS : Hid (∀ Z, Kept wr Z → Z.cell? ⟨bx, 0, none⟩ = some (.int .i64 N) ∧ Z.cell? ⟨bx, 1, none⟩ = some (.slice s m c) ∧ Z.cell? ⟨bs, 0, none⟩ = some (.int .i64 N) ∧ Z.cell? ⟨bs, 1, none⟩ = some (.slice sa sk sc)) := fun Z hZ => by
              have K7 := HKW.out.trans hZ
              exact ⟨at_cell (K7.only.heap HBG.out (by simp)) 0 (.int .i64 N) rfl, at_cell (K7.only.heap HBG.out (by simp)) 1 (.slice s m c) rfl, at_cell (K7.only.heap HBS.out (by simp)) 0 (.int .i64 N) rfl, at_cell (K7.only.heap HBS.out (by simp)) 1 (.slice sa sk sc) rfl⟩
            have HRs : Hid (∀ Z, Kept wr Z → Calls Try.prog 13 #[.agg #[.int .i64 N, .slice sa sk sc], .int .i64 z] Z fun e w' => ∃ (a : Option Addr) (k c' : Nat), e = .returned (.slice a k c') ∧ Sl .i64 w' a k c' (reachL N E z) ∧ Kept Z w' ∧ k ≤ 16 ∧ (∀ y, a = some y → Z.heap.size ≤ y.block)) := fun Z hZ => by
              rw [← short_reach HG.out HC0.out HIn.out]
              exact g_reach N z (HES.out.kept (HKW.out.trans hZ)) (by omega)
            have HRg : Hid (∀ Z, Kept wr Z → Calls Try.prog 13 #[.agg #[.int .i64 N, .slice s m c], .int .i64 z] Z fun e w' => ∃ (a : Option Addr) (k c' : Nat), e = .returned (.slice a k c') ∧ Sl .i64 w' a k c' (reachL N E z) ∧ Kept Z w' ∧ k ≤ 16 ∧ (∀ y, a = some y → Z.heap.size ≤ y.block)) := fun Z hZ => g_reach N z (HEG.out.kept (HKW.out.trans hZ)) (by omega)
            have tok : Hid True := trivial
            go_upto_region 9 with fail
            have KD : Kept wr wr.drew := (Kept.refl _).dr ⟨1, rfl⟩
            go_region_held3 (fun Z => Z.cell? ⟨bx, 0, none⟩ = some (.int .i64 N) ∧ Z.cell? ⟨bx, 1, none⟩ = some (.slice s m c) ∧ Z.cell? ⟨bs, 0, none⟩ = some (.int .i64 N) ∧ Z.cell? ⟨bs, 1, none⟩ = some (.slice sa sk sc)) (exact HS.out _ KD) (first | (go_at_call 13; replace tok := tok; clear tok; refine (HRs.out _ KD).mono ?_; rintro E5 V5 ⟨ta, tk, tc, rfl, hSt, J, htk, -⟩; have HSt := Lib.hid hSt; clear hSt; replace KD := KD.trans J; have HJ := Lib.hid J; clear J) | (go_at_call 13; refine (HRg.out _ KD).mono ?_; rintro E6 V6 ⟨ua, uk, uc, rfl, hSu, J, huk, -⟩; have HSu := Lib.hid hSu; replace HSt := Lib.hid (J.sl HSt.out); clear hSu; replace KD := KD.trans J; clear J) | (go_at_call 12; refine (ints_law HSt.out HSu.out (by omega) (by omega)).mono ?_; rintro E7 V7 ⟨h7, J⟩; rw [beq_self_eq_true] at h7; subst h7; replace KD := KD.dr J; clear J))
            rename_i hHeld
            clear hHeld HS HRs HRg HSt HSu HJ htk huk
            have HK7 := Lib.hid (HKW.out.trans KD)
            clear KD
            go_wp2_with fail
            go_roundw
            case rel => exact ⟨z + 1, rfl, by omega, by omega, HK7.out⟩
            case measure => simp [intOf]; omega
          · have hge : N ≤ z := by omega
            have d0 := at_cell (HKW.out.only.heap HBS.out (by simp)) 0 (.int .i64 N) rfl
            have d1 := at_cell (HKW.out.only.heap HBS.out (by simp)) 1 (.slice sa sk sc) rfl
            have HSh := Lib.hid (g_short N (HES.out.kept HKW.out) (by omega))
            rw [short_short HG.out HC0.out] at HSh
            have hsl := HES.out.1
            go_wp2_with fail
            refine HSh.out.mono ?_
            rintro E5 V5 ⟨ta, tk, tc, rfl, hSt, hK5, htk⟩
            obtain rfl : sk = tk := hsl.symm.trans hSt.1
            have KB := kept_al V5 (.cells #[.int .i64 N, .slice ta sk tc] 24)
            have hBT := heap_alloc_new V5 (.cells #[.int .i64 N, .slice ta sk tc] 24)
            have e0 := at_cell hBT 0 _ rfl
            have e1 := at_cell hBT 1 _ rfl
            have hK6 := hK5.trans KB
            have K8 := HKW.out.trans hK6
            replace c0 := hK6.cel c0
            replace d0 := hK6.cel d0
            replace d1 := hK6.cel d1
            have c1 := at_cell (K8.only.heap HBG.out (by simp)) 1 (.slice s m c) rfl
            have HKF := Lib.hid (HKA.out.trans K8)
            have g3 : (sk : Int) ≤ m := by omega
            clear hSt hK5 KB hBT hK6 K8 HSh hsl
            go_wp2_with fail
            go_ret
            exact ⟨rfl, HKF.out⟩
  · have g1 : (60 : Int) < m := by omega
    go_wp2_with fail
    go_ret
    exact ⟨rfl, HK1.out⟩
end Go.Proofs.Ytboohafebkkdbaa
