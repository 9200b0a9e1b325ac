/- Graphs: a cycle that is told is one. -/
import Derived.Test.YtboohafebkkdbaaGrTy
import Derived.Test.YtboohafebkkdbaaGrM2
import Derived.Test.YtboohafebkkdbaaGrReach
set_option linter.unusedVariables false
set_option linter.unusedSimpArgs false
namespace Go.Proofs.Ytboohafebkkdbaa
open Go.RowKit
theorem take_mem_succ {α : Type} {l : List α} {q : Nat} {x : α} (h : l[q]? = some x) (y : α) : y ∈ l.take (q + 1) ↔ y ∈ l.take q ∨ y = x := by
  rw [List.take_add_one, h, List.mem_append]; simp
set_option maxRecDepth 100000 in
set_option maxHeartbeats 16000000 in
theorem graphCycles_law (v0 : Value) (x0 : TyGraph.den) (w : World) (w0 : RepV w TyGraph v0 x0) :
    Calls Try.prog 7 #[v0] w fun e w' => e = .returned (.bool true) ∧ Below w.heap.size w w' := by
  obtain ⟨N, s, m, c, E, rfl, hE, hNb⟩ := repV_graph w0
  have hl := hE.1
  have hnc := hE.2.1
  have hB0 := heap_alloc_new w (.cells #[.int .i64 N, .slice s m c] 24)
  have K0 := kept_al w (.cells #[.int .i64 N, .slice s m c] 24)
  have HE := Lib.hid hE
  have HAw := Lib.hid (awake10 (w.alloc (.cells #[.int .i64 N, .slice s m c] 24)))
  have HK0 := Lib.hid K0
  have HB := Lib.hid hB0
  clear w0 hE K0 hB0
  go_enter Try.func7, Try.ntmps7
  go_wp2_with fail
  generalize World.alloc w _ = X0 at *
  generalize hbx : w.heap.size = bx at *
  refine HAw.out.mono ?_
  rintro E1 V1 ⟨rfl, hK1⟩
  have HB1 := Lib.hid (hK1.only.heap HB.out (by simp))
  have HK1 := Lib.hid (HK0.out.trans hK1)
  have b0 := at_cell HB1.out 0 _ rfl
  have b1 := at_cell HB1.out 1 _ rfl
  clear hK1 HAw
  by_cases hm : m ≤ 60
  · have g1 : ¬ (60 : Int) < m := by omega
    have HGd := Lib.hid (g_good N (HE.out.kept HK1.out) (by omega))
    go_wp2_with fail
    refine HGd.out.mono ?_
    rintro E2 V2 ⟨rfl, hK2⟩
    have HB2 := Lib.hid (hK2.only.heap HB1.out (by simp))
    have HK2 := Lib.hid (HK1.out.trans hK2)
    replace b0 := hK2.cel b0
    replace b1 := hK2.cel b1
    clear hK2 HGd
    cases hg : goodG N E with
    | false =>
      go_wp2_with fail
      go_ret
      exact ⟨rfl, HK2.out⟩
    | true =>
      have HG : Hid (goodG N E = true) := hg
      clear hg
      have hN := good_N HG.out
      have HCy := Lib.hid (g_cycle N (HE.out.kept HK2.out) (by omega))
      go_wp2_with fail
      refine HCy.out.mono ?_
      rintro E3 V3 ⟨ca, ck, cc, rfl, hSc, hK3, hck, -⟩
      have hcl := hSc.1
      have hcc := hSc.2.1
      have HB3 := Lib.hid (hK3.only.heap HB2.out (by simp))
      have HK3 := Lib.hid (HK2.out.trans hK3)
      have HNone := Lib.hid (cyc_none HG.out)
      have HLaw := Lib.hid (fun i x => cyc_law HG.out i x)
      obtain ⟨C, hC⟩ : ∃ C, cycleL N E = C := ⟨_, rfl⟩
      rw [hC] at hSc hcl HNone HLaw
      have HSc := Lib.hid hSc
      clear hK3 HCy hSc b0 b1 hC
      go_wp2_with fail
      go_loopw [4, 5] (fun v4 v5 wr => ∃ (b : Bool) (z : Int), v4 = .bool b ∧ v5 = .int .i64 z ∧ 0 ≤ z ∧ z ≤ N ∧ Hid (b = true ↔ ∃ n, 0 ≤ n ∧ n < z ∧ Way E n n) ∧ Hid (Kept V3 wr)) (fun v4 v5 _ => N.toNat - (intOf v5).toNat)
      case atStart => exact ⟨false, 0, rfl, rfl, by omega, by omega, ⟨fun h => (by cases h), fun ⟨n, h1, h2, _⟩ => by omega⟩, Kept.refl _⟩
      case round =>
        obtain ⟨b, z, rfl, rfl, hz0, hz1, HIt, HKW⟩ := hrel
        have c0 := at_cell (HKW.out.only.heap HB3.out (by simp)) 0 (.int .i64 N) rfl
        have c1 := at_cell (HKW.out.only.heap HB3.out (by simp)) 1 (.slice s m c) rfl
        by_cases hlt : z < N
        · have HIn : Hid (inG N z = true) := decide_eq_true ⟨hz0, hlt⟩
          have HR := Lib.hid (g_reach N z (HE.out.kept (HK3.out.trans HKW.out)) (by omega))
          have HMr := Lib.hid (mem_reachL HG.out HIn.out z)
          go_wp2_with fail
          refine HR.out.mono ?_
          rintro E4 V4 ⟨ra, rk, rc, rfl, hSr, hK4, hrk, -⟩
          obtain ⟨R, hR⟩ : ∃ R, reachL N E z = R := ⟨_, rfl⟩
          rw [hR] at hSr HMr
          have hrl := hSr.1
          have hrc := hSr.2.1
          have HSr := Lib.hid hSr
          have HK4 := Lib.hid (HKW.out.trans hK4)
          clear hR hSr hK4 HR c0 c1
          go_wp2_with fail
          go_loopw [4, 7] (fun v4 v7 wr => ∃ (b' : Bool) (q : Int), v4 = .bool b' ∧ v7 = .int .i64 q ∧ 0 ≤ q ∧ q ≤ rk ∧ Hid (b' = true ↔ b = true ∨ z ∈ R.take q.toNat) ∧ Hid (Dr V4 wr)) (fun v4 v7 _ => rk - (intOf v7).toNat)
          case atStart => exact ⟨b, 0, rfl, rfl, by omega, by omega, ⟨.inl, fun h => by simpa using h⟩, Dr.refl _⟩
          case round =>
            obtain ⟨b', q, rfl, rfl, hq0, hq1, HI, HDr⟩ := hrel
            have K5 : Kept V4 wr := (Kept.refl _).dr HDr.out
            by_cases hlq : q < rk
            · obtain ⟨y, hy⟩ : ∃ y, R[q.toNat]? = some y := ⟨_, List.getElem?_eq_getElem (by omega)⟩
              have hyg : R.getD q.toNat 0 = y := by rw [List.getD_eq_getElem?_getD, hy]; rfl
              obtain ⟨br, or', v, rfl, hv, hvv⟩ := (K5.sl HSr.out).at q.toNat (by omega)
              obtain rfl : v = y := by rw [← hyg]; exact hvv.out
              have hq1 : (q + 1).toNat = q.toNat + 1 := by omega
              have HT := Lib.hid (take_mem_succ hy z)
              rw [← hq1] at HT
              clear hvv hyg hy K5 hq1
              cases b' with
              | true =>
                go_wp2_with fail
                go_roundw
                case rel => exact ⟨true, q + 1, rfl, rfl, by omega, by omega, ⟨fun _ => (HI.out.1 rfl).imp id fun h => HT.out.2 (.inl h), fun _ => rfl⟩, HDr.out⟩
                case measure => simp [intOf]; omega
              | false =>
                by_cases hvz : v = z
                · subst hvz
                  go_wp2_with fail
                  go_roundw
                  case rel => exact ⟨true, q + 1, rfl, rfl, by omega, by omega, ⟨fun _ => .inr (HT.out.2 (.inr rfl)), fun _ => rfl⟩, HDr.out⟩
                  case measure => simp [intOf]; omega
                · have hbf : (v == z) = false := beq_eq_false_iff_ne.2 hvz
                  go_wp2_with fail
                  go_roundw
                  case rel =>
                    refine ⟨false, q + 1, rfl, rfl, by omega, by omega, ⟨fun h => (by cases h), fun h => HI.out.2 (h.imp id fun h => ?_)⟩, HDr.out⟩
                    exact (HT.out.1 h).resolve_right fun h => hvz h.symm
                  case measure => simp [intOf]; omega
            · have HR1 : Hid (b' = true ↔ ∃ n, 0 ≤ n ∧ n < z + 1 ∧ Way E n n) := by
                unfold Hid
                rw [HI.out, List.take_of_length_le (by omega), HMr.out, HIt.out]
                constructor
                · rintro (⟨n, h1, h2, h3⟩ | h)
                  · exact ⟨n, h1, by omega, h3⟩
                  · exact ⟨z, hz0, by omega, h⟩
                · rintro ⟨n, h1, h2, h3⟩
                  by_cases hnz : n = z
                  · subst hnz; exact .inr h3
                  · exact .inl ⟨n, h1, by omega, h3⟩
              have HK6 := Lib.hid (HK4.out.trans K5)
              clear K5 HDr HI HIt HMr
              go_wp2_with fail
              go_roundw
              case rel => exact ⟨b', z + 1, rfl, rfl, by omega, by omega, HR1.out, HK6.out⟩
              case measure => simp [intOf]; omega
        · have HItN : Hid (b = true ↔ ∃ n, Way E n n) := by
            unfold Hid
            rw [HIt.out]
            exact ⟨fun ⟨n, _, _, h⟩ => ⟨n, h⟩, fun ⟨n, h⟩ => ⟨n, (h.in HG.out).1, by have := (h.in HG.out).2; omega, h⟩⟩
          have HKW3 := Lib.hid (HK3.out.trans HKW.out)
          clear HIt
          by_cases hk0 : 0 < ck
          · have g2 : (0 : Int) < ck := by omega
            obtain rfl : b = true := by
              cases b with
              | true => rfl
              | false =>
                have : C = [] := HNone.out.2 fun n hn => by have := HItN.out.2 ⟨n, hn⟩; cases this
                rw [this] at hcl; simp at hcl; omega
            clear HItN HNone
            go_wp2_with fail
            go_loopw [8] (fun v wx => ∃ (z : Int), v = .int .i64 z ∧ 0 ≤ z ∧ z ≤ ck ∧ Hid (Kept V3 wx)) (fun v _ => ck - (intOf v).toNat)
            case atStart => exact ⟨0, rfl, by omega, by omega, HKW.out⟩
            case round =>
              obtain ⟨z, rfl, hz0, hz1, HKW⟩ := hrel
              by_cases hlt : z < ck
              · obtain ⟨x, hx⟩ : ∃ x, C[z.toNat]? = some x := ⟨_, List.getElem?_eq_getElem (by omega)⟩
                obtain ⟨⟨y, hy, hxy⟩, hlow, htw⟩ := HLaw.out z.toNat x hx
                obtain ⟨x0, hx0⟩ : ∃ x, C[0]? = some x := ⟨_, List.getElem?_eq_getElem (by omega)⟩
                have hlow0 := hlow x0 hx0
                have hxg : C.getD z.toNat 0 = x := by rw [List.getD_eq_getElem?_getD, hx]; rfl
                have hyg : C.getD ((z.toNat + 1) % ck) 0 = y := by rw [List.getD_eq_getElem?_getD, ← hcl, hy]; rfl
                have hx0g : C.getD 0 0 = x0 := by rw [List.getD_eq_getElem?_getD, hx0]; rfl
                obtain ⟨bc, oc, v, rfl, hv, hvv⟩ := HSc.out.at z.toNat (by omega)
                obtain rfl : v = x := by rw [← hxg]; exact hvv.out
                obtain ⟨bc', oc', v', hbo, hv', hvv'⟩ := HSc.out.at ((z.toNat + 1) % ck) (Nat.mod_lt _ hk0)
                injection hbo with hbo
                injection hbo with e1 e2
                subst e1 e2
                obtain rfl : v' = y := by rw [← hyg]; exact hvv'.out
                obtain ⟨bc', oc', v'', hbo, hv'', hvv''⟩ := HSc.out.at 0 hk0
                injection hbo with hbo
                injection hbo with e1 e2
                subst e1 e2
                obtain rfl : v'' = x0 := by rw [← hx0g]; exact hvv''.out
                have HTw := Lib.hid htw
                have HXY := Lib.hid ((mem_ahd HG.out _ _).2 hxy)
                have HZ0 := Lib.hid hv''
                have HZ := Lib.hid hv
                have hv' := HKW.out.cel hv'
                have hmod : (z + 1).tmod ck = (((z.toNat + 1) % ck : Nat) : Int) := by
                  obtain ⟨k, rfl⟩ : ∃ k : Nat, z = k := ⟨z.toNat, by omega⟩
                  rfl
                have hzn := Nat.mod_lt (z.toNat + 1) hk0
                generalize (z.toNat + 1) % ck = zn at *
                have HX := Lib.hid hx
                have HLow := Lib.hid hlow0
                clear hxg hyg hx0g hvv hvv' hvv'' hxy htw hv'' hv hx0 hx hy hlow hlow0 c0 c1
                have c0 := at_cell (HKW.out.only.heap HB3.out (by simp)) 0 (.int .i64 N) rfl
                have c1 := at_cell (HKW.out.only.heap HB3.out (by simp)) 1 (.slice s m c) rfl
                have HA := Lib.hid (g_ahead N v' (HE.out.kept (HK3.out.trans HKW.out)) (by omega))
                go_wp2_with fail
                refine HA.out.mono ?_
                rintro E4 V4 ⟨aa, ak, ac, rfl, hSa, hK4, ham, -⟩
                obtain ⟨A, hA⟩ : ∃ A, besL N E v' 1 = A := ⟨_, rfl⟩
                rw [hA] at hSa HXY
                have hal := hSa.1
                have hac := hSa.2.1
                have HSa := Lib.hid hSa
                have HK4 := Lib.hid (HKW.out.trans hK4)
                clear hA hSa hK4 HA c0 c1 hv' hmod
                go_wp2_with fail
                go_loopw [11, 12] (fun v4 v7 wr => ∃ (b' : Bool) (q : Int), v4 = .bool b' ∧ v7 = .int .i64 q ∧ 0 ≤ q ∧ q ≤ ak ∧ Hid (b' = true ↔ v ∈ A.take q.toNat) ∧ Hid (Dr V4 wr)) (fun v4 v7 _ => ak - (intOf v7).toNat)
                case atStart => exact ⟨false, 0, rfl, rfl, by omega, by omega, ⟨fun h => (by cases h), fun h => by simp at h⟩, Dr.refl _⟩
                case round =>
                  obtain ⟨b', q, rfl, rfl, hq0, hq1, HI, HDr⟩ := hrel
                  have K5 : Kept V4 wr := (Kept.refl _).dr HDr.out
                  by_cases hlq : q < ak
                  · obtain ⟨y, hy⟩ : ∃ y, A[q.toNat]? = some y := ⟨_, List.getElem?_eq_getElem (by omega)⟩
                    have hyg : A.getD q.toNat 0 = y := by rw [List.getD_eq_getElem?_getD, hy]; rfl
                    obtain ⟨br, or', vy, rfl, hv, hvv⟩ := (K5.sl HSa.out).at q.toNat (by omega)
                    obtain rfl : vy = y := by rw [← hyg]; exact hvv.out
                    have hq1 : (q + 1).toNat = q.toNat + 1 := by omega
                    have HT := Lib.hid (take_mem_succ hy v)
                    rw [← hq1] at HT
                    have hz := (HK4.out.trans K5).cel HZ.out
                    clear hvv hyg hy K5 hq1
                    cases b' with
                    | true =>
                      go_wp2_with fail
                      go_big_quiet (fail)
                      go_wp2_with fail
                      go_roundw
                      case rel => exact ⟨true, q + 1, rfl, rfl, by omega, by omega, ⟨fun _ => HT.out.2 (.inl (HI.out.1 (by simp))), fun _ => rfl⟩, HDr.out.trans ((Dr.refl _).drewN _)⟩
                      case measure => simp [intOf]; omega
                    | false =>
                      by_cases hvz : vy = v
                      · subst hvz
                        go_wp2_with fail
                        go_big_quiet (fail)
                        go_wp2_with fail
                        go_roundw
                        case rel => exact ⟨true, q + 1, rfl, rfl, by omega, by omega, ⟨fun _ => HT.out.2 (.inr (by simp)), fun _ => rfl⟩, HDr.out.trans ((Dr.refl _).drewN _)⟩
                        case measure => simp [intOf]; omega
                      · have hbf : (vy == v) = false := beq_eq_false_iff_ne.2 hvz
                        go_wp2_with fail
                        have hbf : (vy == v) = false := beq_eq_false_iff_ne.2 hvz
                        go_big_quiet (fail)
                        go_wp2_with fail
                        go_roundw
                        case rel =>
                          refine ⟨false, q + 1, rfl, rfl, by omega, by omega, ⟨fun h => (by cases h), fun h => HI.out.2 ?_⟩, HDr.out.trans ((Dr.refl _).drewN _)⟩
                          exact (HT.out.1 h).resolve_right fun h => hvz h.symm
                        case measure => simp [intOf]; omega
                  · obtain rfl : b' = true := HI.out.2 (by rw [List.take_of_length_le (by omega)]; exact HXY.out)
                    have HK6 := Lib.hid (HK4.out.trans K5)
                    clear K5 HDr HI HXY HSa HK4
                    go_wp2_with fail
                    go_loopw [11, 13] (fun v11 v wx => ∃ (q : Int), v11 = .bool true ∧ v = .int .i64 q ∧ 0 ≤ q ∧ q ≤ z ∧ Hid (Kept V3 wx)) (fun _ v _ => z.toNat - (intOf v).toNat)
                    case atStart => exact ⟨0, rfl, rfl, by omega, by omega, HK6.out⟩
                    case round =>
                      obtain ⟨q, rfl, rfl, hq0, hq1, HK7⟩ := hrel
                      by_cases hlq : q < z
                      · obtain ⟨y, hy⟩ : ∃ y, C[q.toNat]? = some y := ⟨_, List.getElem?_eq_getElem (by omega)⟩
                        have hyv : y ≠ v := HTw.out q.toNat y (by omega) hy
                        have hyg : C.getD q.toNat 0 = y := by rw [List.getD_eq_getElem?_getD, hy]; rfl
                        obtain ⟨br, or', vy, hbo, hv, hvv⟩ := (HK7.out.sl HSc.out).at q.toNat (by omega)
                        injection hbo with hbo
                        injection hbo with e1 e2
                        subst e1 e2
                        obtain rfl : vy = y := by rw [← hyg]; exact hvv.out
                        have hz := HK7.out.cel HZ.out
                        clear hvv hyg hy
                        go_wp2_with fail
                        have hbf : (vy == v) = false := beq_eq_false_iff_ne.2 hyv
                        have hbg : (vy != v) = true := bne_iff_ne.2 hyv
                        go_big_quiet (fail)
                        go_wp2_with fail
                        go_roundw
                        case rel => exact ⟨q + 1, rfl, rfl, by omega, by omega, HK7.out.dr ((Dr.refl _).drewN _)⟩
                        case measure => simp [intOf]; omega
                      · have hz := HK7.out.cel HZ.out
                        have hz0 := HK7.out.cel HZ0.out
                        rw [Nat.add_zero] at hz0
                        go_wp2_with fail
                        have hbf : decide (v < v'') = false := decide_eq_false (by have := HLow.out; omega)
                        go_big_quiet (fail)
                        go_wp2_with fail
                        go_roundw
                        case rel => exact ⟨z + 1, rfl, by omega, by omega, HK7.out.dr ((Dr.refl _).drewN _)⟩
                        case measure => simp [intOf]; omega
              · have HKF := Lib.hid (HK3.out.trans HKW.out)
                go_wp2_with fail
                go_ret
                exact ⟨rfl, hbx ▸ (HKF.out : Below w.heap.size w wr)⟩
          · have g2 : ¬ (0 : Int) < ck := by omega
            obtain rfl : ck = 0 := by omega
            obtain rfl : b = false := by
              cases b with
              | false => rfl
              | true =>
                obtain ⟨n, hn⟩ := HItN.out.1 rfl
                exact absurd hn (HNone.out.1 (List.length_eq_zero_iff.1 hcl) n)
            clear HItN HNone
            go_wp2_with fail
            go_loopw [8] (fun v wx => v = .int .i64 0 ∧ Hid (Kept wr wx)) (fun v _ => 0)
            case atStart => exact ⟨rfl, Kept.refl _⟩
            case round =>
              obtain ⟨rfl, HK5⟩ := hrel
              have HK6 := Lib.hid (HKW3.out.trans HK5.out)
              go_wp2_with fail
              go_ret
              exact ⟨rfl, HK6.out⟩
  · have g1 : (60 : Int) < m := by omega
    go_wp2_with fail
    go_ret
    exact ⟨rfl, HK1.out⟩
end Go.Proofs.Ytboohafebkkdbaa
