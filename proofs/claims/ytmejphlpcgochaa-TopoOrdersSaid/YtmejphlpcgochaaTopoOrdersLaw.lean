/- Orders: there is one just if there is no cycle; levels rise. -/
import Derived.Test.YtmejphlpcgochaaToAw
import Derived.Test.YtmejphlpcgochaaGrTy
set_option linter.unusedVariables false
set_option linter.unusedSimpArgs false
namespace Go.Proofs.Ytmejphlpcgochaa
open Go.RowKit
theorem isT_order {N : Int} {E : List Ed} {l : List Int} (ho : orderT N E = some l) : isT N E l = true := by
  obtain ⟨hg, ht⟩ := orderT_some ho
  have hN := good_N hg
  have hl := ht.len
  rw [is_same]
  unfold isR
  rw [ho, decide_eq_true (by omega)]
  simp only [Option.isSome_some, Bool.true_and]
  rw [List.all_eq_true]
  intro i hi
  have hi := List.mem_range.1 hi
  have hgd : l[i]? = some (l.getD i 0) := by rw [List.getD_eq_getElem?_getD, List.getElem?_eq_getElem hi]; rfl
  have hr := ht.rng _ (List.mem_of_getElem? hgd)
  unfold okR inG
  rw [decide_eq_true hr, Bool.true_and, Bool.and_eq_true, List.all_eq_true, Bool.not_eq_true', ← Bool.not_eq_true, hasI_iff, mem_take_iff]
  refine ⟨?_, fun a ha => ?_⟩
  · rintro ⟨j, h1, h2⟩
    have := nodup_at ht.nd h2 hgd
    omega
  · rw [hasI_iff, mem_take_iff]
    exact ht.top i _ hgd a ((mem_ahd hg a _).1 ha)
theorem lev_next {N : Int} {E : List Ed} {l : List Int} (ho : orderT N E = some l) {n mo : Int} (hn : 0 ≤ n ∧ n < N) (h1 : mo = -1 ∨ ∃ a ∈ besL N E n 1, mo = (lvF N E l).getD a.toNat 0) (h2 : ∀ a ∈ besL N E n 1, (lvF N E l).getD a.toNat 0 ≤ mo) : (lvF N E l).getD n.toNat 0 = mo + 1 := by
  have hg := (orderT_some ho).1
  obtain ⟨_, hs, hb⟩ := lvF_spec ho
  have hge := hs.ge
  have his := hs.is n hn.1 hn.2
  rcases his with h | ⟨a, ha, h⟩
  · rcases h1 with h3 | ⟨a, ha, h3⟩
    · omega
    · have := hge a n ((mem_ahd hg a n).1 ha)
      have := (hb a.toNat).1
      omega
  · have h4 := h2 a ((mem_ahd hg a n).2 ha)
    have h5 := (hb a.toNat).1
    rcases h1 with h3 | ⟨c, hc, h3⟩
    · omega
    · have := hge c n ((mem_ahd hg c n).1 hc)
      omega
set_option maxRecDepth 100000 in
set_option maxHeartbeats 16000000 in
theorem topoOrders_law (v0 : Value) (x0 : TyGraph.den) (w : World) (w0 : RepV w TyGraph v0 x0) :
    Calls Try.prog 6 #[v0] w fun e w' => e = .returned (.bool true) ∧ Below w.heap.size w w' := by
  obtain ⟨N, s, m, c, E, rfl, hE, hNb⟩ := repV_graph w0
  have hl := hE.1
  have hnc := hE.2.1
  have hB0 := heap_alloc_new w (.cells #[.int .i64 N, .slice s m c] 24)
  have K0 := kept_al w (.cells #[.int .i64 N, .slice s m c] 24)
  have HE := Lib.hid hE
  have HAw := Lib.hid (awake11 (w.alloc (.cells #[.int .i64 N, .slice s m c] 24)))
  have HK0 := Lib.hid K0
  have HB := Lib.hid hB0
  clear w0 hE K0 hB0
  go_enter Try.func6, Try.ntmps6
  go_wp2_with fail
  generalize World.alloc w _ = X0 at *
  generalize hbx : w.heap.size = bx at *
  refine HAw.out.mono ?_
  rintro E1 V1 ⟨rfl, hK1⟩
  have HB1 := Lib.hid (hK1.only.heap HB.out (by simp))
  have HK1 := Lib.hid (HK0.out.trans hK1)
  have b0 := at_cell HB1.out 0 _ rfl
  have b1 := at_cell HB1.out 1 _ rfl
  clear hK1 HAw
  by_cases hm : m ≤ 60
  · have g1 : ¬ (60 : Int) < m := by omega
    have HGd := Lib.hid (g_good N (HE.out.kept HK1.out) (by omega))
    go_wp2_with fail
    refine HGd.out.mono ?_
    rintro E2 V2 ⟨rfl, hK2⟩
    have HB2 := Lib.hid (hK2.only.heap HB1.out (by simp))
    have HK2 := Lib.hid (HK1.out.trans hK2)
    replace b0 := hK2.cel b0
    replace b1 := hK2.cel b1
    clear hK2 HGd
    cases hg : goodG N E with
    | false =>
      go_wp2_with fail
      go_ret
      exact ⟨rfl, HK2.out⟩
    | true =>
      have HG : Hid (goodG N E = true) := hg
      have HNone := Lib.hid (orderT_none hg)
      have hN := good_N hg
      clear hg
      have HOr := Lib.hid (t_order N (HE.out.kept HK2.out) (by omega))
      go_wp2_with fail
      refine HOr.out.mono ?_
      rintro E3 V3 ⟨oa, ok, oc, rfl, hSo, hK3, hok, -⟩
      have HK3 := Lib.hid (HK2.out.trans hK3)
      replace b0 := hK3.cel b0
      replace b1 := hK3.cel b1
      have HB3 := Lib.hid (hK3.only.heap HB2.out (by simp))
      have HSo := Lib.hid hSo
      clear hK3 HOr hSo
      have HLv := Lib.hid (t_levels N (HE.out.kept HK3.out) (by omega))
      go_wp2_with fail
      refine HLv.out.mono ?_
      rintro E4 V4 ⟨la, lk, lc, rfl, hSl, hK4, hlk, -⟩
      have HK4 := Lib.hid (HK3.out.trans hK4)
      replace b0 := hK4.cel b0
      replace b1 := hK4.cel b1
      have HB4 := Lib.hid (hK4.only.heap HB3.out (by simp))
      replace HSo := Lib.hid (hK4.sl HSo.out)
      have HSl := Lib.hid hSl
      clear hK4 HLv hSl
      have HCy := Lib.hid (g_cycle N (HE.out.kept HK4.out) (by omega))
      go_wp2_with fail
      refine HCy.out.mono ?_
      rintro E5 V5 ⟨ca, ck, cc, rfl, hSc, hK5, hck, -⟩
      have HK5 := Lib.hid (HK4.out.trans hK5)
      replace b0 := hK5.cel b0
      replace b1 := hK5.cel b1
      have HB5 := Lib.hid (hK5.only.heap HB4.out (by simp))
      replace HSo := Lib.hid (hK5.sl HSo.out)
      replace HSl := Lib.hid (hK5.sl HSl.out)
      have hcl := hSc.1
      clear hK5 HCy hSc
      cases ho : orderT N E with
      | none =>
        have hlv : levT N E = none := by unfold levT; rw [ho]; rfl
        have hcn := HNone.out.1 ho
        have hc0 : ck ≠ 0 := fun h => hcn (List.length_eq_zero_iff.1 (by omega))
        have f1 : ((ck : Int) == 0) = false := by simp [hc0]
        rw [ho] at HSo
        rw [hlv] at HSl
        have h1 : 0 = ok := HSo.out.1
        have h2 : 0 = lk := HSl.out.1
        rw [hlv]
        subst h1
        subst h2
        simp only [Option.isSome_none, Option.isSome_some]
        clear ho hlv hcn hc0 hcl HNone
        go_wp2_with fail
        go_ret
        exact ⟨rfl, HK5.out⟩
      | some l =>
        have hlv : levT N E = some (lvF N E l) := by unfold levT; rw [ho]; rfl
        have hcn : cycleL N E = [] := by
          apply Classical.byContradiction
          intro h
          rw [HNone.out.2 h] at ho
          cases ho
        rw [hcn] at hcl
        have hc0 : 0 = ck := hcl
        subst hc0
        have f1 : (((0 : Nat) : Int) == 0) = true := rfl
        rw [ho] at HSo
        rw [hlv] at HSl
        have HSo' : Hid (Sl .i64 V5 oa ok oc l) := HSo.out
        have HSl' : Hid (Sl .i64 V5 la lk lc (lvF N E l)) := HSl.out
        have HIs := Lib.hid (t_is N (HE.out.kept HK5.out) (by omega) HSo'.out (by omega))
        rw [isT_order ho] at HIs
        have HNx := Lib.hid (fun n mo => lev_next ho (n := n) (mo := mo))
        have hlen := (lvF_spec ho).1
        have HBd := Lib.hid (lvF_spec ho).2.2
        rw [hlv]
        simp only [Option.isSome_none, Option.isSome_some]
        clear ho hlv hcn HNone HSo HSl hcl
        have hlkN : (lk : Int) = N := by have := HSl'.out.1; omega
        obtain ⟨D, hD⟩ : ∃ D, lvF N E l = D := ⟨_, rfl⟩
        rw [hD] at HSl' HNx hlen HBd
        have f2 : ((lk : Int) != N) = false := by simp [hlkN]
        subst hlkN
        clear hD
        go_wp2_with fail
        refine HIs.out.mono ?_
        rintro E6 V6 ⟨rfl, hK6⟩
        have HK6 := Lib.hid (HK5.out.trans hK6)
        replace b0 := hK6.cel b0
        have HB6 := Lib.hid (hK6.only.heap HB5.out (by simp))
        have HSD := Lib.hid (hK6.sl HSl'.out)
        have hDc := HSD.out.2.1
        clear hK6 HIs HSo' HSl' b1
        go_wp2_with fail
        clear b0
        go_loopw [7] (fun v wr => ∃ (n : Nat), v = .int .i64 (n : Nat) ∧ n ≤ lk ∧ Hid (Kept V6 wr)) (fun v _ => lk - (intOf v).toNat)
        case atStart => exact ⟨0, rfl, by omega, Kept.refl _⟩
        case round =>
          obtain ⟨n, rfl, hn, HKw⟩ := hrel
          have c0 := at_cell (HKw.out.only.heap HB6.out (by simp)) 0 (.int .i64 (lk : Nat)) rfl
          have c1 := at_cell (HKw.out.only.heap HB6.out (by simp)) 1 (.slice s m c) rfl
          by_cases hlt : n < lk
          · have hlt' : (n : Int) < lk := by omega
            have HA := Lib.hid (g_ahead (lk : Int) (n : Int) (HE.out.kept (HK6.out.trans HKw.out)) (by omega))
            go_wp2_with fail
            refine HA.out.mono ?_
            rintro E7 V7 ⟨ba, bk, bc, rfl, hSb, hK7, hbm, -⟩
            have HSb := Lib.hid hSb
            have hbl := hSb.1
            have hbc := hSb.2.1
            have HK7 := Lib.hid (HKw.out.trans hK7)
            clear hSb hK7 HA c0 c1
            go_wp2_with fail
            go_loopw [9, 10] (fun v9 v10 wx => ∃ (mo : Int) (j : Nat), v9 = .int .i64 mo ∧ v10 = .int .i64 (j : Nat) ∧ j ≤ bk ∧ -1 ≤ mo ∧ mo ≤ 16 ∧ Hid (mo = -1 ∨ ∃ a ∈ besL lk E n 1, mo = D.getD a.toNat 0) ∧ Hid (∀ a ∈ (besL lk E n 1).take j, D.getD a.toNat 0 ≤ mo) ∧ Hid (Kept V7 wx)) (fun _ v10 _ => bk - (intOf v10).toNat)
            case atStart => exact ⟨-1, 0, rfl, rfl, by omega, by omega, by omega, .inl rfl, fun a ha => by simp at ha, Kept.refl _⟩
            case round =>
              obtain ⟨mo, j, rfl, rfl, hj, hmo1, hmo2, HM1, HM2, HKj⟩ := hrel
              by_cases hlj : j < bk
              · have hlj' : (j : Int) < bk := by omega
                obtain ⟨a, ha⟩ : ∃ a, (besL lk E n 1)[j]? = some a := ⟨_, List.getElem?_eq_getElem (by omega)⟩
                have har := besL_in HG.out (List.mem_of_getElem? ha)
                obtain ⟨an, rfl⟩ : ∃ an : Nat, a = an := ⟨a.toNat, by omega⟩
                obtain ⟨b2, o2, v, rfl, hac, hav⟩ := (HKj.out.sl HSb.out).at j hlj
                have hva : v = (an : Int) := by rw [hav.out, List.getD_eq_getElem?_getD, ha]; rfl
                subst hva
                obtain ⟨b3, o3, dv, rfl, hdc, hdv⟩ := ((HK7.out.trans HKj.out).sl HSD.out).at an (by omega)
                have HDv : Hid (D.getD (an : Int).toNat 0 = dv) := by unfold Hid; rw [Int.toNat_natCast, hdv.out]
                have hdb := HBd.out an
                rw [← hdv.out] at hdb
                have HTk := Lib.hid (fun b => take_succ_memI ha b)
                have HMem := Lib.hid (List.mem_of_getElem? ha)
                clear ha hav hdv
                by_cases hgt : mo < dv
                · have HM3 : Hid (dv = -1 ∨ ∃ a ∈ besL lk E n 1, dv = D.getD a.toNat 0) := .inr ⟨_, HMem.out, HDv.out.symm⟩
                  have HM4 : Hid (∀ a ∈ (besL lk E n 1).take (j + 1), D.getD a.toNat 0 ≤ dv) := fun b hb => by
                    rcases (HTk.out b).1 hb with h | rfl
                    · have := HM2.out b h; omega
                    · rw [HDv.out]; exact Int.le_refl _
                  go_wp2_with fail
                  go_roundw
                  case rel => exact ⟨dv, j + 1, rfl, by go_num, by omega, by omega, by omega, HM3, HM4, HKj.out⟩
                  case measure => simp [intOf]; omega
                · have HM4 : Hid (∀ a ∈ (besL lk E n 1).take (j + 1), D.getD a.toNat 0 ≤ mo) := fun b hb => by
                    rcases (HTk.out b).1 hb with h | rfl
                    · exact HM2.out b h
                    · rw [HDv.out]; omega
                  go_wp2_with fail
                  go_roundw
                  case rel => exact ⟨mo, j + 1, rfl, by go_num, by omega, hmo1, hmo2, HM1.out, HM4, HKj.out⟩
                  case measure => simp [intOf]; omega
              · obtain ⟨b3, o3, dv, rfl, hdc, hdv⟩ := ((HK7.out.trans HKj.out).sl HSD.out).at n hlt
                have hfin := HNx.out (n : Int) mo ⟨by omega, hlt'⟩ HM1.out (fun a ha => HM2.out a (by rw [List.take_of_length_le (by omega)]; exact ha))
                rw [Int.toNat_natCast, ← hdv.out] at hfin
                have HKn := Lib.hid (HK7.out.trans HKj.out)
                subst hfin
                have f3 : ((mo + 1 : Int) != mo + 1) = false := by simp
                clear hdv
                go_wp2_with fail
                go_roundw
                case rel => exact ⟨n + 1, by go_num, by omega, HKn.out⟩
                case measure => simp [intOf]; omega
          · have HKF := Lib.hid (HK6.out.trans HKw.out)
            go_wp2_with fail
            go_ret
            exact ⟨rfl, HKF.out⟩
  · have g1 : (60 : Int) < m := by omega
    go_wp2_with fail
    go_ret
    exact ⟨rfl, HK1.out⟩
end Go.Proofs.Ytmejphlpcgochaa
