/- Orders: topo.Levels. -/
import Derived.Test.YtmejphlpcgochaaTo2
import Derived.Test.YtmejphlpcgochaaToM2
import Derived.StillTailTactics
set_option linter.unusedVariables false
set_option linter.unusedSimpArgs false
namespace Go.Proofs.Ytmejphlpcgochaa
open Go.RowKit
theorem lvA_len (n : Int) (d : List Int) (a : Int) : (lvA n d a).length = d.length := by unfold lvA; simp
theorem lvA_bd (n : Int) (d : List Int) (a : Int) (B : Int) (h : ∀ q, 0 ≤ d.getD q 0 ∧ d.getD q 0 ≤ B) : ∀ q, 0 ≤ (lvA n d a).getD q 0 ∧ (lvA n d a).getD q 0 ≤ B + 1 := by
  intro q
  unfold lvA
  rw [getD_set]
  have h1 := h n.toNat
  have h2 := h a.toNat
  have h3 := h q
  split <;> omega
set_option maxRecDepth 100000 in
set_option maxHeartbeats 16000000 in
theorem t_levels {w : World} {s : Option Addr} {m c : Nat} {E : List Ed} (N : Int) (hE : SlE w s m c E) :
    Calls Try.prog 13 #[.agg #[.int .i64 N, .slice s m c]] w fun e w' => ∃ (a : Option Addr) (k c' : Nat), e = .returned (.tuple #[.slice a k c', .bool (levT N E).isSome]) ∧ Sl .i64 w' a k c' ((levT N E).getD []) ∧ Kept w w' ∧ k ≤ 16 ∧ (∀ y, a = some y → w.heap.size ≤ y.block) := by
  have hB0 := heap_alloc_new w (.cells #[.int .i64 N, .slice s m c] 24)
  have K0 := kept_al w (.cells #[.int .i64 N, .slice s m c] 24)
  have b0 := at_cell hB0 0 _ rfl
  have b1 := at_cell hB0 1 _ rfl
  have HOr := Lib.hid (t_order N (hE.kept K0))
  have hEl := hE.1
  have HE := Lib.hid hE
  have HK0 := Lib.hid K0
  have HB := Lib.hid hB0
  clear hE K0 hB0
  go_enter Try.func13, Try.ntmps13
  go_wp2_with fail
  generalize World.alloc w _ = X0 at *
  generalize hbx : w.heap.size = bx at *
  refine HOr.out.mono ?_
  rintro E1 V1 ⟨oa, ok, oc, rfl, hSo, hK1, hok, -⟩
  have HK1 := Lib.hid (HK0.out.trans hK1)
  have HB1 := Lib.hid (hK1.only.heap HB.out (by simp))
  replace b0 := hK1.cel b0
  replace b1 := hK1.cel b1
  have hV1 := lt_heap HB1.out
  clear hK1 HOr
  cases ho : orderT N E with
  | none =>
    have HR : Hid (levT N E = none) := by unfold Hid levT; rw [ho]; rfl
    clear ho hSo
    simp only [Option.isSome_none, Option.isSome_some]
    go_wp2_with fail
    exact bodyPost_ret (v := .tuple #[.slice none 0 0, .bool false]) (by simp [results, Try.results13, go_sem]) rfl ⟨none, 0, 0, by rw [HR.out]; rfl, by rw [HR.out]; exact sl_nil _ _, HK1.out, Nat.zero_le _, fun y hy => by cases hy⟩
  | some l =>
    have HR : Hid (levT N E = some (lvF N E l)) := by unfold Hid levT; rw [ho]; rfl
    obtain ⟨hg, ht⟩ := orderT_some ho
    have HG := Lib.hid hg
    have HT := Lib.hid ht
    have hN := good_N hg
    have hm : m ≤ 900 := by have := good_len hg; omega
    rw [ho] at hSo
    have hSo' : Sl .i64 V1 oa ok oc l := hSo
    have hlk : ok = N.toNat := by rw [← hSo'.1, ht.len]
    have HSo := Lib.hid hSo'
    obtain ⟨k0, rfl⟩ : ∃ k0 : Nat, N = k0 := ⟨N.toNat, by omega⟩
    obtain rfl : k0 = ok := by rw [hlk, Int.toNat_natCast]
    have hmk := made_row V1 k0 (by omega)
    have hrow := heap_alloc_new V1 (rowI (List.replicate k0 0))
    have KM := kept_al V1 (rowI (List.replicate k0 0))
    obtain ⟨bd, hbd⟩ : ∃ bd, V1.heap.size = bd := ⟨_, rfl⟩
    rw [hbd] at hmk hrow
    have HRow := Lib.hid hrow
    have HKM := Lib.hid KM
    have hocc := hSo'.2.1
    clear hg ht ho hSo hSo' hlk hrow KM
    simp only [Option.isSome_none, Option.isSome_some]
    go_wp2_with fail
    generalize World.alloc V1 _ = X at *
    clear hmk b0 b1
    go_loopw [23] (fun v wr => ∃ (i : Nat) (d : List Int), v = .int .i64 (i : Nat) ∧ i ≤ k0 ∧ d.length = k0 ∧ Hid (d = (l.take i).foldl (lvN k0 E) (List.replicate k0 0)) ∧ Hid (∀ q, 0 ≤ d.getD q 0 ∧ d.getD q 0 ≤ 20 * (i : Int)) ∧ Hid (wr.heap[bd]? = some (rowI d)) ∧ Hid (Kept V1 wr)) (fun v _ => k0 - (intOf v).toNat)
    case atStart =>
      refine ⟨0, List.replicate k0 0, rfl, by omega, by simp, rfl, fun q => ?_, HRow.out, HKM.out⟩
      simp only [List.getD_eq_getElem?_getD, List.getElem?_replicate]
      split <;> simp
    case round =>
      obtain ⟨i, d, rfl, hi, hdl, HD, HBd, HR1, HKw⟩ := hrel
      by_cases hlt : i < k0
      · have hlt' : (i : Int) < k0 := by omega
        obtain ⟨n, hn⟩ : ∃ n, l[i]? = some n := ⟨_, List.getElem?_eq_getElem (by rw [HSo.out.1]; omega)⟩
        have hnr := HT.out.rng n (List.mem_of_getElem? hn)
        obtain ⟨nn, rfl⟩ : ∃ nn : Nat, n = nn := ⟨n.toNat, by omega⟩
        obtain ⟨bo, oo, v, rfl, hoc2, hov⟩ := (HKw.out.sl HSo.out).at i (by omega)
        have hvn : v = (nn : Int) := by rw [hov.out, List.getD_eq_getElem?_getD, hn]; rfl
        subst hvn
        have HD2 : Hid (lvN k0 E d nn = (l.take (i + 1)).foldl (lvN k0 E) (List.replicate k0 0)) := by
          unfold Hid
          rw [foldl_take _ _ _ _ _ hn, ← HD.out]
        have HBw := Lib.hid (HKw.out.only.heap HB1.out (by simp))
        have c0 := at_cell HBw.out 0 (.int .i64 (k0 : Nat)) rfl
        have c1 := at_cell HBw.out 1 (.slice s m c) rfl
        have HA := Lib.hid (g_ahead (k0 : Int) (nn : Int) (HE.out.kept (HK1.out.trans HKw.out)) hm)
        have hl16 := besL_len16' HG.out (nn : Int)
        clear hn hov HD
        go_wp2_with fail
        refine HA.out.mono ?_
        rintro E2 V2 ⟨ba, bk, bc, rfl, hSb, hK2, hbm, hnew⟩
        have HIB : Hid (inB ba [bd]) := fun y hy hm => by
          have h1 := hnew y hy
          have h2 := lt_heap HR1.out
          simp at hm
          omega
        have HSb := Lib.hid hSb
        have hbl := hSb.1
        have hbc := hSb.2.1
        have HK2 := Lib.hid (HKw.out.trans hK2)
        have HR2 := Lib.hid (hK2.only.heap HR1.out (by simp))
        rw [hbl] at hl16
        clear hSb hK2 HA c0 c1 hnew
        go_wp2_with fail
        go_loopw [31] (fun v wx => ∃ (j : Nat) (d' : List Int), v = .int .i64 (j : Nat) ∧ j ≤ bk ∧ d'.length = k0 ∧ Hid (d' = ((besL k0 E nn 1).take j).foldl (lvA nn) d) ∧ Hid (∀ q, 0 ≤ d'.getD q 0 ∧ d'.getD q 0 ≤ 20 * (i : Int) + j) ∧ Hid (wx.heap[bd]? = some (rowI d')) ∧ Hid (Only [bd] V2 wx)) (fun v _ => bk - (intOf v).toNat)
        case atStart => exact ⟨0, d, rfl, by omega, hdl, rfl, fun q => by have := HBd.out q; omega, HR2.out, Only.refl _ _⟩
        case round =>
          obtain ⟨j, d', rfl, hj, hdl', HD', HBd', HR', HK'⟩ := hrel
          by_cases hlj : j < bk
          · have hlj' : (j : Int) < bk := by omega
            obtain ⟨a, ha⟩ : ∃ a, (besL k0 E nn 1)[j]? = some a := ⟨_, List.getElem?_eq_getElem (by omega)⟩
            have har := besL_in HG.out (List.mem_of_getElem? ha)
            obtain ⟨an, rfl⟩ : ∃ an : Nat, a = an := ⟨a.toNat, by omega⟩
            obtain ⟨b2, o2, v, rfl, hac, hav⟩ := (HK'.out.sl HSb.out HIB.out).at j hlj
            have hva : v = (an : Int) := by rw [hav.out, List.getD_eq_getElem?_getD, ha]; rfl
            subst hva
            have hcn := rowI_at HR'.out nn (by omega)
            have hca := rowI_at HR'.out an (by omega)
            have hfr := one_free HR'.out nn
            have HD3 : Hid (lvA nn d' an = ((besL k0 E nn 1).take (j + 1)).foldl (lvA nn) d) := by
              unfold Hid
              rw [foldl_take _ _ _ _ _ ha, ← HD'.out]
            have HBd3 := Lib.hid (lvA_bd nn d' an _ HBd'.out)
            have hb1 := HBd'.out nn
            have hb2 := HBd'.out an
            have HLv : Hid (lvA nn d' an = d'.set nn (max (d'.getD nn 0) (d'.getD an 0 + 1))) := rfl
            clear ha hav HD'
            generalize d'.getD nn 0 = x at *
            generalize d'.getD an 0 = y at *
            go_wp2_with fail
            go_still_tail 13, (by kernel_rfl)
            have HB4 : Hid (∀ q, 0 ≤ (d'.set nn (max x (y + 1))).getD q 0 ∧ (d'.set nn (max x (y + 1))).getD q 0 ≤ 20 * (i : Int) + (j + 1 : Nat)) := fun q => by
              have := HBd3.out q
              rw [HLv.out] at this
              omega
            have HRd : Hid (wr.drew.heap[bd]? = some (rowI d')) := HR'.out
            have HOd : Hid (Only [bd] V2 wr.drew) := HK'.out.drew
            clear hca hcn hfr
            change wpList _ _ _ _ _ wr.drew
            generalize wr.drew = w2 at *
            have hfr := one_free HRd.out nn
            have hcn := rowI_at HRd.out nn (by omega)
            have hR2 := Lib.hid (rowI_set HRd.out nn (max x (y + 1)))
            have hO2 := Lib.hid (HOd.out.then ((Only.refl [bd] w2).setCell (p := ⟨bd, nn, none⟩) (fun _ => by simp) (.int .i64 (max x (y + 1)))) (fun i _ hi => hi))
            go_wp2_with fail
            go_roundw
            case rel => exact ⟨j + 1, d'.set nn (max x (y + 1)), by go_num, by omega, by simp [hdl'], HLv.out.symm.trans HD3.out, HB4.out, hR2.out, hO2.out⟩
            case measure => simp [intOf]; omega
          · have hje : j = bk := by omega
            subst hje
            have HD4 : Hid (d' = (l.take (i + 1)).foldl (lvN k0 E) (List.replicate k0 0)) := by
              unfold Hid
              rw [← HD2.out, HD'.out, List.take_of_length_le (by omega)]; rfl
            have HKF := Lib.hid (HK2.out.onl HK'.out (by simp; omega))
            go_wp2_with fail
            go_roundw
            case rel => exact ⟨i + 1, d', by go_num, by omega, hdl', HD4.out, fun q => by have := HBd'.out q; omega, HR'.out, HKF.out⟩
            case measure => simp [intOf]; omega
      · have hie : i = k0 := by omega
        subst hie
        have HDF : Hid (lvF (i : Int) E l = d) := by
          unfold Hid lvF
          rw [HD.out, List.take_of_length_le (by rw [HSo.out.1]; exact Nat.le_refl _), Int.toNat_natCast]
        have HKF := Lib.hid (HK1.out.trans HKw.out)
        have HNew : Hid (w.heap.size ≤ bd) := by have := HK1.out.size; unfold Hid; omega
        go_wp2_with fail
        exact bodyPost_ret (v := .tuple #[.slice (some ⟨bd, 0, none⟩) i i, .bool true]) (by simp [results, Try.results13, go_sem]) rfl ⟨_, i, i, by rw [HR.out]; rfl, by rw [HR.out]; show Sl .i64 _ _ _ _ (lvF i E l); rw [HDF.out]; exact rowI_sl HR1.out i hdl (by omega), HKF.out, by omega, fun y hy => by injection hy with hy; subst hy; exact HNew.out⟩
end Go.Proofs.Ytmejphlpcgochaa
