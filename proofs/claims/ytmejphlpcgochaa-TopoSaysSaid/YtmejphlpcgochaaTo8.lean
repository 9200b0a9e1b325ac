/- Orders, the document's: Paths. -/
import Derived.Test.YtmejphlpcgochaaTo6
import Derived.Test.YtmejphlpcgochaaTo4
import Derived.Deep.RegionHeld3
set_option linter.unusedVariables false
set_option linter.unusedSimpArgs false
namespace Go.Proofs.Ytmejphlpcgochaa
open Go.RowKit
set_option maxRecDepth 100000 in
set_option maxHeartbeats 16000000 in
theorem ro_paths {w : World} {s : Option Addr} {m c : Nat} {E : List Ed} (N pa pb : Int) (hE : SlE w s m c E) (hm : m ≤ 900) :
    Calls Try.prog 20 #[.agg #[.int .i64 N, .slice s m c], .int .i64 pa, .int .i64 pb] w fun e w' => e = .returned (.tuple #[.int .u64 (pthR N E pa pb), .bool (okP N E pa pb)]) ∧ Kept w w' := by
  have hB0 := heap_alloc_new w (.cells #[.int .i64 N, .slice s m c] 41)
  have K0 := kept_al w (.cells #[.int .i64 N, .slice s m c] 41)
  have b0 := at_cell hB0 0 _ rfl
  have b1 := at_cell hB0 1 _ rfl
  have HOr := Lib.hid (ro_order N (hE.kept K0) hm)
  have hEl := hE.1
  have HE := Lib.hid hE
  have HK0 := Lib.hid K0
  have HB := Lib.hid hB0
  clear hE K0 hB0
  go_enter Try.func20, Try.ntmps20
  go_wp2_with fail
  generalize World.alloc w _ = X0 at *
  generalize hbx : w.heap.size = bx at *
  refine HOr.out.mono ?_
  rintro E1 V1 ⟨oa, ok, oc, rfl, hSo, hK1, hok, -⟩
  have HK1 := Lib.hid (HK0.out.trans hK1)
  have HB1 := Lib.hid (hK1.only.heap HB.out (by simp))
  replace b0 := hK1.cel b0
  replace b1 := hK1.cel b1
  have hV1 := lt_heap HB1.out
  clear hK1 HOr
  have hno : okP N E pa pb = false → Hid (pthR N E pa pb = 0 ∧ okP N E pa pb = false) := fun h => ⟨by unfold pthR; rw [h]; rfl, h⟩
  have HNo := Lib.hid hno
  clear hno
  cases ho : orderT N E with
  | none =>
    have HR := HNo.out (by unfold okP; rw [ho]; rfl)
    clear ho hSo
    simp only [Option.isSome_none, Option.isSome_some]
    go_wp2_with fail
    exact bodyPost_ret (v := .tuple #[.int .u64 0, .bool false]) (by simp [results, Try.results20, go_sem]) rfl ⟨by rw [HR.out.1, HR.out.2], HK1.out⟩
  | some l =>
    obtain ⟨hg, ht⟩ := orderT_some ho
    have HOk : Hid (okP N E pa pb = (inG N pa && inG N pb)) := by unfold Hid okP; rw [ho]; rfl
    have HG := Lib.hid hg
    have HT := Lib.hid ht
    have hN := good_N hg
    rw [ho] at hSo
    have hSo' : Sl .i64 V1 oa ok oc l := hSo
    have hlk : ok = N.toNat := by rw [← hSo'.1, ht.len]
    have HSo := Lib.hid hSo'
    obtain ⟨k0, rfl⟩ : ∃ k0 : Nat, N = k0 := ⟨N.toNat, by omega⟩
    obtain rfl : k0 = ok := by rw [hlk, Int.toNat_natCast]
    have hocc := hSo'.2.1
    clear hg ht ho hSo hSo' hlk
    simp only [Option.isSome_none, Option.isSome_some]
    by_cases hab : (0 ≤ pa ∧ pa < k0) ∧ (0 ≤ pb ∧ pb < k0)
    · have hok1 : okP k0 E pa pb = true := by
        rw [HOk.out]
        unfold inG
        rw [decide_eq_true hab.1, decide_eq_true hab.2]; rfl
      have HRs : Hid (pthR k0 E pa pb = (pthP k0 E pa pb : Nat) ∧ okP k0 E pa pb = true) := ⟨by unfold pthR; rw [hok1]; rfl, hok1⟩
      obtain ⟨an, rfl⟩ : ∃ an : Nat, pa = an := ⟨pa.toNat, by omega⟩
      obtain ⟨bn, rfl⟩ : ∃ bn : Nat, pb = bn := ⟨pb.toNat, by omega⟩
      have f1 : ¬ (an : Int) < 0 := by omega
      have f2 : ¬ (k0 : Int) ≤ an := by omega
      have f3 : ¬ (bn : Int) < 0 := by omega
      have f4 : ¬ (k0 : Int) ≤ bn := by omega
      have hmk := made_rowU V1 k0 (by omega)
      have hrow := heap_alloc_new V1 (rowU (List.replicate k0 0))
      have KM := kept_al V1 (rowU (List.replicate k0 0))
      obtain ⟨bd, hbd⟩ : ∃ bd, V1.heap.size = bd := ⟨_, rfl⟩
      rw [hbd] at hmk hrow
      have HRow := Lib.hid hrow
      have HKM := Lib.hid KM
      have han : an < k0 := by omega
      have hbn : bn < k0 := by omega
      clear hrow KM hok1 HOk HNo hab
      go_upto_region 5 with fail
      generalize World.alloc V1 _ = X at *
      have hfr := one_free HRow.out an
      have hcl := rowU_at HRow.out an (by simpa using han)
      have hP0 : (pull0 (k0 : Int) (an : Int)) = (List.replicate k0 (0 : Int)).set an 1 := by unfold pull0; rw [Int.toNat_natCast, Int.toNat_natCast]
      have HR0 : Hid ((X.setCell ⟨bd, an, none⟩ (.int .u64 1)).heap[bd]? = some (rowU (pull0 k0 an))) := by unfold Hid; rw [hP0]; exact rowU_set HRow.out an 1
      have HKX := Lib.hid (HKM.out.onl ((Only.refl [bd] X).setCell (p := ⟨bd, an, none⟩) (fun _ => by simp) (.int .u64 1)) (by simp; omega))
      clear hmk b0 b1 hP0
      go_wp2_with fail
      clear hfr hcl
      generalize World.setCell X _ _ = Y at *
      go_loopw [11] (fun v wr => ∃ (i : Nat) (d : List Int), v = .int .i64 (i : Nat) ∧ i ≤ k0 ∧ d.length = k0 ∧ Hid (d = (l.take i).foldl (pushN k0 E) (pull0 k0 an)) ∧ Hid (wr.heap[bd]? = some (rowU d)) ∧ Hid (Kept V1 wr)) (fun v _ => k0 - (intOf v).toNat)
      case atStart => exact ⟨0, pull0 k0 an, rfl, by omega, by rw [pull0_len, Int.toNat_natCast], rfl, HR0.out, HKX.out⟩
      case round =>
        obtain ⟨i, d, rfl, hi, hdl, HD, HR1, HKw⟩ := hrel
        by_cases hlt : i < k0
        · have hlt' : (i : Int) < k0 := by omega
          obtain ⟨n, hn⟩ : ∃ n, l[i]? = some n := ⟨_, List.getElem?_eq_getElem (by rw [HSo.out.1]; omega)⟩
          have hnr := HT.out.rng n (List.mem_of_getElem? hn)
          obtain ⟨nn, rfl⟩ : ∃ nn : Nat, n = nn := ⟨n.toNat, by omega⟩
          obtain ⟨bo, oo, v, rfl, hoc1, hov⟩ := HSo.out.at i (by omega)
          have hvn : v = (nn : Int) := by rw [hov.out, List.getD_eq_getElem?_getD, hn]; rfl
          subst hvn
          have HOc := Lib.hid hoc1
          have hoc2 := HKw.out.cel hoc1
          have HD2 : Hid (pushN k0 E d nn = (l.take (i + 1)).foldl (pushN k0 E) (pull0 k0 an)) := by
            unfold Hid
            rw [foldl_take _ _ _ _ _ hn, ← HD.out]
          have HBw := Lib.hid (HKw.out.only.heap HB1.out (by simp))
          have c0 := at_cell HBw.out 0 (.int .i64 (k0 : Nat)) rfl
          have c1 := at_cell HBw.out 1 (.slice s m c) rfl
          have HS : Hid (∀ Z, Kept wr Z → Z.cell? ⟨bx, 0, none⟩ = some (.int .i64 (k0 : Nat)) ∧ Z.cell? ⟨bx, 1, none⟩ = some (.slice s m c) ∧ Z.cell? ⟨bo, oo + i, none⟩ = some (.int .i64 (nn : Nat))) := fun Z k => ⟨k.cel c0, k.cel c1, k.cel hoc2⟩
          have HA : Hid (∀ Z, Kept wr Z → Calls Try.prog 38 #[.agg #[.int .i64 (k0 : Nat), .slice s m c], .int .i64 (nn : Nat)] Z fun e w' => ∃ (a : Option Addr) (k c' : Nat), e = .returned (.slice a k c') ∧ Sl .i64 w' a k c' (besL k0 E nn 0) ∧ Kept Z w' ∧ k ≤ 16 ∧ (∀ y, a = some y → Z.heap.size ≤ y.block)) := fun Z hZ => r_behind (k0 : Int) (nn : Int) (HE.out.kept ((HK1.out.trans HKw.out).trans hZ)) hm
          have hbw := lt_heap HR1.out
          clear hn hov HD hoc1
          go_upto_region 9 with fail
          have KD : Kept wr wr.drew := (Kept.refl _).dr ⟨1, rfl⟩
          first | (go_region_held3 (fun Z => Z.cell? ⟨bx, 0, none⟩ = some (.int .i64 (k0 : Nat)) ∧ Z.cell? ⟨bx, 1, none⟩ = some (.slice s m c) ∧ Z.cell? ⟨bo, oo + i, none⟩ = some (.int .i64 (nn : Nat))) (exact HS.out _ KD) ((go_at_call 38; refine (HA.out _ KD).mono ?_; rintro E2 V2 ⟨ba, bk, bc, rfl, hSb, hK2', hbm, hnew⟩; replace hnew := fun y hy => Nat.le_trans KD.size (hnew y hy); replace KD := KD.trans hK2'; clear hK2'))) | fail
          rename_i hHeld
          have hK2 := KD
          clear hHeld HS KD
          have HIB : Hid (inB ba [bd]) := fun y hy hm => by
            have h1 := hnew y hy
            simp at hm
            omega
          have HSb := Lib.hid hSb
          have hbl := hSb.1
          have hbc := hSb.2.1
          have HK2 := Lib.hid (HKw.out.trans hK2)
          have HR2 := Lib.hid (hK2.only.heap HR1.out (by simp))
          clear hSb hK2 HA c0 c1 hnew
          go_wp2_with fail
          go_loopw [13] (fun v wx => ∃ (j : Nat) (d' : List Int), v = .int .i64 (j : Nat) ∧ j ≤ bk ∧ d'.length = k0 ∧ Hid (d' = ((besL k0 E nn 0).take j).foldl (pushK nn) d) ∧ Hid (wx.heap[bd]? = some (rowU d')) ∧ Hid (Only [bd] V2 wx)) (fun v _ => bk - (intOf v).toNat)
          case atStart => exact ⟨0, d, rfl, by omega, hdl, rfl, HR2.out, Only.refl _ _⟩
          case round =>
            obtain ⟨j, d', rfl, hj, hdl', HD', HR', HK'⟩ := hrel
            by_cases hlj : j < bk
            · have hlj' : (j : Int) < bk := by omega
              obtain ⟨a, ha⟩ : ∃ a, (besL k0 E nn 0)[j]? = some a := ⟨_, List.getElem?_eq_getElem (by omega)⟩
              have har := besL_in HG.out (List.mem_of_getElem? ha)
              obtain ⟨kn, rfl⟩ : ∃ kn : Nat, a = kn := ⟨a.toNat, by omega⟩
              obtain ⟨b2, o2, v, rfl, hac, hav⟩ := (HK'.out.sl HSb.out HIB.out).at j hlj
              have hva : v = (kn : Int) := by rw [hav.out, List.getD_eq_getElem?_getD, ha]; rfl
              subst hva
              have hcn := rowU_at HR'.out nn (by omega)
              have hca := rowU_at HR'.out kn (by omega)
              have hfr := one_free HR'.out nn
              have HD3 : Hid (pushK nn d' kn = ((besL k0 E nn 0).take (j + 1)).foldl (pushK nn) d) := by
                unfold Hid
                rw [foldl_take _ _ _ _ _ ha, ← HD'.out]
              have HLv : Hid (pushK nn d' kn = d'.set kn (IntKind.u64.wrap (d'.getD kn 0 + d'.getD nn 0))) := rfl
              have K9 := HK2.out.onl HK'.out (by simp; omega)
              have hon := K9.cel HOc.out
              have hfk := one_free HR'.out kn
              clear ha hav HD' hfr K9
              generalize d'.getD nn 0 = x at *
              generalize d'.getD kn 0 = y at *
              go_wp2_with fail
              go_still_tail 21, (by kernel_rfl)
              have HRd : Hid (wr.drew.heap[bd]? = some (rowU d')) := HR'.out
              have HOd : Hid (Only [bd] V2 wr.drew) := HK'.out.drew
              clear hca hcn hfk hon hac
              change wpList _ _ _ _ _ wr.drew
              generalize wr.drew = w2 at *
              have hfr := one_free HRd.out kn
              have hcn := rowU_at HRd.out kn (by omega)
              have hR2 := Lib.hid (rowU_set HRd.out kn (IntKind.u64.wrap (y + x)))
              have hO2 := Lib.hid (HOd.out.then ((Only.refl [bd] w2).setCell (p := ⟨bd, kn, none⟩) (fun _ => by simp) (.int .u64 (IntKind.u64.wrap (y + x)))) (fun i _ hi => hi))
              go_wp2_with fail
              go_roundw
              case rel => exact ⟨j + 1, d'.set kn (IntKind.u64.wrap (y + x)), by go_num, by omega, by simp [hdl'], HLv.out.symm.trans HD3.out, hR2.out, hO2.out⟩
              case measure => simp [intOf]; omega
            · have hje : j = bk := by omega
              subst hje
              have HD4 : Hid (d' = (l.take (i + 1)).foldl (pushN k0 E) (pull0 k0 an)) := by
                unfold Hid
                rw [← HD2.out, HD'.out, List.take_of_length_le (by omega)]; rfl
              have HKF := Lib.hid (HK2.out.onl HK'.out (by simp; omega))
              go_wp2_with fail
              go_roundw
              case rel => exact ⟨i + 1, d', by go_num, by omega, hdl', HD4.out, HR'.out, HKF.out⟩
              case measure => simp [intOf]; omega
        · have hie : i = k0 := by omega
          subst hie
          have hlen : l.length = i := HSo.out.1
          have HFn : Hid (d.getD bn 0 = (pthP (i : Int) E (an : Int) (bn : Int) : Nat)) := by
            have h1 := ps_pre HG.out HT.out (a := (an : Int)) (by omega) l.length (Nat.le_refl _)
            have h2 := h1.fin HG.out HT.out (bn : Int) (by omega)
            rw [Int.toNat_natCast] at h2
            rw [List.take_length] at h2
            unfold Hid
            rw [HD.out, List.take_of_length_le (by omega)]
            exact h2
          have HKF := Lib.hid (HK1.out.trans HKw.out)
          have hcb := rowU_at HR1.out bn (by omega)
          rw [HFn.out] at hcb
          go_wp2_with fail
          exact bodyPost_ret (v := .tuple #[.int .u64 (pthP (i : Int) E (an : Int) (bn : Int) : Nat), .bool true]) (by simp [results, Try.results20, go_sem]) rfl ⟨by rw [HRs.out.1, HRs.out.2], HKF.out⟩
    · have HR := HNo.out (by
        rw [HOk.out]
        unfold inG
        rw [← Bool.not_eq_true, Bool.and_eq_true, decide_eq_true_eq, decide_eq_true_eq]
        exact hab)
      by_cases f1 : pa < 0
      · clear hab
        go_wp2_with fail
        exact bodyPost_ret (v := .tuple #[.int .u64 0, .bool false]) (by simp [results, Try.results20, go_sem]) rfl ⟨by rw [HR.out.1, HR.out.2], HK1.out⟩
      · by_cases f2 : (k0 : Int) ≤ pa
        · clear hab
          go_wp2_with fail
          exact bodyPost_ret (v := .tuple #[.int .u64 0, .bool false]) (by simp [results, Try.results20, go_sem]) rfl ⟨by rw [HR.out.1, HR.out.2], HK1.out⟩
        · by_cases f3 : pb < 0
          · clear hab
            go_wp2_with fail
            exact bodyPost_ret (v := .tuple #[.int .u64 0, .bool false]) (by simp [results, Try.results20, go_sem]) rfl ⟨by rw [HR.out.1, HR.out.2], HK1.out⟩
          · have f4 : (k0 : Int) ≤ pb := by omega
            clear hab
            go_wp2_with fail
            exact bodyPost_ret (v := .tuple #[.int .u64 0, .bool false]) (by simp [results, Try.results20, go_sem]) rfl ⟨by rw [HR.out.1, HR.out.2], HK1.out⟩
end Go.Proofs.Ytmejphlpcgochaa
