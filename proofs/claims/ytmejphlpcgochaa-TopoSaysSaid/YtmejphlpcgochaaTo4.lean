/- Orders: topo.Paths. -/
import Derived.Test.YtmejphlpcgochaaTo2
import Derived.Test.YtmejphlpcgochaaToM4
import Derived.StillTailTactics
set_option linter.unusedVariables false
set_option linter.unusedSimpArgs false
namespace Go.Proofs.Ytmejphlpcgochaa
open Go.RowKit
theorem elemU : Elem Try.prog 51 26 (.int .u64 0) 1 8 :=
  ⟨Try.underlying51, info_parts (by kernel_rfl), rfl, by omega⟩
def rowU (l : List Int) : Obj := .cells (l.map (Value.int .u64)).toArray 26 (0, 0)
theorem rowU_at {w : World} {b : Nat} {l : List Int} (h : w.heap[b]? = some (rowU l)) (i : Nat) (hi : i < l.length) : w.cell? ⟨b, i, none⟩ = some (.int .u64 (l.getD i 0)) := by
  refine at_cell h i _ ?_
  rw [List.getElem?_toArray, List.getElem?_map, List.getD_eq_getElem?_getD, List.getElem?_eq_getElem hi]; rfl
theorem rowU_set {w : World} {b : Nat} {l : List Int} (h : w.heap[b]? = some (rowU l)) (i : Nat) (v : Int) : (w.setCell ⟨b, i, none⟩ (.int .u64 v)).heap[b]? = some (rowU (l.set i v)) := by
  have := at_set h i (.int .u64 v)
  rw [this]
  unfold rowU
  simp
theorem made_rowU (w : World) (n : Nat) (hn : n ≤ 1000) : (Instr.makeSlice 51 (.int .i64 (n : Int)) (.int .i64 (n : Int))).run Try.prog w = .ok (.slice (some ⟨w.heap.size, 0, none⟩) n n) (w.alloc (rowU (List.replicate n 0))) := by
  obtain ⟨i, hi, hz, hs, hb⟩ := elemU.hi
  have h := run_make (P := Try.prog) w 51 26 i _ elemU.ht hi hz .i64 .i64 n n (by omega) (Int.le_refl _) (by rw [hb]; omega) (by omega)
  rw [h, hs]
  simp only [Int.toNat_natCast, Nat.mul_one]
  congr 2
  unfold rowU
  congr 1
  apply Array.ext'
  apply List.ext_getElem?
  intro j
  by_cases hj : j < n
  · simp [madeCells, Value.cells, hj, Nat.mod_one]
  · simp [madeCells, Value.cells, hj]
theorem pullK_len (n : Int) (v : List Int) (k : Int) : (pullK n v k).length = v.length := by unfold pullK; simp
set_option maxRecDepth 100000 in
set_option maxHeartbeats 16000000 in
theorem t_paths {w : World} {s : Option Addr} {m c : Nat} {E : List Ed} (N pa pb : Int) (hE : SlE w s m c E) :
    Calls Try.prog 9 #[.agg #[.int .i64 N, .slice s m c], .int .i64 pa, .int .i64 pb] w fun e w' => e = .returned (.tuple #[.int .u64 (pthR N E pa pb), .bool (okP N E pa pb)]) ∧ Kept w w' := by
  have hB0 := heap_alloc_new w (.cells #[.int .i64 N, .slice s m c] 24)
  have K0 := kept_al w (.cells #[.int .i64 N, .slice s m c] 24)
  have b0 := at_cell hB0 0 _ rfl
  have b1 := at_cell hB0 1 _ rfl
  have HOr := Lib.hid (t_order N (hE.kept K0))
  have hEl := hE.1
  have HE := Lib.hid hE
  have HK0 := Lib.hid K0
  have HB := Lib.hid hB0
  clear hE K0 hB0
  go_enter Try.func9, Try.ntmps9
  go_wp2_with fail
  generalize World.alloc w _ = X0 at *
  generalize hbx : w.heap.size = bx at *
  refine HOr.out.mono ?_
  rintro E1 V1 ⟨oa, ok, oc, rfl, hSo, hK1, hok, -⟩
  have HK1 := Lib.hid (HK0.out.trans hK1)
  have HB1 := Lib.hid (hK1.only.heap HB.out (by simp))
  replace b0 := hK1.cel b0
  replace b1 := hK1.cel b1
  have hV1 := lt_heap HB1.out
  clear hK1 HOr
  have hno : okP N E pa pb = false → Hid (pthR N E pa pb = 0 ∧ okP N E pa pb = false) := fun h => ⟨by unfold pthR; rw [h]; rfl, h⟩
  have HNo := Lib.hid hno
  clear hno
  cases ho : orderT N E with
  | none =>
    have HR := HNo.out (by unfold okP; rw [ho]; rfl)
    clear ho hSo
    simp only [Option.isSome_none, Option.isSome_some]
    go_wp2_with fail
    exact bodyPost_ret (v := .tuple #[.int .u64 0, .bool false]) (by simp [results, Try.results9, go_sem]) rfl ⟨by rw [HR.out.1, HR.out.2], HK1.out⟩
  | some l =>
    obtain ⟨hg, ht⟩ := orderT_some ho
    have HOk : Hid (okP N E pa pb = (inG N pa && inG N pb)) := by unfold Hid okP; rw [ho]; rfl
    have HG := Lib.hid hg
    have HT := Lib.hid ht
    have hN := good_N hg
    have hm : m ≤ 900 := by have := good_len hg; omega
    rw [ho] at hSo
    have hSo' : Sl .i64 V1 oa ok oc l := hSo
    have hlk : ok = N.toNat := by rw [← hSo'.1, ht.len]
    have HSo := Lib.hid hSo'
    obtain ⟨k0, rfl⟩ : ∃ k0 : Nat, N = k0 := ⟨N.toNat, by omega⟩
    obtain rfl : k0 = ok := by rw [hlk, Int.toNat_natCast]
    have hocc := hSo'.2.1
    clear hg ht ho hSo hSo' hlk
    simp only [Option.isSome_none, Option.isSome_some]
    by_cases hab : (0 ≤ pa ∧ pa < k0) ∧ (0 ≤ pb ∧ pb < k0)
    · have hok1 : okP k0 E pa pb = true := by
        rw [HOk.out]
        unfold inG
        rw [decide_eq_true hab.1, decide_eq_true hab.2]; rfl
      have HRs : Hid (pthR k0 E pa pb = (pthP k0 E pa pb : Nat) ∧ okP k0 E pa pb = true) := ⟨by unfold pthR; rw [hok1]; rfl, hok1⟩
      obtain ⟨an, rfl⟩ : ∃ an : Nat, pa = an := ⟨pa.toNat, by omega⟩
      obtain ⟨bn, rfl⟩ : ∃ bn : Nat, pb = bn := ⟨pb.toNat, by omega⟩
      have f1 : ¬ min (an : Int) (bn : Int) < 0 := by omega
      have f2 : ¬ (k0 : Int) ≤ max (an : Int) (bn : Int) := by omega
      have hmk := made_rowU V1 k0 (by omega)
      have hrow := heap_alloc_new V1 (rowU (List.replicate k0 0))
      have KM := kept_al V1 (rowU (List.replicate k0 0))
      obtain ⟨bd, hbd⟩ : ∃ bd, V1.heap.size = bd := ⟨_, rfl⟩
      rw [hbd] at hmk hrow
      have HRow := Lib.hid hrow
      have HKM := Lib.hid KM
      have han : an < k0 := by omega
      have hbn : bn < k0 := by omega
      clear hrow KM hok1 HOk HNo hab
      go_upto_region 5 with fail
      generalize World.alloc V1 _ = X at *
      have hfr := one_free HRow.out an
      have hcl := rowU_at HRow.out an (by simpa using han)
      have hP0 : (pull0 (k0 : Int) (an : Int)) = (List.replicate k0 (0 : Int)).set an 1 := by unfold pull0; rw [Int.toNat_natCast, Int.toNat_natCast]
      have HR0 : Hid ((X.setCell ⟨bd, an, none⟩ (.int .u64 1)).heap[bd]? = some (rowU (pull0 k0 an))) := by unfold Hid; rw [hP0]; exact rowU_set HRow.out an 1
      have HKX := Lib.hid (HKM.out.onl ((Only.refl [bd] X).setCell (p := ⟨bd, an, none⟩) (fun _ => by simp) (.int .u64 1)) (by simp; omega))
      clear hmk b0 b1 hP0
      go_wp2_with fail
      clear hfr hcl
      generalize World.setCell X _ _ = Y at *
      go_loopw [44] (fun v wr => ∃ (i : Nat) (d : List Int), v = .int .i64 (i : Nat) ∧ i ≤ k0 ∧ d.length = k0 ∧ Hid (d = (l.take i).foldl (pullN k0 E) (pull0 k0 an)) ∧ Hid (wr.heap[bd]? = some (rowU d)) ∧ Hid (Kept V1 wr)) (fun v _ => k0 - (intOf v).toNat)
      case atStart => exact ⟨0, pull0 k0 an, rfl, by omega, by rw [pull0_len, Int.toNat_natCast], rfl, HR0.out, HKX.out⟩
      case round =>
        obtain ⟨i, d, rfl, hi, hdl, HD, HR1, HKw⟩ := hrel
        by_cases hlt : i < k0
        · have hlt' : (i : Int) < k0 := by omega
          obtain ⟨n, hn⟩ : ∃ n, l[i]? = some n := ⟨_, List.getElem?_eq_getElem (by rw [HSo.out.1]; omega)⟩
          have hnr := HT.out.rng n (List.mem_of_getElem? hn)
          obtain ⟨nn, rfl⟩ : ∃ nn : Nat, n = nn := ⟨n.toNat, by omega⟩
          obtain ⟨bo, oo, v, rfl, hoc2, hov⟩ := (HKw.out.sl HSo.out).at i (by omega)
          have hvn : v = (nn : Int) := by rw [hov.out, List.getD_eq_getElem?_getD, hn]; rfl
          subst hvn
          have HD2 : Hid (pullN k0 E d nn = (l.take (i + 1)).foldl (pullN k0 E) (pull0 k0 an)) := by
            unfold Hid
            rw [foldl_take _ _ _ _ _ hn, ← HD.out]
          have HBw := Lib.hid (HKw.out.only.heap HB1.out (by simp))
          have c0 := at_cell HBw.out 0 (.int .i64 (k0 : Nat)) rfl
          have c1 := at_cell HBw.out 1 (.slice s m c) rfl
          have HA := Lib.hid (g_ahead (k0 : Int) (nn : Int) (HE.out.kept (HK1.out.trans HKw.out)) hm)
          clear hn hov HD
          go_wp2_with fail
          refine HA.out.mono ?_
          rintro E2 V2 ⟨ba, bk, bc, rfl, hSb, hK2, hbm, hnew⟩
          have HIB : Hid (inB ba [bd]) := fun y hy hm => by
            have h1 := hnew y hy
            have h2 := lt_heap HR1.out
            simp at hm
            omega
          have HSb := Lib.hid hSb
          have hbl := hSb.1
          have hbc := hSb.2.1
          have HK2 := Lib.hid (HKw.out.trans hK2)
          have HR2 := Lib.hid (hK2.only.heap HR1.out (by simp))
          clear hSb hK2 HA c0 c1 hnew
          go_wp2_with fail
          go_loopw [52] (fun v wx => ∃ (j : Nat) (d' : List Int), v = .int .i64 (j : Nat) ∧ j ≤ bk ∧ d'.length = k0 ∧ Hid (d' = ((besL k0 E nn 1).take j).foldl (pullK nn) d) ∧ Hid (wx.heap[bd]? = some (rowU d')) ∧ Hid (Only [bd] V2 wx)) (fun v _ => bk - (intOf v).toNat)
          case atStart => exact ⟨0, d, rfl, by omega, hdl, rfl, HR2.out, Only.refl _ _⟩
          case round =>
            obtain ⟨j, d', rfl, hj, hdl', HD', HR', HK'⟩ := hrel
            by_cases hlj : j < bk
            · have hlj' : (j : Int) < bk := by omega
              obtain ⟨a, ha⟩ : ∃ a, (besL k0 E nn 1)[j]? = some a := ⟨_, List.getElem?_eq_getElem (by omega)⟩
              have har := besL_in HG.out (List.mem_of_getElem? ha)
              obtain ⟨kn, rfl⟩ : ∃ kn : Nat, a = kn := ⟨a.toNat, by omega⟩
              obtain ⟨b2, o2, v, rfl, hac, hav⟩ := (HK'.out.sl HSb.out HIB.out).at j hlj
              have hva : v = (kn : Int) := by rw [hav.out, List.getD_eq_getElem?_getD, ha]; rfl
              subst hva
              have hcn := rowU_at HR'.out nn (by omega)
              have hca := rowU_at HR'.out kn (by omega)
              have hfr := one_free HR'.out nn
              have HD3 : Hid (pullK nn d' kn = ((besL k0 E nn 1).take (j + 1)).foldl (pullK nn) d) := by
                unfold Hid
                rw [foldl_take _ _ _ _ _ ha, ← HD'.out]
              have HLv : Hid (pullK nn d' kn = d'.set nn (IntKind.u64.wrap (d'.getD nn 0 + d'.getD kn 0))) := rfl
              clear ha hav HD'
              generalize d'.getD nn 0 = x at *
              generalize d'.getD kn 0 = y at *
              go_wp2_with fail
              go_still_tail 10, (by kernel_rfl)
              have HRd : Hid (wr.drew.heap[bd]? = some (rowU d')) := HR'.out
              have HOd : Hid (Only [bd] V2 wr.drew) := HK'.out.drew
              clear hca hcn hfr
              change wpList _ _ _ _ _ wr.drew
              generalize wr.drew = w2 at *
              have hfr := one_free HRd.out nn
              have hcn := rowU_at HRd.out nn (by omega)
              have hR2 := Lib.hid (rowU_set HRd.out nn (IntKind.u64.wrap (x + y)))
              have hO2 := Lib.hid (HOd.out.then ((Only.refl [bd] w2).setCell (p := ⟨bd, nn, none⟩) (fun _ => by simp) (.int .u64 (IntKind.u64.wrap (x + y)))) (fun i _ hi => hi))
              go_wp2_with fail
              go_roundw
              case rel => exact ⟨j + 1, d'.set nn (IntKind.u64.wrap (x + y)), by go_num, by omega, by simp [hdl'], HLv.out.symm.trans HD3.out, hR2.out, hO2.out⟩
              case measure => simp [intOf]; omega
            · have hje : j = bk := by omega
              subst hje
              have HD4 : Hid (d' = (l.take (i + 1)).foldl (pullN k0 E) (pull0 k0 an)) := by
                unfold Hid
                rw [← HD2.out, HD'.out, List.take_of_length_le (by omega)]; rfl
              have HKF := Lib.hid (HK2.out.onl HK'.out (by simp; omega))
              go_wp2_with fail
              go_roundw
              case rel => exact ⟨i + 1, d', by go_num, by omega, hdl', HD4.out, HR'.out, HKF.out⟩
              case measure => simp [intOf]; omega
        · have hie : i = k0 := by omega
          subst hie
          have hlen : l.length = i := HSo.out.1
          have HFn : Hid (d.getD bn 0 = (pthP (i : Int) E (an : Int) (bn : Int) : Nat)) := by
            have h1 := pt_pre HG.out HT.out (a := (an : Int)) (by omega) l.length (Nat.le_refl _)
            have h2 := h1.fin HT.out (bn : Int) (by omega)
            rw [Int.toNat_natCast] at h2
            rw [List.take_length] at h2
            unfold Hid
            rw [HD.out, List.take_of_length_le (by omega)]
            exact h2
          have HKF := Lib.hid (HK1.out.trans HKw.out)
          have hcb := rowU_at HR1.out bn (by omega)
          rw [HFn.out] at hcb
          go_wp2_with fail
          exact bodyPost_ret (v := .tuple #[.int .u64 (pthP (i : Int) E (an : Int) (bn : Int) : Nat), .bool true]) (by simp [results, Try.results9, go_sem]) rfl ⟨by rw [HRs.out.1, HRs.out.2], HKF.out⟩
    · have HR := HNo.out (by
        rw [HOk.out]
        unfold inG
        rw [← Bool.not_eq_true, Bool.and_eq_true, decide_eq_true_eq, decide_eq_true_eq]
        exact hab)
      by_cases f1 : min pa pb < 0
      · go_wp2_with fail
        exact bodyPost_ret (v := .tuple #[.int .u64 0, .bool false]) (by simp [results, Try.results9, go_sem]) rfl ⟨by rw [HR.out.1, HR.out.2], HK1.out⟩
      · have f2 : (k0 : Int) ≤ max pa pb := by omega
        clear hab
        go_wp2_with fail
        exact bodyPost_ret (v := .tuple #[.int .u64 0, .bool false]) (by simp [results, Try.results9, go_sem]) rfl ⟨by rw [HR.out.1, HR.out.2], HK1.out⟩
end Go.Proofs.Ytmejphlpcgochaa
