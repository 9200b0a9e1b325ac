/- Graphs, the document's: steps. -/
import Derived.Test.YtboohafebkkdbaaGrR2
set_option linter.unusedVariables false
set_option linter.unusedSimpArgs false
namespace Go.Proofs.Ytboohafebkkdbaa
open Go.RowKit
/-- a row laid from its front on -/
def layL (k j : Nat) (f g : Nat → Int) : List Int := (List.range k).map fun i => if i < j then f i else g i
theorem layL_len (k j : Nat) (f g : Nat → Int) : (layL k j f g).length = k := by unfold layL; simp
theorem layL_get (k j : Nat) (f g : Nat → Int) (i : Nat) (hi : i < k) : (layL k j f g)[i]? = some (if i < j then f i else g i) := by
  unfold layL
  rw [List.getElem?_map, List.getElem?_range hi]; rfl
theorem layL_set (k j : Nat) (f g : Nat → Int) (hj : j < k) : (layL k j f g).set j (f j) = layL k (j + 1) f g := by
  refine List.ext_getElem? fun i => ?_
  rw [List.getElem?_set]
  by_cases hij : j = i
  · subst hij
    rw [if_pos rfl, if_pos (by rw [layL_len]; exact hj), layL_get _ _ _ _ _ hj, if_pos (Nat.lt_succ_self _)]
  · rw [if_neg hij]
    by_cases hi : i < k
    · rw [layL_get _ _ _ _ _ hi, layL_get _ _ _ _ _ hi]
      by_cases h1 : i < j
      · rw [if_pos h1, if_pos (by omega)]
      · rw [if_neg h1, if_neg (by omega)]
    · rw [List.getElem?_eq_none (by rw [layL_len]; omega), List.getElem?_eq_none (by rw [layL_len]; omega)]
theorem layL_skip (k j : Nat) (f g : Nat → Int) (h : f j = g j) : layL k j f g = layL k (j + 1) f g := by
  unfold layL
  refine List.map_congr_left fun i _ => ?_
  by_cases h1 : i < j
  · rw [if_pos h1, if_pos (by omega)]
  · rw [if_neg h1]
    by_cases h2 : i = j
    · subst h2; rw [if_pos (by omega), h]
    · rw [if_neg (by omega)]
theorem layL_zero (k : Nat) (f g : Nat → Int) : layL k 0 f g = (List.range k).map g := by unfold layL; simp
theorem layL_all (k : Nat) (f g : Nat → Int) : layL k k f g = (List.range k).map f := by
  unfold layL
  refine List.map_congr_left fun i hi => ?_
  rw [if_pos (List.mem_range.1 hi)]
theorem repl_range (k : Nat) (v : Int) : List.replicate k v = (List.range k).map fun _ => v := by
  refine List.ext_getElem? fun i => ?_
  rw [List.getElem?_replicate, List.getElem?_map]
  by_cases hi : i < k
  · rw [if_pos hi, List.getElem?_range hi]; rfl
  · rw [if_neg hi, List.getElem?_eq_none (by simp; omega)]; rfl
theorem rowI_at0 {w : World} {b : Nat} {l : List Int} (h : w.heap[b]? = some (rowI l)) (i : Nat) (hi : i < l.length) : w.cell? ⟨b, 0 + i, none⟩ = some (.int .i64 (l.getD i 0)) := by rw [Nat.zero_add]; exact rowI_at h i hi
set_option maxRecDepth 100000 in
set_option maxHeartbeats 16000000 in
theorem r_steps {w : World} {s : Option Addr} {m c : Nat} {E : List Ed} (k0 : Nat) (a : Int) (hE : SlE w s m c E) (hm : m ≤ 900) (hg : goodG k0 E = true) :
    Calls Try.prog 30 #[.agg #[.int .i64 (k0 : Nat), .slice s m c], .int .i64 a] w fun e w' => ∃ (ad : Option Addr) (c' : Nat), e = .returned (.slice ad k0 c') ∧ Sl .i64 w' ad k0 c' (stpL k0 E a) ∧ Kept w w' := by
  have hN := good_N hg
  have hl := hE.1
  have hnc := hE.2.1
  have hB0 := heap_alloc_new w (.cells #[.int .i64 (k0 : Nat), .slice s m c] 40)
  have K0 := kept_al w (.cells #[.int .i64 (k0 : Nat), .slice s m c] 40)
  have b0 := at_cell hB0 0 _ rfl
  have b1 := at_cell hB0 1 _ rfl
  have hmk := fun W => made_row W k0 (by omega)
  have HE := Lib.hid (hE.kept K0)
  have HG := Lib.hid hg
  have HK0 := Lib.hid K0
  have HB := Lib.hid hB0
  clear hE K0 hB0
  go_enter Try.func30, Try.ntmps30
  go_upto_region 1 with fail
  generalize World.alloc w _ = X0 at *
  generalize hbx : w.heap.size = bx at *
  clear hbx
  have hrow := heap_alloc_new X0 (rowI (List.replicate k0 0))
  have KX := kept_al X0 (rowI (List.replicate k0 0))
  obtain ⟨bd, hbd⟩ : ∃ bd, X0.heap.size = bd := ⟨_, rfl⟩
  have hxd : bx < bd := by have := lt_heap HB.out; omega
  have HRow := Lib.hid hrow
  have HKX := Lib.hid KX
  rw [hbd] at HRow
  have hXb : X0.heap.size ≤ bd := by omega
  clear hrow KX b1
  go_wp2_with fail
  generalize World.alloc X0 _ = X at *
  clear hmk b0
  have HL0 : Hid (X.heap[bd]? = some (rowI (layL k0 0 (fun _ => -1) (fun _ => 0)))) := by
    unfold Hid
    rw [layL_zero, ← repl_range]
    exact HRow.out
  go_loopw [6] (fun v wr => ∃ (j : Nat), v = .int .i64 (j : Nat) ∧ j ≤ k0 ∧ Hid (wr.heap[bd]? = some (rowI (layL k0 j (fun _ => -1) (fun _ => 0)))) ∧ Hid (Kept X0 wr)) (fun v _ => k0 - (intOf v).toNat)
  case atStart => exact ⟨0, rfl, by omega, HL0.out, HKX.out⟩
  case round =>
    obtain ⟨j, rfl, hj, HR, HK⟩ := hrel
    have c0 := at_cell (HK.out.only.heap HB.out (by simp)) 0 (.int .i64 (k0 : Nat)) rfl
    by_cases hlt : j < k0
    · have hlt' : (j : Int) < k0 := by omega
      have hfr := one_free HR.out j
      have hcl := rowI_at HR.out j (by rw [layL_len]; exact hlt)
      have hR2 := Lib.hid (rowI_set HR.out j (-1))
      rw [layL_set k0 j (fun _ => -1) (fun _ => 0) hlt] at hR2
      have hK2 := Lib.hid (HK.out.onl ((Only.refl [bd] wr).setCell (p := ⟨bd, j, none⟩) (fun _ => by simp) (.int .i64 (-1))) (by simp; omega))
      go_wp2_with fail
      go_roundw
      case rel => exact ⟨j + 1, by go_num, by omega, hR2.out, hK2.out⟩
      case measure => simp [intOf]; omega
    · obtain rfl : j = k0 := by omega
      have HL1 : Hid (wr.heap[bd]? = some (rowI (layL j 0 (stp0 E a) (fun _ => -1)))) := by
        unfold Hid
        rw [layL_zero]
        have := HR.out
        rwa [layL_all] at this
      clear HR
      go_wp2_with fail
      go_loopw [7] (fun v wr => ∃ (i : Nat), v = .int .i64 (i : Nat) ∧ i ≤ j ∧ Hid (wr.heap[bd]? = some (rowI (layL j i (stp0 E a) (fun _ => -1)))) ∧ Hid (Kept X0 wr)) (fun v _ => j - (intOf v).toNat)
      case atStart => exact ⟨0, rfl, by omega, HL1.out, HK.out⟩
      case round =>
        obtain ⟨i, rfl, hi, HR, HKi⟩ := hrel
        have d0 := at_cell (HKi.out.only.heap HB.out (by simp)) 0 (.int .i64 (j : Nat)) rfl
        have d1 := at_cell (HKi.out.only.heap HB.out (by simp)) 1 (.slice s m c) rfl
        by_cases hlt : i < j
        · have hlt' : (i : Int) < j := by omega
          have HH := Lib.hid (r_has (j : Int) a (i : Int) (HE.out.kept HKi.out) hm)
          have hst : stp0 E a i = if hasE E (a, (i : Int)) = true then 1 else -1 := rfl
          have HSt := Lib.hid hst
          clear hst
          go_wp2_with fail
          refine HH.out.mono ?_
          rintro E1 V1 ⟨rfl, hK1⟩
          have HR1 := Lib.hid (hK1.only.heap HR.out (by simp))
          have HK1 := Lib.hid (HKi.out.trans hK1)
          clear hK1 HH d0 d1
          cases hcc : hasE E (a, (i : Int)) with
          | true =>
            rw [hcc, if_pos rfl] at HSt
            have hfr := one_free HR1.out i
            have hcl := rowI_at HR1.out i (by rw [layL_len]; exact hlt)
            have hR2 := Lib.hid (rowI_set HR1.out i (stp0 E a i))
            rw [layL_set j i (stp0 E a) (fun _ => -1) hlt, HSt.out] at hR2
            have hK2 := Lib.hid (HK1.out.onl ((Only.refl [bd] V1).setCell (p := ⟨bd, i, none⟩) (fun _ => by simp) (.int .i64 1)) (by simp; omega))
            clear hcc
            go_wp2_with fail
            go_roundw
            case rel => exact ⟨i + 1, by go_num, by omega, hR2.out, hK2.out⟩
            case measure => simp [intOf]; omega
          | false =>
            rw [hcc, if_neg (by simp)] at HSt
            rw [layL_skip j i (stp0 E a) (fun _ => -1) HSt.out] at HR1
            clear hcc
            go_wp2_with fail
            go_roundw
            case rel => exact ⟨i + 1, by go_num, by omega, HR1.out, HK1.out⟩
            case measure => simp [intOf]; omega
        · obtain rfl : i = j := by omega
          rw [layL_all] at HR
          have HI0 := Lib.hid (StJ.init (a := a) HG.out)
          rw [Int.toNat_natCast] at HI0
          go_wp2_with fail
          go_loopw [8] (fun v wr => ∃ (r : Nat) (d : List Int), v = .int .i64 (r : Nat) ∧ r ≤ i ∧ Hid (StJ i E a r 0 d) ∧ Hid (wr.heap[bd]? = some (rowI d)) ∧ Hid (Kept X0 wr)) (fun v _ => i - (intOf v).toNat)
          case atStart => exact ⟨0, _, rfl, by omega, HI0.out, HR.out, HKi.out⟩
          case round =>
            obtain ⟨r, d, rfl, hr, HJ, HR, HKr⟩ := hrel
            have d0 := at_cell (HKr.out.only.heap HB.out (by simp)) 0 (.int .i64 (i : Nat)) rfl
            by_cases hlr : r < i
            · have hlr' : (r : Int) < i := by omega
              go_wp2_with fail
              go_loopw [9] (fun v wr => ∃ (q : Nat) (d : List Int), v = .int .i64 (q : Nat) ∧ q ≤ m ∧ Hid (StJ i E a r q d) ∧ Hid (wr.heap[bd]? = some (rowI d)) ∧ Hid (Kept X0 wr)) (fun v _ => m - (intOf v).toNat)
              case atStart => exact ⟨0, d, rfl, by omega, HJ.out, HR.out, HKr.out⟩
              case round =>
                obtain ⟨q, d, rfl, hq, HJ, HR, HKq⟩ := hrel
                have e1 := at_cell (HKq.out.only.heap HB.out (by simp)) 1 (.slice s m c) rfl
                by_cases hlq : q < m
                · have hlq' : (q : Int) < m := by omega
                  obtain ⟨⟨xa, xb⟩, hx⟩ : ∃ x, E[q]? = some x := ⟨_, List.getElem?_eq_getElem (by omega)⟩
                  have hrn := good_mem HG.out (List.mem_of_getElem? hx)
                  dsimp only at hrn
                  obtain ⟨xn, rfl⟩ : ∃ xn : Nat, xa = xn := ⟨xa.toNat, by omega⟩
                  obtain ⟨yn, rfl⟩ : ∃ yn : Nat, xb = yn := ⟨xb.toNat, by omega⟩
                  obtain ⟨bs, o, rfl, q0, q1⟩ := (HE.out.kept HKq.out).at hx
                  dsimp only at q0 q1
                  have hdl := HJ.out.len
                  rw [Int.toNat_natCast] at hdl
                  have HJ2 := Lib.hid (HJ.out.rlx (x := xn) (y := yn) (by omega) (by omega) hx)
                  have hbx1 := HJ.out.bd xn
                  have hlow : -1 ≤ d.getD xn 0 := by have := HJ.out.snd xn (by omega); omega
                  have hxn : xn < d.length := by omega
                  have hyn : yn < d.length := by omega
                  have HX := Lib.hid hrn
                  clear hx hrn
                  obtain ⟨dx, hdx⟩ : ∃ dx, d.getD xn 0 = dx := ⟨_, rfl⟩
                  obtain ⟨dy, hdy⟩ : ∃ dy, d.getD yn 0 = dy := ⟨_, rfl⟩
                  have HRl : Hid (rlx d xn yn = if 0 ≤ dx ∧ (dy < 0 ∨ dx + 1 < dy) then d.set yn (dx + 1) else d) := by unfold Hid rlx; rw [hdx, hdy]
                  have hcx := rowI_at HR.out xn hxn
                  have hcy := rowI_at HR.out yn hyn
                  rw [hdx] at hcx hbx1 hlow
                  rw [hdy] at hcy
                  clear hdx hdy
                  go_wp2_with fail
                  go_quiet (fail)
                  go_wp2_with fail
                  have HRY : Hid ((wr.drewN nq).heap[bd]? = some (rowI d)) := HR.out
                  have HKY := Lib.hid (HKq.out.dr ((Dr.refl wr).drewN nq))
                  replace hcx : (wr.drewN nq).cell? ⟨bd, xn, none⟩ = some (.int .i64 dx) := hcx
                  replace hcy : (wr.drewN nq).cell? ⟨bd, yn, none⟩ = some (.int .i64 dy) := hcy
                  clear q0 q1 e1
                  generalize wr.drewN nq = Y at *
                  by_cases t1 : 0 ≤ dx
                  · have f1 : decide (0 ≤ dx) = true := decide_eq_true t1
                    by_cases t2 : dy < 0
                    · have f2 : decide (dy < 0) = true := decide_eq_true t2
                      have HJ3 : Hid (StJ i E a r (q + 1) (d.set yn (dx + 1))) := by
                        have h := HRl.out
                        rw [if_pos (by omega)] at h
                        unfold Hid
                        rw [← h]; exact HJ2.out
                      go_big_quiet (fail)
                      have hfr := one_free HRY.out yn
                      have hR2 := Lib.hid (rowI_set (w := Y.drewN nq) HRY.out yn (dx + 1))
                      have hK2 := Lib.hid (HKY.out.onl (((Only.refl [bd] Y).drewN nq).setCell (p := ⟨bd, yn, none⟩) (fun _ => by simp) (.int .i64 (dx + 1))) (by simp; omega))
                      go_wp2_with fail
                      go_roundw
                      case rel => exact ⟨q + 1, d.set yn (dx + 1), by go_num, by omega, HJ3.out, hR2.out, hK2.out⟩
                      case measure => simp [intOf]; omega
                    · have f2 : decide (dy < 0) = false := decide_eq_false t2
                      by_cases t3 : dx + 1 < dy
                      · have f3 : decide (dx + 1 < dy) = true := decide_eq_true t3
                        have HJ3 : Hid (StJ i E a r (q + 1) (d.set yn (dx + 1))) := by
                          have h := HRl.out
                          rw [if_pos (by omega)] at h
                          unfold Hid
                          rw [← h]; exact HJ2.out
                        go_big_quiet (fail)
                        have hfr := one_free HRY.out yn
                        have hR2 := Lib.hid (rowI_set (w := Y.drewN nq) HRY.out yn (dx + 1))
                        have hK2 := Lib.hid (HKY.out.onl (((Only.refl [bd] Y).drewN nq).setCell (p := ⟨bd, yn, none⟩) (fun _ => by simp) (.int .i64 (dx + 1))) (by simp; omega))
                        go_wp2_with fail
                        go_roundw
                        case rel => exact ⟨q + 1, d.set yn (dx + 1), by go_num, by omega, HJ3.out, hR2.out, hK2.out⟩
                        case measure => simp [intOf]; omega
                      · have f3 : decide (dx + 1 < dy) = false := decide_eq_false t3
                        have HJ3 : Hid (StJ i E a r (q + 1) d) := by
                          have h := HRl.out
                          rw [if_neg (by omega)] at h
                          have h2 := HJ2.out
                          rw [h] at h2
                          exact h2
                        go_big_quiet (fail)
                        have hK2 := Lib.hid (HKY.out.dr ((Dr.refl Y).drewN nq))
                        go_wp2_with fail
                        go_roundw
                        case rel => exact ⟨q + 1, d, by go_num, by omega, HJ3.out, HRY.out, hK2.out⟩
                        case measure => simp [intOf]; omega
                  · have f1 : decide (0 ≤ dx) = false := decide_eq_false t1
                    have HJ3 : Hid (StJ i E a r (q + 1) d) := by
                      have h := HRl.out
                      rw [if_neg (by omega)] at h
                      have h2 := HJ2.out
                      rw [h] at h2
                      exact h2
                    go_big_quiet (fail)
                    have hK2 := Lib.hid (HKY.out.dr ((Dr.refl Y).drewN nq))
                    go_wp2_with fail
                    go_roundw
                    case rel => exact ⟨q + 1, d, by go_num, by omega, HJ3.out, HRY.out, hK2.out⟩
                    case measure => simp [intOf]; omega
                · have HJ2 := Lib.hid (HJ.out.next HG.out (by omega) (by omega))
                  go_wp2_with fail
                  go_roundw
                  case rel => exact ⟨r + 1, d, by go_num, by omega, HJ2.out, HR.out, HKq.out⟩
                  case measure => simp [intOf]; omega
            · have HF := Lib.hid (HJ.out.fin HG.out (by omega))
              have HKF := Lib.hid (HK0.out.trans HKr.out)
              have hdl := HJ.out.len
              rw [Int.toNat_natCast] at hdl
              go_wp2_with fail
              go_ret
              exact ⟨_, _, rfl, by rw [← HF.out]; exact rowI_sl HR.out i hdl (by omega), HKF.out⟩
end Go.Proofs.Ytboohafebkkdbaa
