/- Graphs: what is reached from what is reached is reached. -/
import Derived.Test.YtboohafebkkdbaaGrTy
import Derived.Test.YtboohafebkkdbaaGrM1
set_option linter.unusedVariables false
set_option linter.unusedSimpArgs false
namespace Go.Proofs.Ytboohafebkkdbaa
open Go.RowKit
theorem posU_mem (d : List Int) (k : Nat) (b : Int) : b ∈ posU d k ↔ 0 ≤ b ∧ b < k ∧ 0 < d.getD b.toNat 0 := by
  unfold posU
  simp only [List.mem_map, List.mem_filter, List.mem_range, decide_eq_true_eq]
  constructor
  · rintro ⟨i, ⟨h1, h2⟩, rfl⟩
    exact ⟨Int.natCast_nonneg i, by exact Int.ofNat_lt.2 h1, h2⟩
  · rintro ⟨h1, h2, h3⟩
    exact ⟨b.toNat, ⟨by omega, h3⟩, Int.toNat_of_nonneg h1⟩
theorem posU_srt (d : List Int) : ∀ k, (posU d k).Pairwise (· < ·)
  | 0 => List.Pairwise.nil
  | k + 1 => by
    rw [posU_succ]
    split
    · refine List.pairwise_append.2 ⟨posU_srt d k, List.pairwise_singleton _ _, fun x hx y hy => ?_⟩
      simp at hy
      have := (posU_mem d k x).1 hx
      omega
    · exact posU_srt d k
theorem mem_reachL {N : Int} {E : List Ed} (hg : goodG N E = true) {n : Int} (hn : inG N n = true) (b : Int) : b ∈ reachL N E n ↔ Way E n b := by
  unfold reachL posI
  rw [hg, hn, if_pos (show (true && true) = true from rfl), posU_mem]
  have hl := farL_len hg n
  constructor
  · rintro ⟨h1, _, h3⟩
    exact (farL_way hg n b h1).1 h3
  · intro h
    have := h.in hg
    exact ⟨this.1, by omega, (farL_way hg n b this.1).2 h⟩
theorem reachL_srt (N : Int) (E : List Ed) (n : Int) : (reachL N E n).Pairwise (· < ·) := by
  unfold reachL
  split
  · exact posU_srt _ _
  · exact List.Pairwise.nil
theorem srt_at {l : List Int} (h : l.Pairwise (· < ·)) (i : Nat) (x y : Int) (hx : l[i]? = some x) (hy : l[i + 1]? = some y) : x < y := by
  obtain ⟨h1, h2⟩ := List.getElem?_eq_some_iff.1 hx
  obtain ⟨h3, h4⟩ := List.getElem?_eq_some_iff.1 hy
  have := List.pairwise_iff_getElem.1 h i (i + 1) h1 h3 (by omega)
  rw [h2, h4] at this
  exact this
def rowB (l : List Bool) : Obj := .cells (l.map Value.bool).toArray 32 (0, 0)
theorem rowB_at {w : World} {b : Nat} {l : List Bool} (h : w.heap[b]? = some (rowB l)) (i : Nat) (v : Bool) (hv : l[i]? = some v) : w.cell? ⟨b, i, none⟩ = some (.bool v) := by
  refine at_cell h i _ ?_
  rw [List.getElem?_toArray, List.getElem?_map, hv]; rfl
theorem rowB_set {w : World} {b : Nat} {l : List Bool} (h : w.heap[b]? = some (rowB l)) (i : Nat) (v : Bool) : (w.setCell ⟨b, i, none⟩ (.bool v)).heap[b]? = some (rowB (l.set i v)) := by
  have := at_set h i (.bool v)
  rw [this]
  unfold rowB
  simp
theorem fill_step {R : List Int} {I : List Bool} {z : Int} {yn : Nat} (hz : 0 ≤ z) (hyn : yn < I.length) (h : ∀ b ∈ R.take z.toNat, I[b.toNat]? = some true) (hy : R[z.toNat]? = some (yn : Int)) : ∀ b ∈ R.take (z + 1).toNat, (I.set yn true)[b.toNat]? = some true := by
  intro b hb
  have hz1 : (z + 1).toNat = z.toNat + 1 := by omega
  rw [hz1, List.take_add_one, hy, List.mem_append] at hb
  rw [List.getElem?_set]
  split
  · rename_i he
    have h2 : b.toNat < I.length := by omega
    simp [hyn, h2]
  · rename_i hne
    rcases hb with hb | hb
    · exact h b hb
    · simp at hb
      omega
set_option maxRecDepth 100000 in
set_option maxHeartbeats 16000000 in
theorem graphThrough_law (v0 v1 : Value) (x0 : TyGraph.den) (x1 : Int) (w : World) (w0 : RepV w TyGraph v0 x0) (w1 : RepV w (.int .i64) v1 x1) :
    Calls Try.prog 4 #[v0, v1] w fun e w' => e = .returned (.bool true) ∧ Below w.heap.size w w' := by
  obtain ⟨N, s, m, c, E, rfl, hE, hNb⟩ := repV_graph w0
  obtain ⟨rfl, hw1⟩ := repV_int w1
  have hnb := wf_bd_i64 hw1
  have hl := hE.1
  have hnc := hE.2.1
  have hB0 := heap_alloc_new w (.cells #[.int .i64 N, .slice s m c] 24)
  have K0 := kept_al w (.cells #[.int .i64 N, .slice s m c] 24)
  have HE := Lib.hid hE
  have HAw := Lib.hid (awake10 (w.alloc (.cells #[.int .i64 N, .slice s m c] 24)))
  have HK0 := Lib.hid K0
  have HB := Lib.hid hB0
  clear w0 w1 hw1 hE K0 hB0
  go_enter Try.func4, Try.ntmps4
  go_wp2_with fail
  generalize World.alloc w _ = X0 at *
  generalize hbx : w.heap.size = bx at *
  refine HAw.out.mono ?_
  rintro E1 V1 ⟨rfl, hK1⟩
  have HB1 := Lib.hid (hK1.only.heap HB.out (by simp))
  have HK1 := Lib.hid (HK0.out.trans hK1)
  have b0 := at_cell HB1.out 0 _ rfl
  have b1 := at_cell HB1.out 1 _ rfl
  clear hK1 HAw
  by_cases hm : m ≤ 60
  · have g1 : ¬ (60 : Int) < m := by omega
    have HGd := Lib.hid (g_good N (HE.out.kept HK1.out) (by omega))
    go_wp2_with fail
    refine HGd.out.mono ?_
    rintro E2 V2 ⟨rfl, hK2⟩
    have HB2 := Lib.hid (hK2.only.heap HB1.out (by simp))
    have HK2 := Lib.hid (HK1.out.trans hK2)
    replace b0 := hK2.cel b0
    replace b1 := hK2.cel b1
    clear hK2 HGd
    cases hg : goodG N E with
    | false =>
      go_wp2_with fail
      go_ret
      exact ⟨rfl, HK2.out⟩
    | true =>
      have HG : Hid (goodG N E = true) := hg
      clear hg
      by_cases hin : 0 ≤ x1 ∧ x1 < N
      · have i1 : ¬ x1 < 0 := by omega
        have i2 : ¬ N ≤ x1 := by omega
        have HIn : Hid (inG N x1 = true) := decide_eq_true hin
        have HRc := Lib.hid (g_reach N x1 (HE.out.kept HK2.out) (by omega))
        have hN := good_N HG.out
        go_wp2_with fail
        refine HRc.out.mono ?_
        rintro E3 V3 ⟨ra, rk, rc, rfl, hSr, hK3, hrk, hrn⟩
        have HMr := Lib.hid (fun b => mem_reachL HG.out HIn.out b)
        have HSr0 := Lib.hid (reachL_srt N E x1)
        obtain ⟨R, hR⟩ : ∃ R, reachL N E x1 = R := ⟨_, rfl⟩
        rw [hR] at hSr HMr HSr0
        have HSr := Lib.hid hSr
        have hrl := hSr.1
        have hrc := hSr.2.1
        have HB3 := Lib.hid (hK3.only.heap HB2.out (by simp))
        have HK3 := Lib.hid (HK2.out.trans hK3)
        have HBA := heap_alloc_new V3 (rowB (List.replicate 16 false))
        have KA := kept_al V3 (rowB (List.replicate 16 false))
        have HKA := Lib.hid (HK3.out.trans KA)
        have HSA := Lib.hid (KA.sl hSr)
        have HBBA := Lib.hid (KA.only.heap HB3.out (by simp))
        have HBA := Lib.hid HBA
        clear hSr hK3 hrn hR HRc b0 b1 KA
        go_wp2_with fail
        have hlit : (Obj.cells #[.bool false, .bool false, .bool false, .bool false, .bool false, .bool false, .bool false, .bool false, .bool false, .bool false, .bool false, .bool false, .bool false, .bool false, .bool false, .bool false] 32) = rowB (List.replicate 16 false) := rfl
        rw [hlit]
        clear hlit
        have HA0 := Lib.hid (kept_al V3 (rowB (List.replicate 16 false)))
        generalize World.alloc V3 _ = A at *
        generalize hbi : V3.heap.size = bi at *
        have hAs := lt_heap HBA.out
        have hwA : bx < bi := by have h1 := lt_heap HB3.out; omega
        have hwb : w.heap.size ≤ bi := by have := HK3.out.size; omega
        have HRin : Hid (∀ b ∈ R, 0 ≤ b ∧ b < N) := fun b hb => ((HMr.out b).1 hb).in HG.out
        have HBIN : Hid (V3.heap.size = bi) := hbi
        have hVb : V3.heap.size ≤ bi := by omega
        clear hbi
        go_wp2_with fail
        go_loopw [7] (fun v wr => ∃ (z : Int) (I : List Bool), v = .int .i64 z ∧ 0 ≤ z ∧ z ≤ rk ∧ I.length = 16 ∧ Hid (∀ b ∈ R.take z.toNat, I[b.toNat]? = some true) ∧ Hid (wr.heap[bi]? = some (rowB I)) ∧ Hid (Kept V3 wr)) (fun v _ => rk - (intOf v).toNat)
        case atStart => exact ⟨0, List.replicate 16 false, rfl, by omega, by omega, rfl, (by intro b hb; simp at hb), HBA.out, HA0.out⟩
        case round =>
          obtain ⟨z, I, rfl, hz0, hz1, hI, HI, HBI, HKW⟩ := hrel
          have c0 := at_cell (HKW.out.only.heap HB3.out (by simp)) 0 (.int .i64 N) rfl
          by_cases hlt : z < rk
          · obtain ⟨y, hy⟩ : ∃ y, R[z.toNat]? = some y := ⟨_, List.getElem?_eq_getElem (by omega)⟩
            have hym := HRin.out y (List.mem_of_getElem? hy)
            have hyg : R.getD z.toNat 0 = y := by rw [List.getD_eq_getElem?_getD, hy]; rfl
            obtain ⟨yn, hyn⟩ : ∃ yn : Nat, y = yn := ⟨y.toNat, by omega⟩
            subst hyn
            obtain ⟨br, or', v, rfl, hv, hvv⟩ := (HKW.out.sl HSr.out).at z.toNat (by omega)
            obtain rfl : v = (yn : Int) := by rw [← hyg]; exact hvv.out
            have HY := Lib.hid hy
            have hyn : yn < 16 := by omega
            clear hvv hyg hy
            have HF := Lib.hid (fill_step hz0 (by rw [hI]; exact hyn) HI.out HY.out)
            have hfr := one_free HBI.out yn
            have hcl := rowB_at HBI.out yn _ (List.getElem?_eq_getElem (by omega))
            by_cases h0 : z ≤ 0
            · go_wp2_with fail
              have d1 : decide ((yn : Int) < 0) = false := decide_eq_false (by omega)
              have d2 : decide (N ≤ (yn : Int)) = false := decide_eq_false (by omega)
              have d3 : decide ((0 : Int) < z) = false := decide_eq_false (by omega)
              go_big_quiet (fail)
              have hBW := Lib.hid (rowB_set (w := wr.drewN nq) HBI.out yn true)
              have hKW := Lib.hid (HKW.out.onl (((Only.refl [bi] wr).drewN nq).setCell (p := ⟨bi, yn, none⟩) (fun _ => by simp) (.bool true)) (by simp; omega))
              go_wp2_with fail
              go_roundw
              case rel => exact ⟨z + 1, I.set yn true, rfl, by omega, by omega, by simp [hI], HF.out, hBW.out, hKW.out⟩
              case measure => simp [intOf]; omega
            · obtain ⟨k1, hkk⟩ : ∃ k1 : Nat, z - 1 = k1 := ⟨(z - 1).toNat, by omega⟩
              have hkz : z.toNat = k1 + 1 := by omega
              obtain ⟨p, hp⟩ : ∃ p, R[k1]? = some p := ⟨_, List.getElem?_eq_getElem (by omega)⟩
              have hpy := srt_at HSr0.out k1 p yn hp (by rw [← hkz]; exact HY.out)
              have hpg : R.getD k1 0 = p := by rw [List.getD_eq_getElem?_getD, hp]; rfl
              obtain ⟨br', or2, v, hbr, hv2, hvv⟩ := (HKW.out.sl HSr.out).at k1 (by omega)
              injection hbr with hbr
              injection hbr with e1 e2
              subst e1 e2
              obtain rfl : v = p := by rw [← hpg]; exact hvv.out
              have HKK := Lib.hid hkk
              have hk2 : k1 < rk := by omega
              clear hvv hpg hp hkk hkz
              go_wp2_with fail
              have d1 : decide ((yn : Int) < 0) = false := decide_eq_false (by omega)
              have d2 : decide (N ≤ (yn : Int)) = false := decide_eq_false (by omega)
              have d3 : decide ((0 : Int) < z) = true := decide_eq_true (by omega)
              have hk1 : z - 1 = k1 := HKK.out
              have d4 : decide ((yn : Int) ≤ v) = false := decide_eq_false (by omega)
              clear h0
              go_big_quiet (fail)
              have hBW := Lib.hid (rowB_set (w := wr.drewN nq) HBI.out yn true)
              have hKW := Lib.hid (HKW.out.onl (((Only.refl [bi] wr).drewN nq).setCell (p := ⟨bi, yn, none⟩) (fun _ => by simp) (.bool true)) (by simp; omega))
              go_wp2_with fail
              go_roundw
              case rel => exact ⟨z + 1, I.set yn true, rfl, by omega, by omega, by simp [hI], HF.out, hBW.out, hKW.out⟩
              case measure => simp [intOf]; omega
          · have HIall : Hid (∀ b, Way E x1 b → I[b.toNat]? = some true) := fun b hb => HI.out b (by rw [List.take_of_length_le (by omega)]; exact (HMr.out b).2 hb)
            have c1 := at_cell (HKW.out.only.heap HB3.out (by simp)) 1 (.slice s m c) rfl
            have HW0 := Lib.hid (HK3.out.trans HKW.out)
            have HBh := Lib.hid (g_behind N x1 (HE.out.kept HW0.out) (by omega))
            have hNc : N < 17 := by omega
            clear HIn HBBA HSA HKA HBA HA0 
            go_wp2_with fail
            refine HBh.out.mono ?_
            rintro E4 V4 ⟨ba, bk, bc, rfl, hSb, hK4, hbm, hbn⟩
            have HSb := Lib.hid hSb
            have HK4 := Lib.hid (HKW.out.trans hK4)
            have HBI4 := Lib.hid (hK4.only.heap HBI.out (by simp))
            have hbl := hSb.1
            have hbc := hSb.2.1
            clear hSb hK4 hbn HBh HBI HKW c0 c1
            go_wp2_with fail
            go_loopw [9] (fun v wr => ∃ (z : Int), v = .int .i64 z ∧ 0 ≤ z ∧ z ≤ bk ∧ Hid (Dr V4 wr)) (fun v _ => bk - (intOf v).toNat)
            case atStart => exact ⟨0, rfl, by omega, by omega, Dr.refl _⟩
            case round =>
              obtain ⟨z, rfl, hz0, hz1, HDr⟩ := hrel
              have K5 : Kept V4 wr := (Kept.refl _).dr HDr.out
              have c0 := at_cell ((HK4.out.trans K5).only.heap HB3.out (by simp)) 0 (.int .i64 N) rfl
              have c1 := at_cell ((HK4.out.trans K5).only.heap HB3.out (by simp)) 1 (.slice s m c) rfl
              by_cases hlt : z < bk
              · obtain ⟨y, hy⟩ : ∃ y, (besL N E x1 0)[z.toNat]? = some y := ⟨_, List.getElem?_eq_getElem (by omega)⟩
                have hway : Way E x1 y := .one ((mem_beh HG.out x1 y).1 (List.mem_of_getElem? hy))
                have hym := hway.in HG.out
                have hyI := HIall.out y hway
                have hyg : (besL N E x1 0).getD z.toNat 0 = y := by rw [List.getD_eq_getElem?_getD, hy]; rfl
                obtain ⟨yn, hyn⟩ : ∃ yn : Nat, y = yn := ⟨y.toNat, by omega⟩
                subst hyn
                obtain ⟨br, or', v, rfl, hv, hvv⟩ := (K5.sl HSb.out).at z.toNat (by omega)
                obtain rfl : v = (yn : Int) := by rw [← hyg]; exact hvv.out
                have hcl := rowB_at (K5.only.heap HBI4.out (by simp)) yn true (by simpa using hyI)
                clear hvv hyg hy hway hyI K5
                go_wp2_with fail
                have d1 : decide ((yn : Int) < 0) = false := decide_eq_false (by omega)
                have d2 : decide (N ≤ (yn : Int)) = false := decide_eq_false (by omega)
                go_big_quiet (fail)
                go_wp2_with fail
                go_roundw
                case rel => exact ⟨z + 1, rfl, by omega, by omega, HDr.out.trans ((Dr.refl _).drewN _)⟩
                case measure => simp [intOf]; omega
              · have HK5 := Lib.hid (HK4.out.trans K5)
                have HBI5 := Lib.hid (K5.only.heap HBI4.out (by simp))
                clear K5 HDr c0 c1 HSb HBI4 HK4
                go_wp2_with fail
                go_loopw [10] (fun v wr => ∃ (z : Int), v = .int .i64 z ∧ 0 ≤ z ∧ z ≤ rk ∧ Hid (Kept V3 wr) ∧ Hid (wr.heap[bi]? = some (rowB I))) (fun v _ => rk - (intOf v).toNat)
                case atStart => exact ⟨0, rfl, by omega, by omega, HK5.out, HBI5.out⟩
                case round =>
                  obtain ⟨z, rfl, hz0, hz1, HK6, HB6⟩ := hrel
                  by_cases hlt : z < rk
                  · obtain ⟨y, hy⟩ : ∃ y, R[z.toNat]? = some y := ⟨_, List.getElem?_eq_getElem (by omega)⟩
                    have HWy := Lib.hid ((HMr.out y).1 (List.mem_of_getElem? hy))
                    have HMt := Lib.hid (fun b => mem_reachL HG.out (decide_eq_true (HWy.out.in HG.out) : inG N y = true) b)
                    have hyg : R.getD z.toNat 0 = y := by rw [List.getD_eq_getElem?_getD, hy]; rfl
                    have HS : Hid (∀ Z, Kept wr Z → ∃ br or', ra = some ⟨br, or', none⟩ ∧ Z.cell? ⟨bx, 0, none⟩ = some (.int .i64 N) ∧ Z.cell? ⟨bx, 1, none⟩ = some (.slice s m c) ∧ Z.cell? ⟨br, or' + z.toNat, none⟩ = some (.int .i64 y)) := fun Z hZ => by
                      have K7 := HK6.out.trans hZ
                      obtain ⟨br, or', v, e, hv, hvv⟩ := (K7.sl HSr.out).at z.toNat (by omega)
                      refine ⟨br, or', e, at_cell (K7.only.heap HB3.out (by simp)) 0 (.int .i64 N) rfl, at_cell (K7.only.heap HB3.out (by simp)) 1 (.slice s m c) rfl, ?_⟩
                      rw [hv, hvv.out, hyg]
                    have KD : Kept wr wr.drew := (Kept.refl _).dr ⟨1, rfl⟩
                    obtain ⟨br, or', rfl, -⟩ := HS.out wr (Kept.refl _)
                    replace HS : Hid (∀ Z, Kept wr Z → Z.cell? ⟨bx, 0, none⟩ = some (.int .i64 N) ∧ Z.cell? ⟨bx, 1, none⟩ = some (.slice s m c) ∧ Z.cell? ⟨br, or' + z.toNat, none⟩ = some (.int .i64 y)) := fun Z hZ => by
                      obtain ⟨b2, o2, e, h⟩ := HS.out Z hZ
                      injection e with e
                      injection e with e1 e2
                      subst e1 e2
                      exact h
                    have HRt := Lib.hid (g_reach N y (HE.out.kept ((HK3.out.trans HK6.out).trans KD)) (by omega))
                    clear hyg hy KD
                    go_upto_region 22 with fail
                    have KD : Kept wr wr.drew := (Kept.refl _).dr ⟨1, rfl⟩
                    first | (go_region_held3 (fun Z => Z.cell? ⟨bx, 0, none⟩ = some (.int .i64 N) ∧ Z.cell? ⟨bx, 1, none⟩ = some (.slice s m c) ∧ Z.cell? ⟨br, or' + z.toNat, none⟩ = some (.int .i64 y)) (exact HS.out _ KD) ((go_at_call 13; refine HRt.out.mono ?_; rintro E5 V6 ⟨ta, tk, tc, rfl, hSt, J, htk, htn⟩; have HSt := Lib.hid hSt; clear hSt htn; replace KD := KD.trans J; clear J))) | fail
                    rename_i hHeld
                    clear hHeld HS HRt
                    have HK7 := Lib.hid (HK6.out.trans KD)
                    have HB7 := Lib.hid (KD.only.heap HB6.out (by simp))
                    have htl := HSt.out.1
                    have htc := HSt.out.2.1
                    clear KD HB6 HK6
                    go_wp2_with fail
                    go_loopw [12] (fun v wr => ∃ (q : Int), v = .int .i64 q ∧ 0 ≤ q ∧ q ≤ tk ∧ Hid (Dr V6 wr)) (fun v _ => tk - (intOf v).toNat)
                    case atStart => exact ⟨0, rfl, by omega, by omega, Dr.refl _⟩
                    case round =>
                      obtain ⟨q, rfl, hq0, hq1, HDr⟩ := hrel
                      have K8 : Kept V6 wr := (Kept.refl _).dr HDr.out
                      have c0 := at_cell ((HK7.out.trans K8).only.heap HB3.out (by simp)) 0 (.int .i64 N) rfl
                      have c1 := at_cell ((HK7.out.trans K8).only.heap HB3.out (by simp)) 1 (.slice s m c) rfl
                      by_cases hlq : q < tk
                      · obtain ⟨b, hb⟩ : ∃ b, (reachL N E y)[q.toNat]? = some b := ⟨_, List.getElem?_eq_getElem (by omega)⟩
                        have hway : Way E x1 b := HWy.out.trans ((HMt.out b).1 (List.mem_of_getElem? hb))
                        have hym := hway.in HG.out
                        have hyI := HIall.out b hway
                        have hyg : (reachL N E y).getD q.toNat 0 = b := by rw [List.getD_eq_getElem?_getD, hb]; rfl
                        obtain ⟨yn, hyn⟩ : ∃ yn : Nat, b = yn := ⟨b.toNat, by omega⟩
                        subst hyn
                        obtain ⟨b3, o3, v, rfl, hv, hvv⟩ := (K8.sl HSt.out).at q.toNat (by omega)
                        obtain rfl : v = (yn : Int) := by rw [← hyg]; exact hvv.out
                        have hcl := rowB_at (K8.only.heap HB7.out (by simp)) yn true (by simpa using hyI)
                        clear hvv hyg hb hway hyI K8
                        go_wp2_with fail
                        have d1 : decide ((yn : Int) < 0) = false := decide_eq_false (by omega)
                        have d2 : decide (N ≤ (yn : Int)) = false := decide_eq_false (by omega)
                        go_big_quiet (fail)
                        go_wp2_with fail
                        go_roundw
                        case rel => exact ⟨q + 1, rfl, by omega, by omega, HDr.out.trans ((Dr.refl _).drewN _)⟩
                        case measure => simp [intOf]; omega
                      · have HK9 := Lib.hid (HK7.out.trans K8)
                        have HB9 := Lib.hid (K8.only.heap HB7.out (by simp))
                        clear K8 HDr c0 c1
                        go_wp2_with fail
                        go_roundw
                        case rel => exact ⟨z + 1, rfl, by omega, by omega, HK9.out, HB9.out⟩
                        case measure => simp [intOf]; omega
                  · have HW6 := Lib.hid (HK3.out.trans HK6.out)
                    go_wp2_with fail
                    go_ret
                    exact ⟨rfl, hbx ▸ (HW6.out : Below w.heap.size w wr)⟩
      · by_cases h0 : x1 < 0
        · go_wp2_with fail
          go_ret
          exact ⟨rfl, HK2.out⟩
        · have h1 : N ≤ x1 := by omega
          go_wp2_with fail
          go_ret
          exact ⟨rfl, HK2.out⟩
  · have g1 : (60 : Int) < m := by omega
    go_wp2_with fail
    go_ret
    exact ⟨rfl, HK1.out⟩
end Go.Proofs.Ytboohafebkkdbaa
