/- The wheel: each that was set comes once. -/
import Derived.Test.YtneehfngphpccaaWhOnceM
set_option linter.unusedVariables false
set_option linter.unusedSimpArgs false
namespace Go.Proofs.Ytneehfngphpccaa
open Go.RowKit
set_option maxRecDepth 100000 in
set_option maxHeartbeats 16000000 in
theorem wheelOnce_law (v0 v1 : Value) (x0 : (Ty.sl TyDue).den) (x1 : (Ty.sl (.int .i64)).den) (w : World) (w0 : RepV w (.sl TyDue) v0 x0) (w1 : RepV w (.sl (.int .i64)) v1 x1) :
    Calls Try.prog 3 #[v0, v1] w fun e w' => e = .returned (.bool true) ∧ Below w.heap.size w w' := by
  obtain ⟨s, n, c, A, rfl, hA, hAb⟩ := repV_dues w0
  obtain ⟨b, m, d, T, rfl, hB, hBb⟩ := repV_ints w1
  have hna := hA.1
  have hnc := hA.2.1
  have hlb := hB.1
  have hmd := hB.2.1
  have HA := Lib.hid hA
  have HB := Lib.hid hB
  have HBb := Lib.hid hBb
  have HAb := Lib.hid hAb
  have HAw := Lib.hid (awake14 w)
  clear w0 w1 hA hB hBb hAb
  by_cases hn : n ≤ 30
  · by_cases hm : m ≤ 30
    · have g1 : ¬ (30 : Int) < n := by omega
      have g2 : ¬ (30 : Int) < m := by omega
      have HN := run_neqK
      have HE := run_eqDu
      go_enter Try.func3, Try.ntmps3
      go_wp2_with fail
      refine HAw.out.mono ?_
      rintro E V0 ⟨rfl, K0⟩
      have HA0 := Lib.hid (HA.out.kept K0)
      have HB0 := Lib.hid (K0.sl HB.out)
      have HK0 := Lib.hid K0
      clear K0 HAw HA HB
      go_wp2_with fail
      refine (ws_new V0).mono ?_
      rintro E Y ⟨p, q, rfl, hW⟩
      have hpq := hW.wh.lt
      have HW0 := Lib.hid hW
      clear hW
      go_wp2_with fail
      go_loopw [6, 7] (fun v i wr => ∃ (j r : Nat) (Wt L : List Du) (a' : Option Addr) (c' : Nat) (g : Option Nat), v = .slice a' r c' ∧ i = .int .i64 (j : Nat) ∧ j ≤ n ∧ Wt.length = r ∧ Hid (WS V0 wr p q 0 L) ∧ Hid (App wr 32 3 (.slice a' r c') r g (duVs Wt)) ∧ Hid (Wt.Perm L) ∧ r ≤ j ∧ Hid (∀ k ∈ g.toList, Y.heap.size ≤ k) ∧ Y.heap.size ≤ wr.heap.size ∧ Hid (∀ x ∈ L, 0 < x.2.2 ∧ x.2.2 ≤ 1099511627776)) (fun _ i _ => n - (intOf i).toNat)
      case atStart => exact ⟨0, 0, [], [], none, 0, none, rfl, rfl, by omega, rfl, HW0.out, app_nil _ _ _, List.Perm.refl _, by omega, (by intro k hk; simp at hk), Nat.le_refl _, (by intro x hx; cases hx)⟩
      case round =>
        obtain ⟨j, r, Wt, L, a', c', g, rfl, rfl, hj, hr, HW, HAp, HP, hrj, HG, hsz, HL⟩ := hrel
        by_cases hlt : j < n
        · have hlt' : (j : Int) < n := by omega
          obtain ⟨⟨xa, xb, xc⟩, hx⟩ : ∃ x, A[j]? = some x := ⟨_, List.getElem?_eq_getElem (by omega)⟩
          have hSr : SlD wr s n c A := HA0.out.kept HW.out.kept
          obtain ⟨bb, o, rfl, q0, q1, q2⟩ := hSr.at hx
          dsimp only at q0 q1 q2
          have hbb : bb < V0.heap.size := by
            obtain ⟨b', o', e1, e2, _⟩ := HA0.out.2.2.2 (by omega)
            injection e1 with e1
            injection e1 with e1
            omega
          have hpV := HW.out.hp
          have hqV := HW.out.hq
          have HS : Hid (∀ Z, Only [p, q] wr Z → Z.cell? ⟨bb, o + j * 3, none⟩ = some (.int .i64 xa) ∧ Z.cell? ⟨bb, o + j * 3 + 1, none⟩ = some (.int .i64 xb) ∧ Z.cell? ⟨bb, o + j * 3 + 2, none⟩ = some (.int .i64 xc)) := fun Z O => by
            have hVw := HW.out.kept.size
            have hn1 : bb ∉ [p, q] := by simp; omega
            exact ⟨(O.cell (p := ⟨bb, _, none⟩) (by show bb < _; omega) hn1).trans q0, (O.cell (p := ⟨bb, _, none⟩) (by show bb < _; omega) hn1).trans q1, (O.cell (p := ⟨bb, _, none⟩) (by show bb < _; omega) hn1).trans q2⟩
          clear hSr hx
          by_cases hset : 1099511627776 < xc ∨ xc ≤ 0
          · have HCs := Lib.hid (ws_set_no (HW.out.keep ((Kept.refl wr).dr ⟨1, rfl⟩ : Kept wr wr.drew)) xa xb xc (by omega))
            clear hset
            go_upto_region 10 with fail
            have KD : Only [p, q] wr wr.drew := (Only.refl _ _).drew
            clear q0 q1 q2
            first | (go_region_held3 (fun Z => Z.cell? ⟨bb, o + j * 3, none⟩ = some (.int .i64 xa) ∧ Z.cell? ⟨bb, o + j * 3 + 1, none⟩ = some (.int .i64 xb) ∧ Z.cell? ⟨bb, o + j * 3 + 2, none⟩ = some (.int .i64 xc)) (exact HS.out _ KD) ((go_at_call 8; refine HCs.out.mono ?_; rintro E V ⟨rfl, hWV, J⟩; have HWV := Lib.hid hWV; clear hWV; replace KD := KD.trans J; clear J))) | fail
            have hA2 := Lib.hid (KD.app HAp.out (by intro k hk hm; have := HG.out k (by rw [hk]; simp); simp at hm; omega))
            have hz := KD.size
            go_wp2_with fail
            go_roundw
            case rel => exact ⟨j + 1, r, Wt, L, a', c', g, rfl, by go_num, by omega, hr, HWV, hA2, HP, by omega, HG, by omega, HL⟩
            case measure => simp [intOf]; omega
          · have HCs := Lib.hid (ws_set (HW.out.keep ((Kept.refl wr).dr ⟨1, rfl⟩ : Kept wr wr.drew)) xa xb xc (by omega) (by omega))
            have hxc : 0 < xc ∧ xc ≤ 1099511627776 := by omega
            clear hset
            go_upto_region 10 with fail
            have KD : Only [p, q] wr wr.drew := (Only.refl _ _).drew
            clear q0 q1 q2
            first | (go_region_held3 (fun Z => Z.cell? ⟨bb, o + j * 3, none⟩ = some (.int .i64 xa) ∧ Z.cell? ⟨bb, o + j * 3 + 1, none⟩ = some (.int .i64 xb) ∧ Z.cell? ⟨bb, o + j * 3 + 2, none⟩ = some (.int .i64 xc)) (exact HS.out _ KD) ((go_at_call 8; refine HCs.out.mono ?_; rintro E V ⟨rfl, hWV, J⟩; have HWV := Lib.hid hWV; clear hWV; replace KD := KD.trans J; clear J))) | fail
            have hA2 := Lib.hid (KD.app HAp.out (by intro k hk hm; have := HG.out k (by rw [hk]; simp); simp at hm; omega))
            have hz := KD.size
            have hok := HW.out.wh.ok
            have HStep := Lib.hid (want_step xa xb xc HP.out hok.1 hok.2)
            have HL2 : Hid (∀ x ∈ insD (xa, xb, xc) (dropD xa xb L), 0 < x.2.2 ∧ x.2.2 ≤ 1099511627776) := fun x hx => by
              rcases (mem_insD _ _ _).1 hx with rfl | hx
              · exact hxc
              · exact HL.out x ((dropD_sub xa xb L).subset hx)
            have HSP := Lib.hid (HS.out V KD)
            rename_i hHeld
            clear hHeld hok
            have HSw := Lib.hid (slD_app hA2.out)
            go_wp2_with fail
            go_loopw [8, 9] (fun v2 i2 wr2 => ∃ (k r2 : Nat) (a2 : Option Addr) (c2 : Nat) (g2 : Option Nat), v2 = .slice a2 r2 c2 ∧ i2 = .int .i64 (k : Nat) ∧ k ≤ r ∧ r2 ≤ k ∧ Hid (((Wt.take k).filter (offK xa xb)).length = r2) ∧ Hid (App wr2 32 3 (.slice a2 r2 c2) r2 g2 (duVs ((Wt.take k).filter (offK xa xb)))) ∧ Hid (∀ i ∈ g2.toList, V.heap.size ≤ i) ∧ Hid (Kept V wr2)) (fun _ i _ => r - (intOf i).toNat)
            case atStart => exact ⟨0, 0, none, 0, none, rfl, rfl, by omega, by omega, by simp [Hid], app_nil _ _ _, (by intro k hk; simp at hk), Kept.refl _⟩
            case round =>
              obtain ⟨k, r2, a2, c2, g2, rfl, rfl, hk, hrk, HLn, HA2, HG2, HK2⟩ := hrel
              obtain ⟨s0, s1, s2⟩ := HSP.out
              replace s0 := HK2.out.cel s0
              replace s1 := HK2.out.cel s1
              replace s2 := HK2.out.cel s2
              by_cases hkr : k < r
              · have hkr' : (k : Int) < r := by omega
                obtain ⟨⟨ya, yb, yc⟩, hy⟩ : ∃ x, Wt[k]? = some x := ⟨_, List.getElem?_eq_getElem (by omega)⟩
                have hSw := HSw.out.kept HK2.out
                have hrc := hSw.2.1
                obtain ⟨bw, ow, rfl, t0, t1, t2⟩ := hSw.at hy
                dsimp only at t0 t1 t2
                cases hke : keyEq ya yb xa xb with
                | true =>
                  have HF : Hid ((Wt.take (k + 1)).filter (offK xa xb) = (Wt.take k).filter (offK xa xb)) := by
                    unfold Hid
                    rw [List.take_add_one, hy, List.filter_append]
                    have : offK xa xb (ya, yb, yc) = false := by unfold keyEq at hke; unfold offK; simp at hke ⊢; exact hke
                    simp [this]
                  clear hSw hy
                  go_upto_region 15 with fail
                  go_quiet (fail)
                  generalize hwq : World.drewN wr _ = wq
                  have KQ : Kept wr wq := by rw [← hwq]; exact (Kept.refl _).dr ((Dr.refl _).drewN _)
                  clear hwq
                  have hA3 := Lib.hid (KQ.only.app HA2.out (by simp))
                  have hK3 := Lib.hid (HK2.out.trans KQ)
                  go_wp2_with fail
                  go_roundw
                  case rel => exact ⟨k + 1, r2, a2, c2, g2, rfl, by go_num, by omega, by omega, by rw [HF.out]; exact HLn, by rw [HF.out]; exact hA3, HG2, hK3⟩
                  case measure => simp [intOf]; omega
                | false =>
                  have HF : Hid ((Wt.take (k + 1)).filter (offK xa xb) = (Wt.take k).filter (offK xa xb) ++ [(ya, yb, yc)]) := by
                    unfold Hid
                    rw [List.take_add_one, hy, List.filter_append]
                    have : offK xa xb (ya, yb, yc) = true := by unfold keyEq at hke; show (!decide (ya = xa ∧ yb = xb)) = true; rw [hke]; rfl
                    simp [this]
                  clear hSw hy
                  go_upto_region 15 with fail
                  go_quiet (fail)
                  generalize hwq : World.drewN wr _ = wq
                  have KQ : Kept wr wq := by rw [← hwq]; exact (Kept.refl _).dr ((Dr.refl _).drewN _)
                  replace t0 := KQ.cel t0
                  replace t1 := KQ.cel t1
                  replace t2 := KQ.cel t2
                  clear hwq s0 s1 s2
                  have KA := KQ.trans (kept_al wq (.cells #[.int .i64 ya, .int .i64 yb, .int .i64 yc] 32))
                  have hA3 := Lib.hid (KA.only.app HA2.out (by simp))
                  have hK3 := Lib.hid (HK2.out.trans KA)
                  have HSrc := Lib.hid (src_block (P := Try.prog) (size := 3) Try.underlying22 (heap_alloc_new wq (.cells #[.int .i64 ya, .int .i64 yb, .int .i64 yc] 32)) 1 1 rfl (by simp [Value.oneCell']))
                  have hVz := hK3.out.size
                  clear KA KQ
                  go_wp2_with (at_builtin; refine wpList_app rfl (.tmp 66) (.tmp 71) 22 22 rfl elemW _ r2 _ _ rfl hA3.out _ 1 _ rfl HSrc.out (by omega) (by unfold maxLen; omega) ?_; intro a5 c5 g5 w5 hA5 hO5 hG5; have HA5 := Lib.hid hA5; have HO5 := Lib.hid hO5; have HG5 := Lib.hid hG5; clear hA5 hO5 hG5)
                  have hg1 : ∀ i ∈ g5.toList, V.heap.size ≤ i := by
                    intro i hi
                    rcases HG5.out with h | h
                    · rw [h] at hi; exact HG2.out i hi
                    · rw [h] at hi; simp at hi hVz; omega
                  have hK5 : Kept V w5 := hK3.out.onl HO5.out HG2.out
                  go_roundw
                  case rel => exact ⟨k + 1, r2 + 1, a5, c5, g5, rfl, by go_num, by omega, by omega, (by rw [HF.out]; unfold Hid; rw [List.length_append, HLn.out]; rfl), (by rw [HF.out, duVs_app]; exact HA5.out), hg1, hK5⟩
                  case measure => simp [intOf]; omega
              · have hge : (r : Int) ≤ k := by omega
                obtain rfl : k = r := by omega
                have hWl : Wt.take k = Wt := List.take_of_length_le (by omega)
                rw [hWl] at HA2 HLn
                have KA := kept_al wr (.cells #[.int .i64 xa, .int .i64 xb, .int .i64 xc] 32)
                have hA3 := Lib.hid (KA.only.app HA2.out (by simp))
                have hK3 := Lib.hid (HK2.out.trans KA)
                have HSrc := Lib.hid (src_block (P := Try.prog) (size := 3) Try.underlying22 (heap_alloc_new wr (.cells #[.int .i64 xa, .int .i64 xb, .int .i64 xc] 32)) 1 1 rfl (by simp [Value.oneCell']))
                have hVz := hK3.out.size
                clear KA
                go_wp2_with (at_builtin; refine wpList_app rfl (.tmp 73) (.tmp 78) 22 22 rfl elemW _ r2 _ _ rfl hA3.out _ 1 _ rfl HSrc.out (by omega) (by unfold maxLen; omega) ?_; intro a5 c5 g5 w5 hA5 hO5 hG5; have HA5 := Lib.hid hA5; have HO5 := Lib.hid hO5; have HG5 := Lib.hid hG5; clear hA5 hO5 hG5)
                have hg1 : ∀ i ∈ g5.toList, Y.heap.size ≤ i := by
                  intro i hi
                  rcases HG5.out with h | h
                  · rw [h] at hi; have := HG2.out i hi; omega
                  · rw [h] at hi; simp at hi hVz; omega
                have hK5 : Kept V w5 := hK3.out.onl HO5.out HG2.out
                have hz5 := hK5.size
                go_roundw
                case rel => exact ⟨j + 1, r2 + 1, Wt.filter (offK xa xb) ++ [(xa, xb, xc)], insD (xa, xb, xc) (dropD xa xb L), a5, c5, g5, rfl, by go_num, by omega, (by rw [List.length_append, HLn.out]; rfl), HWV.out.keep hK5, (by rw [duVs_app]; exact HA5.out), HStep, by omega, hg1, by omega, HL2⟩
                case measure => simp [intOf]; omega
        · have hge : (n : Int) ≤ j := by omega
          have hWoff : inB a' [p, q] := fun y hy hm => by
            subst hy
            have := HG.out y.block (by rw [app_blk HAp.out]; simp)
            simp at hm
            omega
          have HSW0 := Lib.hid (slD_app HAp.out)
          have HOff := Lib.hid hWoff
          have hrc := HSW0.out.2.1
          have hrl : L.length = r := by have := HP.out.length_eq; omega
          have hok0 : Hid (∀ x ∈ L, x ∈ Wt ∧ 0 < x.2.2 ∧ x.2.2 ≤ 1099511627776) := fun x hx => ⟨HP.out.mem_iff.2 hx, HL.out x hx⟩
          have HW1 := HW
          clear hWoff HP HL HAp HG HW
          go_wp2_with fail
          go_loopw [10, 11, 12] (fun v10 v11 v12 wr3 => ∃ (i cm : Nat) (nw : Int) (Lc : List Du), v10 = .int .i64 nw ∧ v11 = .int .i64 (cm : Nat) ∧ v12 = .int .i64 (i : Nat) ∧ i ≤ m + 1 ∧ cm + Lc.length = r ∧ 0 ≤ nw ∧ nw ≤ 1099511627776 ∧ Hid (WS V0 wr3 p q nw Lc) ∧ Hid (SlD wr3 a' r c' Wt) ∧ Hid (∀ x ∈ Lc, x ∈ Wt ∧ nw < x.2.2 ∧ x.2.2 ≤ 1099511627776) ∧ (i = m + 1 → Lc = [])) (fun _ _ i _ => m + 1 - (intOf i).toNat)
          case atStart => exact ⟨0, 0, 0, L, rfl, rfl, rfl, by omega, by omega, by omega, by omega, HW1.out, HSW0.out, hok0.out, by omega⟩
          case round =>
            obtain ⟨i, cm, nw, Lc, rfl, rfl, rfl, hi, hcm, hn0, hn1, HW3, HSW, HLc, hend⟩ := hrel
            by_cases hlt : i ≤ m
            · have hlt' : (i : Int) ≤ m := by omega
              have hLl : Lc.length ≤ 1000 := by omega
              go_upto_if 89 with fail
              go_cut [13] from 90 to 173 (fun v wx => ∃ T : Int, v = .int .i64 T ∧ nw ≤ T ∧ (i = m → T = 1099511627776) ∧ wr = wx)
              case first =>
                by_cases him : i < m
                · have him' : (i : Int) < m := by omega
                  have hBr := HW3.out.kept.sl HB0.out
                  obtain ⟨b1, o1, z, rfl, hz, hzz⟩ := hBr.at i him
                  have hzb : -9223372036854775808 ≤ z ∧ z ≤ 9223372036854775807 := by
                    have hlb' := hlb
                    refine HBb.out z ?_
                    rw [hzz.out, List.getD_eq_getElem?_getD, List.getElem?_eq_getElem (by omega)]
                    exact List.getElem_mem _
                  have hand := and_16 z hzb.1 hzb.2
                  have hz0 : 0 ≤ z % 65536 ∧ z % 65536 < 65536 := by omega
                  clear hzz hBr hzb
                  go_wp2_with fail
                  go_meet
                  case rel => exact ⟨nw + z % 65536, rfl, by omega, by omega, rfl⟩
                · go_wp2_with fail
                  go_meet
                  case rel => exact ⟨1099511627776, rfl, by omega, fun _ => rfl, rfl⟩
              case rest =>
                obtain ⟨t, rfl, hTn, hTe, rfl⟩ := hcut
                by_cases hbig : 1099511627776 < t
                · have HKF := Lib.hid (HK0.out.trans HW3.out.kept)
                  go_wp2_with fail
                  go_ret
                  exact ⟨rfl, HKF.out⟩
                · have HT := Lib.hid (ws_to HW3.out hLl t (by omega) (by omega))
                  have hok := HW3.out.wh.ok
                  have HSrt := Lib.hid hok.1
                  clear hok
                  go_wp2_with fail
                  refine HT.out.mono ?_
                  rintro E W3 ⟨sd, cd, rfl, hSD, hW3, hO3, hI3⟩
                  have HSD := Lib.hid hSD
                  have HW4 := Lib.hid hW3
                  have HSW4 := Lib.hid (HSW.out.only hO3 (fun _ => HOff.out))
                  have hKL := dueK_le t Lc
                  have hcd := hSD.2.1
                  have HD1 : Hid (∀ k y, (Lc.take (dueK t Lc))[k]? = some y → y ∈ Wt ∧ nw < y.2.2 ∧ y.2.2 ≤ t) := fun k y hy => by
                    have h1 := take_le t Lc HSrt.out k y hy
                    have h2 := HLc.out y (List.mem_of_getElem? h1.2)
                    exact ⟨h2.1, h2.2.1, h1.1⟩
                  have HD2 : Hid (∀ k x y, (Lc.take (dueK t Lc))[k]? = some x → (Lc.take (dueK t Lc))[k + 1]? = some y → x.2.2 ≤ y.2.2) := fun k x y hx hy => ord_at Lc HSrt.out k x y (take_le t Lc HSrt.out k x hx).2 (take_le t Lc HSrt.out (k + 1) y hy).2
                  have HL4 : Hid (∀ x ∈ Lc.drop (dueK t Lc), x ∈ Wt ∧ t < x.2.2 ∧ x.2.2 ≤ 1099511627776) := fun x hx => by
                    have h1 := drop_gt t Lc HSrt.out x hx
                    have h2 := HLc.out x (List.mem_of_mem_drop hx)
                    exact ⟨h2.1, h1, h2.2.2⟩
                  have HE4 : Hid (i = m → Lc.drop (dueK t Lc) = []) := fun h => by
                    have := hTe h
                    refine List.eq_nil_iff_forall_not_mem.2 fun x hx => ?_
                    have := HL4.out x hx
                    omega
                  have hDl : (Lc.take (dueK t Lc)).length = dueK t Lc := by rw [List.length_take]; omega
                  have hDd : (Lc.drop (dueK t Lc)).length = Lc.length - dueK t Lc := List.length_drop
                  clear hSD hW3 hO3 hI3 HT HSrt
                  generalize dueK t Lc = K at *
                  generalize List.take K Lc = D at *
                  generalize List.drop K Lc = L4 at *
                  go_wp2_with fail
                  go_loopw [16] (fun kk wr4 => ∃ z : Int, kk = .int .i64 z ∧ 0 ≤ z ∧ z ≤ K ∧ Hid (Dr W3 wr4)) (fun kk _ => K - (intOf kk).toNat)
                  case atStart => exact ⟨0, rfl, by omega, by omega, Dr.refl _⟩
                  case round =>
                    obtain ⟨z, rfl, hz0, hk, HDr⟩ := hrel
                    have K4 : Kept W3 wr := (Kept.refl _).dr HDr.out
                    by_cases hkK : z < (K : Int)
                    · obtain ⟨⟨ya, yb, yc⟩, hy⟩ : ∃ x, D[z.toNat]? = some x := ⟨_, List.getElem?_eq_getElem (by omega)⟩
                      have HY := Lib.hid hy
                      have hyd := HD1.out z.toNat _ hy
                      dsimp only at hyd
                      obtain ⟨bd, od, rfl, y0, y1, y2⟩ := HSD.out.at hy
                      dsimp only at y0 y1 y2
                      have HYc : Hid (W3.cell? ⟨bd, od + z.toNat * 3, none⟩ = some (.int .i64 ya) ∧ W3.cell? ⟨bd, od + z.toNat * 3 + 1, none⟩ = some (.int .i64 yb) ∧ W3.cell? ⟨bd, od + z.toNat * 3 + 2, none⟩ = some (.int .i64 yc)) := ⟨y0, y1, y2⟩
                      have HMem := Lib.hid hyd.1
                      have hyd1 := hyd.2.1
                      have hyd2 := hyd.2.2
                      clear hy y0 y1 y2 hyd K4
                      go_wp2_with fail
                      go_loopw [17, 18] (fun th qq wr5 => ∃ (q5 : Nat) (tb : Bool), th = .bool tb ∧ qq = .int .i64 (q5 : Nat) ∧ q5 ≤ r ∧ Hid (tb = (Wt.take q5).contains (ya, yb, yc)) ∧ Hid (Dr W3 wr5)) (fun _ qq _ => r - (intOf qq).toNat)
                      case atStart => exact ⟨0, false, rfl, rfl, by omega, by simp [Hid], HDr⟩
                      case round =>
                        obtain ⟨q5, tb, rfl, rfl, hq5, HTb, HDr5⟩ := hrel
                        have K5 : Kept W3 wr := (Kept.refl _).dr HDr5.out
                        obtain ⟨y0, y1, y2⟩ := HYc.out
                        replace y0 := K5.cel y0
                        replace y1 := K5.cel y1
                        replace y2 := K5.cel y2
                        by_cases hqr : q5 < r
                        · have hqr' : (q5 : Int) < r := by omega
                          obtain ⟨⟨za, zb, zc⟩, hz⟩ : ∃ x, Wt[q5]? = some x := ⟨_, List.getElem?_eq_getElem (by omega)⟩
                          obtain ⟨bw, ow, haw, z0, z1, z2⟩ := (HSW4.out.kept K5).at hz
                          subst haw
                          dsimp only at z0 z1 z2
                          cases tb with
                          | true =>
                            have HN5 : Hid (true = (Wt.take (q5 + 1)).contains (ya, yb, yc)) := by
                              unfold Hid
                              have := HTb.out
                              rw [List.take_add_one, hz]
                              simp only [List.contains_eq_mem, decide_eq_true_eq, eq_comm (a := true), List.mem_append] at this ⊢
                              exact .inl this
                            clear hz HTb
                            go_wp2_with fail
                            go_quiet (fail)
                            go_wp2_with fail
                            go_roundw
                            case rel => exact ⟨q5 + 1, true, rfl, by go_num, by omega, HN5, HDr5.out.trans ((Dr.refl _).drewN _)⟩
                            case measure => simp [intOf]; omega
                          | false =>
                            have HN5 : Hid (dueEq za zb zc ya yb yc = (Wt.take (q5 + 1)).contains (ya, yb, yc)) := by
                              unfold Hid
                              have := HTb.out
                              rw [List.take_add_one, hz]
                              unfold dueEq
                              rw [Bool.eq_iff_iff]
                              simp only [List.contains_eq_mem, decide_eq_true_eq, eq_comm (a := false), decide_eq_false_iff_not, List.mem_append, Option.toList_some, List.mem_singleton] at this ⊢
                              constructor
                              · intro h; exact .inr h.symm
                              · rintro (h | h)
                                · exact absurd h this
                                · exact h.symm
                            clear hz HTb
                            go_wp2_with fail
                            go_quiet (fail)
                            go_wp2_with fail
                            go_roundw
                            case rel => exact ⟨q5 + 1, dueEq za zb zc ya yb yc, rfl, by go_num, by omega, HN5, HDr5.out.trans ((Dr.refl _).drewN _)⟩
                            case measure => simp [intOf]; omega
                        · have hge5 : (r : Int) ≤ q5 := by omega
                          obtain rfl : q5 = r := by omega
                          have htb : tb = true := by
                            rw [HTb.out, List.take_of_length_le (by omega)]
                            simp only [List.contains_eq_mem, decide_eq_true_eq]
                            exact HMem.out
                          subst htb
                          by_cases h0 : z ≤ 0
                          · clear hk
                            go_wp2_with fail
                            have d1 : decide (t < yc) = false := decide_eq_false (by omega)
                            have d2 : decide (yc ≤ nw) = false := decide_eq_false (by omega)
                            have h0' : decide ((0 : Int) < z) = false := decide_eq_false (by omega)
                            clear h0
                            go_big_quiet (fail)
                            go_wp2_with fail
                            go_roundw
                            case rel => exact ⟨z + 1, by go_num, by omega, by omega, HDr5.out.trans ((Dr.refl _).drewN _)⟩
                            case measure => simp [intOf]; omega
                          · obtain ⟨k1, hkk⟩ : ∃ k1 : Nat, z - 1 = k1 := ⟨(z - 1).toNat, by omega⟩
                            have hkz : z.toNat = k1 + 1 := by omega
                            obtain ⟨⟨xa1, xb1, xc1⟩, hx1⟩ : ∃ x, D[k1]? = some x := ⟨_, List.getElem?_eq_getElem (by omega)⟩
                            have hord := HD2.out k1 _ _ hx1 (by rw [← hkz]; exact HY.out)
                            obtain ⟨bd', od', hsd, p0, p1, p2⟩ := (HSD.out.kept K5).at hx1
                            injection hsd with hsd
                            injection hsd with e1 e2
                            subst e1 e2
                            dsimp only at p0 p1 p2 hord
                            have hk2 : (k1 : Int) < K := by omega
                            have HKK := Lib.hid hkk
                            have HKZ := Lib.hid hkz
                            clear hx1 hkz hkk
                            go_wp2_with fail
                            have hc3 : decide (yc < xc1) = false := decide_eq_false (by omega)
                            have hk0 : decide ((0 : Int) < z) = true := decide_eq_true (by omega)
                            have hk1 : z - 1 = k1 := HKK.out
                            have d1 : decide (t < yc) = false := decide_eq_false (by omega)
                            have d2 : decide (yc ≤ nw) = false := decide_eq_false (by omega)
                            clear h0
                            go_big_quiet (fail)
                            go_wp2_with fail
                            go_roundw
                            case rel => exact ⟨z + 1, by go_num, by omega, by omega, HDr5.out.trans ((Dr.refl _).drewN _)⟩
                            case measure => simp [intOf]; omega
                    · have hzK : z = K := by omega
                      subst hzK
                      have hW5 := Lib.hid (HW4.out.keep K4)
                      have hS5 := Lib.hid (HSW4.out.kept K4)
                      go_wp2_with fail
                      go_roundw
                      case rel => exact ⟨i + 1, cm + K, t, L4, rfl, by go_num, by go_num, by omega, by omega, by omega, by omega, hW5, hS5, HL4, fun h => HE4.out (by omega)⟩
                      case measure => simp [intOf]; omega
            · have hge : (m : Int) < i := by omega
              obtain rfl : i = m + 1 := by omega
              have hnil := hend rfl
              subst hnil
              have hcr : cm = r := by simpa using hcm
              subst hcr
              have hbt : ((cm : Int) == cm) = true := by simp
              have HLen := Lib.hid (ws_len HW3.out)
              rw [show (([] : List Du).length : Int) = 0 from rfl] at HLen
              have HKF := Lib.hid (HK0.out.trans HW3.out.kept)
              go_wp2_with fail
              refine HLen.out.mono ?_
              rintro E VE ⟨rfl, rfl⟩
              go_wp2_with fail
              go_ret
              exact ⟨rfl, HKF.out⟩
    · have g1 : ¬ (30 : Int) < n := by omega
      have g2 : (30 : Int) < m := by omega
      go_enter Try.func3, Try.ntmps3
      go_wp2_with fail
      refine HAw.out.mono ?_
      rintro E V0 ⟨rfl, K0⟩
      have HK0 := Lib.hid K0
      clear K0 HAw
      go_wp2_with fail
      all_goals (go_ret; exact ⟨rfl, HK0.out⟩)
  · have g1 : (30 : Int) < n := by omega
    go_enter Try.func3, Try.ntmps3
    go_wp2_with fail
    refine HAw.out.mono ?_
    rintro E V0 ⟨rfl, K0⟩
    have HK0 := Lib.hid K0
    clear K0 HAw
    go_wp2_with fail
    all_goals (go_ret; exact ⟨rfl, HK0.out⟩)
end Go.Proofs.Ytneehfngphpccaa
