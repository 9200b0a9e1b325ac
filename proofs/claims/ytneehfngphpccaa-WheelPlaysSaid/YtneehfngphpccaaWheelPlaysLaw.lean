/- The wheel: any calls are as the document's. -/
import Derived.Test.YtneehfngphpccaaWhPW
set_option linter.unusedVariables false
set_option linter.unusedSimpArgs false
namespace Go.Proofs.Ytneehfngphpccaa
open Go.RowKit
set_option maxRecDepth 100000 in
set_option maxHeartbeats 16000000 in
theorem wheelPlays_law (v0 : Value) (x0 : (Ty.sl TyAct).den) (w : World) (w0 : RepV w (.sl TyAct) v0 x0) :
    Calls Try.prog 5 #[v0] w fun e w' => e = .returned (.bool true) ∧ Below w.heap.size w w' := by
  obtain ⟨s, n, c, A, rfl, hA, hAb⟩ := repV_acts w0
  have hna := hA.1
  have hnc := hA.2.1
  have HA := Lib.hid hA
  have HAb := Lib.hid hAb
  have HAw := Lib.hid (awake14 w)
  clear w0 hA hAb
  by_cases hn : n ≤ 60
  · have g1 : ¬ (60 : Int) < n := by omega
    go_enter Try.func5, Try.ntmps5
    go_wp2_with fail
    refine HAw.out.mono ?_
    rintro E V0 ⟨rfl, K0⟩
    have HA0 := Lib.hid (HA.out.kept K0)
    have HK0 := Lib.hid K0
    clear K0 HAw HA
    go_wp2_with fail
    refine (ws_new V0).mono ?_
    rintro E Y ⟨p, q, rfl, hW⟩
    have hpq := hW.wh.lt
    have hYs := hW.kept.size
    have KY := kept_al Y (.cells #[.int .i64 0, .slice none 0 0] 48)
    have HP0 : Hid (PW V0 (Y.alloc (.cells #[.int .i64 0, .slice none 0 0] 48)) p q Y.heap.size 0 [] 0 []) :=
      ⟨hW.keep KY, ⟨none, 0, 0, heap_alloc_new Y _, ⟨rfl, Nat.le_refl _, by unfold maxLen; omega, fun h => by omega⟩, fun h => by omega⟩, hYs, by omega, by omega⟩
    obtain ⟨pr, hpr⟩ : ∃ pr, Y.heap.size = pr := ⟨_, rfl⟩
    rw [hpr] at HP0
    clear hW KY hpq hYs
    go_wp2_with fail
    go_loopw [5] (fun i wr => ∃ (j : Nat) (nw : Int) (L : List Du), i = .int .i64 (j : Nat) ∧ j ≤ n ∧ Hid (PW V0 wr p q pr nw L nw L) ∧ L.length ≤ j ∧ 0 ≤ nw ∧ nw ≤ 1099511627776) (fun i _ => n - (intOf i).toNat)
    case atStart => exact ⟨0, 0, [], rfl, by omega, HP0.out, by simp, by omega, by omega⟩
    case round =>
      obtain ⟨j, nw, L, rfl, hj, HP, hL, hn0, hn1⟩ := hrel
      by_cases hlt : j < n
      · have hlt' : (j : Int) < n := by omega
        obtain ⟨⟨xo, xa, xb, xt⟩, hx⟩ : ∃ x, A[j]? = some x := ⟨_, List.getElem?_eq_getElem (by omega)⟩
        obtain ⟨bb, o, rfl, hbb, q0, q1, q2, q3⟩ := (HA0.out.kept HP.out.x.kept).2.2.2 j _ hx
        have hxt := HAb.out _ (List.mem_of_getElem? hx)
        dsimp only at q0 q1 q2 q3 hxt
        have KB := kept_al wr (.cells #[.int .i64 xo, .int .i64 xa, .int .i64 xb, .int .i64 xt] 50)
        have hB0 := heap_alloc_new wr (.cells #[.int .i64 xo, .int .i64 xa, .int .i64 xb, .int .i64 xt] 50)
        have HPB := Lib.hid (HP.out.keep KB)
        have hLl : L.length ≤ 1000 := by omega
        have hW3 := HP.out.x.wh.lt
        have hp3 : pr < wr.heap.size := by obtain ⟨_, _, _, hr⟩ := HP.out.r; exact lt_heap hr.box
        clear hx KB
        go_upto_block 2 with fail
        generalize hY1 : World.alloc wr _ = Y1 at *
        have HS : Hid (∀ Z, Only [p, q, pr] Y1 Z → (Z.cell? ⟨wr.heap.size, 0, none⟩ = some (.int .i64 xo) ∧ Z.cell? ⟨wr.heap.size, 1, none⟩ = some (.int .i64 xa) ∧ Z.cell? ⟨wr.heap.size, 2, none⟩ = some (.int .i64 xb) ∧ Z.cell? ⟨wr.heap.size, 3, none⟩ = some (.int .i64 xt))) := fun Z O => by
          have h := O.heap hB0 (by simp; omega)
          exact ⟨at_cell h 0 _ rfl, at_cell h 1 _ rfl, at_cell h 2 _ rfl, at_cell h 3 _ rfl⟩
        clear q0 q1 q2 q3 hY1
        generalize hbx : wr.heap.size = bx at *
        clear hbx
        go_cut [7, 8, 9, 10, 11, 12] from 35 to 174 (fun v7 v8 v9 v10 v11 v12 wx => v7 = .bool true ∧ ∃ (nw' : Int) (L' : List Du), PW V0 wx p q pr nw' L' nw' L' ∧ wx.heap[bx]? = some (.cells #[.int .i64 xo, .int .i64 xa, .int .i64 xb, .int .i64 xt] 50 (0, 0)) ∧ L'.length ≤ j + 1 ∧ 0 ≤ nw' ∧ nw' ≤ 1099511627776)
        case first =>
          obtain ⟨e0, e1, e2, e3⟩ := HS.out _ (Only.refl _ _)
          by_cases ho0 : xo = 0
          · have b0 : (xo == 0) = true := by simp [ho0]
            by_cases hset : 1099511627776 < xt ∨ xt ≤ nw
            · have HC1 := Lib.hid (pw_set_no (HPB.out.keep ((Kept.refl Y1).dr ⟨1, rfl⟩ : Kept Y1 Y1.drew)) xa xb xt (by omega))
              have HC2 : Hid (∀ V, PW V0 V p q pr nw L nw L → _) := fun V hV => pr_set_no hV xa xb xt (by omega)
              go_upto_region 19 with fail
              have KD : Only [p, q, pr] Y1 Y1.drew := (Only.refl _ _).drew
              clear e0 e1 e2 e3
              first | (go_region_held3 (fun Z => Z.cell? ⟨bx, 0, none⟩ = some (.int .i64 xo) ∧ Z.cell? ⟨bx, 1, none⟩ = some (.int .i64 xa) ∧ Z.cell? ⟨bx, 2, none⟩ = some (.int .i64 xb) ∧ Z.cell? ⟨bx, 3, none⟩ = some (.int .i64 xt)) (exact HS.out _ KD) (first | (go_at_call 8; refine HC1.out.mono ?_; rintro E V ⟨rfl, hPV, J⟩; have HPV := Lib.hid hPV; clear hPV; replace KD := KD.trans J; clear J) | (go_at_call 15; refine (HC2.out _ HPV.out).mono ?_; rintro E V2 ⟨rfl, hPV2, J⟩; have HPV2 := Lib.hid hPV2; clear hPV2; replace KD := KD.trans J; clear J))) | fail
              go_wp2_with fail
              go_meet
              case rel => exact ⟨rfl, nw, L, HPV2.out, KD.heap hB0 (by simp; omega), by omega, by omega, by omega⟩
            · have HC1 := Lib.hid (pw_set (HPB.out.keep ((Kept.refl Y1).dr ⟨1, rfl⟩ : Kept Y1 Y1.drew)) xa xb xt (by omega) (by omega))
              have HC2 : Hid (∀ V, PW V0 V p q pr nw (insD (xa, xb, xt) (dropD xa xb L)) nw L → _) := fun V hV => pr_set hV hLl xa xb xt (by omega) (by omega)
              go_upto_region 19 with fail
              have KD : Only [p, q, pr] Y1 Y1.drew := (Only.refl _ _).drew
              clear e0 e1 e2 e3
              first | (go_region_held3 (fun Z => Z.cell? ⟨bx, 0, none⟩ = some (.int .i64 xo) ∧ Z.cell? ⟨bx, 1, none⟩ = some (.int .i64 xa) ∧ Z.cell? ⟨bx, 2, none⟩ = some (.int .i64 xb) ∧ Z.cell? ⟨bx, 3, none⟩ = some (.int .i64 xt)) (exact HS.out _ KD) (first | (go_at_call 8; refine HC1.out.mono ?_; rintro E V ⟨rfl, hPV, J⟩; have HPV := Lib.hid hPV; clear hPV; replace KD := KD.trans J; clear J) | (go_at_call 15; refine (HC2.out _ HPV.out).mono ?_; rintro E V2 ⟨rfl, hPV2, J⟩; have HPV2 := Lib.hid hPV2; clear hPV2; replace KD := KD.trans J; clear J))) | fail
              go_wp2_with fail
              go_meet
              case rel => exact ⟨rfl, nw, (insD (xa, xb, xt) (dropD xa xb L)), HPV2.out, KD.heap hB0 (by simp; omega), by rw [insD_len]; have := (dropD_sub xa xb L).length_le; omega, by omega, by omega⟩
          · have b0 : (xo == 0) = false := by simp [ho0]
            by_cases ho1 : xo = 1
            · have b1 : (xo == 1) = true := by simp [ho1]
              have HC1 := Lib.hid (pw_drop (HPB.out.keep ((Kept.refl Y1).dr ⟨1, rfl⟩ : Kept Y1 Y1.drew)) xa xb)
              have HC2 : Hid (∀ V, PW V0 V p q pr nw (dropD xa xb L) nw L → _) := fun V hV => pr_drop hV hLl xa xb
              go_upto_region 21 with fail
              have KD : Only [p, q, pr] Y1 Y1.drew := (Only.refl _ _).drew
              clear e0 e1 e2 e3
              first | (go_region_held3 (fun Z => Z.cell? ⟨bx, 0, none⟩ = some (.int .i64 xo) ∧ Z.cell? ⟨bx, 1, none⟩ = some (.int .i64 xa) ∧ Z.cell? ⟨bx, 2, none⟩ = some (.int .i64 xb) ∧ Z.cell? ⟨bx, 3, none⟩ = some (.int .i64 xt)) (exact HS.out _ KD) (first | (go_at_call 11; refine HC1.out.mono ?_; rintro E V ⟨rfl, hPV, J⟩; have HPV := Lib.hid hPV; clear hPV; replace KD := KD.trans J; clear J) | (go_at_call 16; refine (HC2.out _ HPV.out).mono ?_; rintro E V2 ⟨rfl, hPV2, J⟩; have HPV2 := Lib.hid hPV2; clear hPV2; replace KD := KD.trans J; clear J))) | fail
              go_wp2_with fail
              go_meet
              case rel => exact ⟨rfl, nw, (dropD xa xb L), HPV2.out, KD.heap hB0 (by simp; omega), by have := (dropD_sub xa xb L).length_le; omega, by omega, by omega⟩
            · have b1 : (xo == 1) = false := by simp [ho1]
              have n0 := HPB.out.now0
              clear ho0 ho1
              go_upto_region 13 with fail
              go_cut [48] from 43 to 174 (fun v wx => ∃ cc : Bool, v = .bool cc ∧ Y1 = wx)
              case first =>
                by_cases h1 : 0 ≤ xt
                · by_cases h2 : xt ≤ 1073741824
                  · go_wp2_with fail
                    go_meet
                    case rel => exact ⟨true, by first | (simp; done) | (simp; omega), rfl⟩
                  · go_wp2_with fail
                    go_meet
                    case rel => exact ⟨false, by first | (simp; done) | (simp; omega), rfl⟩
                · go_wp2_with fail
                  go_meet
                  case rel => exact ⟨false, by first | (simp; done) | (simp; omega), rfl⟩
              case rest =>
                obtain ⟨cc, rfl, rfl⟩ := hcut
                go_upto_if 48 with fail
                go_cut [8] from 43 to 174 (fun v8 wx => ∃ t : Int, v8 = .int .i64 t ∧ Y1 = wx)
                case first =>
                  cases cc
                  · go_wp2_with fail
                    go_meet
                    case rel => exact ⟨xt, rfl, rfl⟩
                  · go_wp2_with fail
                    go_meet
                    case rel => exact ⟨_, rfl, rfl⟩
                case rest =>
                  obtain ⟨t, rfl, rfl⟩ := hcut
                  by_cases ht : t < nw ∨ 1099511627776 < t
                  · have HC1 := Lib.hid (pw_to_no HPB.out t ht)
                    have HC2 := Lib.hid (pr_to_no HPB.out t ht)
                    have hnl : SlD Y1 none 0 0 [] := ⟨rfl, Nat.le_refl _, by unfold maxLen; omega, fun h => by omega⟩
                    have HDu := Lib.hid (dues_law hnl hnl (by omega) (by omega))
                    rw [show (([] : List Du) == []) = true from by decide] at HDu
                    clear e0 e1 e2 e3 n0 hnl ht
                    go_wp2_with fail
                    refine HC1.out.mono ?_
                    rintro E W1 ⟨rfl, rfl⟩
                    go_wp2_with fail
                    refine HC2.out.mono ?_
                    rintro E W2 ⟨rfl, rfl⟩
                    go_wp2_with fail
                    refine HDu.out.mono ?_
                    rintro E W3 ⟨rfl, hD⟩
                    have hK : Kept Y1 W3 := (Kept.refl _).dr hD
                    have hP3 := HPB.out.keep hK
                    have hB3 := hK.only.heap hB0 (by simp)
                    go_wp2_with fail
                    go_meet
                    case rel => exact ⟨rfl, nw, L, hP3, hB3, by omega, by omega, by omega⟩
                  · have HC1 := Lib.hid (pw_to HPB.out hLl t (by omega) (by omega))
                    clear e0 e1 e2 e3 n0
                    go_wp2_with fail
                    refine HC1.out.mono ?_
                    rintro E W1 ⟨da, dc, rfl, hD1, hP1, hO1, hI1⟩
                    have HC2 := Lib.hid (pr_to hP1 hLl t (by omega) (by omega))
                    have HP1 := Lib.hid hP1
                    have HD1 := Lib.hid hD1
                    have HO1 := Lib.hid hO1
                    have HI1 := Lib.hid hI1
                    clear hP1 hD1 hO1 hI1 HC1
                    go_wp2_with fail
                    refine HC2.out.mono ?_
                    rintro E W2 ⟨ua, uc, rfl, hD2, hP2, hO2⟩
                    have hD1' := HD1.out.only hO2 (fun _ => HI1.out)
                    have hkl := dueK_le t L
                    have HDu := Lib.hid (dues_law hD1' hD2 (by omega) (by omega))
                    rw [show (L.take (dueK t L) == L.take (dueK t L)) = true from by simp] at HDu
                    have HP2 := Lib.hid hP2
                    have HB2 := Lib.hid ((HO1.out.trans (only3b (p := p) (q := q) hO2)).heap hB0 (by simp; omega))
                    have HL2 : Hid ((L.drop (dueK t L)).length ≤ j + 1) := by unfold Hid; rw [List.length_drop]; omega
                    clear hD1' hD2 hP2 hO2 HC2
                    go_wp2_with fail
                    refine HDu.out.mono ?_
                    rintro E W3 ⟨rfl, hD⟩
                    have hK : Kept W2 W3 := (Kept.refl _).dr hD
                    have hP3 := HP2.out.keep hK
                    have hB3 := hK.only.heap HB2.out (by simp)
                    go_wp2_with fail
                    go_meet
                    case rel => exact ⟨rfl, t, L.drop (dueK t L), hP3, hB3, HL2.out, by omega, by omega⟩
        case rest =>
          obtain ⟨rfl, nw', L', hP', hB', hL', hn0', hn1'⟩ := hcut
          have HP' := Lib.hid hP'
          have hLl' : L'.length ≤ 1000 := by omega
          have HCa := Lib.hid (pw_at hP' xa xb)
          have e1 := at_cell hB' 1 _ rfl
          have e2 := at_cell hB' 2 _ rfl
          have HB' := Lib.hid hB'
          clear hP' hB' HPB HS
          go_wp2_with fail
          refine HCa.out.mono ?_
          rintro E W1 ⟨rfl, hK1⟩
          have hP1 := HP'.out.keep hK1
          have HCb := Lib.hid (pr_at hP1 hLl' xa xb)
          have HCc := Lib.hid (pw_next hP1 hLl')
          have HP1 := Lib.hid hP1
          replace e1 := hK1.cel e1
          replace e2 := hK1.cel e2
          clear hP1 hK1 HCa
          go_wp2_with fail
          refine HCb.out.mono ?_
          rintro E W2 ⟨rfl, rfl⟩
          go_wp2_with fail
          refine HCc.out.mono ?_
          rintro E W2 ⟨rfl, hK2⟩
          have hP2 := HP1.out.keep hK2
          have HCd := Lib.hid (pr_next hP2)
          have HP2 := Lib.hid hP2
          clear hP2 hK2 HCb HCc e1 e2
          go_wp2_with fail
          refine HCd.out.mono ?_
          rintro E W3 ⟨rfl, rfl⟩
          have n0 := HP2.out.now0
          have HCe := Lib.hid (fun n => unflip (pw_now (HP2.out.keep ((Kept.refl _).dr ((Dr.refl _).drewN n)))))
          have HCf := Lib.hid (fun n => unflip (pw_len (HP2.out.keep ((Kept.refl _).dr ((Dr.refl _).drewN n)))))
          have HCg := Lib.hid (fun n => unflip (pr_len (HP2.out.keep ((Kept.refl _).dr ((Dr.refl _).drewN n)))))
          clear HCd
          go_wp2_with fail
          go_big_quiet (first | (go_at_call 20; exact Calls.quiet_of_same (HCe.out _)) | (go_at_call 10; exact Calls.quiet_of_same (HCf.out _)) | (go_at_call 21; exact Calls.quiet_of_same (HCg.out _)))
          have hPF := Lib.hid (HP2.out.keep ((Kept.refl _).dr ((Dr.refl _).drewN nq)))
          go_wp2_with fail
          go_roundw
          case rel => exact ⟨j + 1, nw', L', by go_num, by omega, hPF, by omega, by omega, by omega⟩
          case measure => simp [intOf]; omega
      · have hge : (n : Int) ≤ j := by omega
        have HKF := Lib.hid (HK0.out.trans HP.out.x.kept)
        go_wp2_with fail
        go_ret
        exact ⟨rfl, HKF.out⟩
  · have g1 : (60 : Int) < n := by omega
    go_enter Try.func5, Try.ntmps5
    go_wp2_with fail
    refine HAw.out.mono ?_
    rintro E V0 ⟨rfl, K0⟩
    have HK0 := Lib.hid K0
    clear K0 HAw
    go_wp2_with fail
    all_goals (go_ret; exact ⟨rfl, HK0.out⟩)
end Go.Proofs.Ytneehfngphpccaa
