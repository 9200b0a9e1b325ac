/- Orders, the document's: Is and Long. -/
import Derived.Test.YtmejphlpcgochaaTo7
import Derived.Test.YtmejphlpcgochaaTo5
import Derived.Deep.QuietTactic
set_option linter.unusedVariables false
set_option linter.unusedSimpArgs false
namespace Go.Proofs.Ytmejphlpcgochaa
open Go.RowKit
set_option maxRecDepth 100000 in
set_option maxHeartbeats 16000000 in
theorem ro_is {w : World} {s la : Option Addr} {m c ln lc : Nat} {E : List Ed} {l : List Int} (N : Int) (hE : SlE w s m c E) (hm : m ≤ 900) (hL : Sl .i64 w la ln lc l) (hln : ln ≤ 900) :
    Calls Try.prog 21 #[.agg #[.int .i64 N, .slice s m c], .slice la ln lc] w fun e w' => e = .returned (.bool (isR N E l)) ∧ Kept w w' := by
  have hB0 := heap_alloc_new w (.cells #[.int .i64 N, .slice s m c] 41)
  have K0 := kept_al w (.cells #[.int .i64 N, .slice s m c] 41)
  have b0 := at_cell hB0 0 _ rfl
  have b1 := at_cell hB0 1 _ rfl
  have hll := hL.1
  have hlc := hL.2.1
  have HOr := Lib.hid (ro_order N (hE.kept K0) hm)
  have HE := Lib.hid hE
  have HL := Lib.hid hL
  have HK0 := Lib.hid K0
  have HB := Lib.hid hB0
  clear hE hL K0 hB0
  go_enter Try.func21, Try.ntmps21
  go_wp2_with fail
  generalize World.alloc w _ = X0 at *
  generalize hbx : w.heap.size = bx at *
  refine HOr.out.mono ?_
  rintro E1 V1 ⟨oa, ok, oc, rfl, hSo, hK1, hok, -⟩
  have HK1 := Lib.hid (HK0.out.trans hK1)
  have HB1 := Lib.hid (hK1.only.heap HB.out (by simp))
  replace b0 := hK1.cel b0
  replace b1 := hK1.cel b1
  clear hK1 HOr hSo
  cases ho : orderT N E with
  | none =>
    have HR : Hid (isR N E l = false) := by unfold Hid isR; rw [ho]; rfl
    clear ho
    simp only [Option.isSome_none, Option.isSome_some]
    go_wp2_with fail
    go_ret
    exact ⟨ret_bool HR.out.symm, HK1.out⟩
  | some o =>
    have hg := (orderT_some ho).1
    have HG := Lib.hid hg
    have HI0 : Hid (isR N E l = (decide ((l.length : Int) = N) && (List.range l.length).all (okR N E l))) := by unfold Hid isR; rw [ho]; rfl
    clear ho hg
    simp only [Option.isSome_none, Option.isSome_some]
    by_cases hlN : (ln : Int) = N
    · have HI : Hid (isR N E l = (List.range ln).all (okR N E l)) := by
        unfold Hid
        rw [HI0.out, hll, decide_eq_true hlN, Bool.true_and]
      have hne : ((ln : Int) != N) = false := by simp [hlN]
      subst hlN
      clear HI0 b1
      go_wp2_with fail
      clear b0
      go_loopw [7] (fun v wr => ∃ (i : Nat), v = .int .i64 (i : Nat) ∧ i ≤ ln ∧ Hid (∀ j, j < i → okR ln E l j = true) ∧ Hid (Kept V1 wr)) (fun v _ => ln - (intOf v).toNat)
      case atStart => exact ⟨0, rfl, by omega, fun j hj => by omega, Kept.refl _⟩
      case round =>
        obtain ⟨i, rfl, hi, HA, HKw⟩ := hrel
        by_cases hlt : i < ln
        · have hlt' : (i : Int) < ln := by omega
          obtain ⟨n, hn⟩ : ∃ n, l[i]? = some n := ⟨_, List.getElem?_eq_getElem (by omega)⟩
          have hgn : l.getD i 0 = n := by rw [List.getD_eq_getElem?_getD, hn]; rfl
          obtain ⟨bl, ol, v, rfl, hlc1, hlv⟩ := HL.out.at i hlt
          have hvn : v = n := by rw [hlv.out]; exact hgn
          subst hvn
          have HLc := Lib.hid hlc1
          have hlc2 := (HK1.out.trans HKw.out).cel hlc1
          have HOk : Hid (okR ln E l i = (inG ln v && !hasI (l.take i) v && (besL ln E v 1).all fun a => hasI (l.take i) a)) := by unfold Hid okR; rw [hgn]
          have hno : okR ln E l i = false → Hid (isR ln E l = false) := fun h => by unfold Hid; rw [HI.out]; exact all_range_false _ _ i hlt h
          have HNo := Lib.hid hno
          have HBw := Lib.hid (HKw.out.only.heap HB1.out (by simp))
          have c0 := at_cell HBw.out 0 (.int .i64 (ln : Nat)) rfl
          have HKw1 := Lib.hid (HK1.out.trans HKw.out)
          have hs1 := fun W => run_cut_h elemI (some ⟨bl, ol, none⟩) ln lc .i64 i (i : Int) rfl (by omega) W
          have HIn : Hid (∀ n, Calls Try.prog 37 #[.slice (some ⟨bl, ol, none⟩) i lc, .int .i64 v] (wr.drewN n) fun e w' => e = .returned (.bool (hasI (l.take i) v)) ∧ w' = wr.drewN n) := fun n => r_in v (sl_take ((HKw1.out.dr ((Dr.refl wr).drewN n)).sl HL.out) i (by omega)) (by omega)
          clear hno hn hgn hlv hlc1
          by_cases t1 : v < 0
          · have HR := HNo.out (by rw [HOk.out]; unfold inG; rw [decide_eq_false (by omega)]; rfl)
            go_wp2_with fail
            have f1 : decide (v < 0) = true := decide_eq_true (by omega)
            go_big_quiet (fail)
            go_wp2_with fail
            go_ret
            exact ⟨ret_bool HR.out.symm, HKw1.out.dr ((Dr.refl wr).drewN _)⟩
          · by_cases t2 : (ln : Int) ≤ v
            · have HR := HNo.out (by rw [HOk.out]; unfold inG; rw [decide_eq_false (by omega)]; rfl)
              go_wp2_with fail
              have f1 : decide (v < 0) = false := decide_eq_false (by omega)
              have f2 : decide ((ln : Int) ≤ v) = true := decide_eq_true (by omega)
              go_big_quiet (fail)
              go_wp2_with fail
              go_ret
              exact ⟨ret_bool HR.out.symm, HKw1.out.dr ((Dr.refl wr).drewN _)⟩
            · have hin : inG ln v = true := decide_eq_true (by omega)
              obtain ⟨q, hq⟩ : ∃ q, hasI (l.take i) v = q := ⟨_, rfl⟩
              rw [hq] at HIn HOk
              have HOk2 : Hid (okR ln E l i = (!q && (besL ln E v 1).all fun a => hasI (l.take i) a)) := by
                unfold Hid
                rw [HOk.out, hin, Bool.true_and]
              clear hq hin HOk
              go_wp2_with fail
              have f1 : decide (v < 0) = false := decide_eq_false (by omega)
              have f2 : decide ((ln : Int) ≤ v) = false := decide_eq_false (by omega)
              go_big_quiet ((go_at_call 37; exact Calls.quiet_of_same (HIn.out _)))
              have HKq := Lib.hid (HKw.out.dr ((Dr.refl wr).drewN nq))
              have HBq := Lib.hid (HKq.out.only.heap HB1.out (by simp))
              clear c0 hlc2 f1 f2 hs1
              generalize wr.drewN nq = Y at *
              cases q with
              | true =>
                have HR := HNo.out (by rw [HOk2.out]; rfl)
                have HKF := Lib.hid (HK1.out.trans HKq.out)
                go_wp2_with fail
                go_ret
                exact ⟨ret_bool HR.out.symm, HKF.out⟩
              | false =>
                have HOk3 : Hid (okR ln E l i = (besL ln E v 1).all fun a => hasI (l.take i) a) := HOk2.out
                have hlcq := (HK1.out.trans HKq.out).cel HLc.out
                have HS : Hid (∀ Z, Kept Y Z → Z.cell? ⟨bx, 0, none⟩ = some (.int .i64 (ln : Nat)) ∧ Z.cell? ⟨bx, 1, none⟩ = some (.slice s m c) ∧ Z.cell? ⟨bl, ol + i, none⟩ = some (.int .i64 v)) := fun Z k => ⟨k.cel (at_cell HBq.out 0 _ rfl), k.cel (at_cell HBq.out 1 _ rfl), k.cel hlcq⟩
                have HAh : Hid (∀ Z, Kept Y Z → Calls Try.prog 36 #[.agg #[.int .i64 (ln : Nat), .slice s m c], .int .i64 v] Z fun e w' => ∃ (a : Option Addr) (k c' : Nat), e = .returned (.slice a k c') ∧ Sl .i64 w' a k c' (besL ln E v 1) ∧ Kept Z w' ∧ k ≤ 16 ∧ (∀ y, a = some y → Z.heap.size ≤ y.block)) := fun Z hZ => r_ahead (ln : Int) v (HE.out.kept ((HK1.out.trans HKq.out).trans hZ)) hm
                clear HOk2 HIn
                go_upto_region 9 with fail
                have KD : Kept Y Y.drew := (Kept.refl _).dr ⟨1, rfl⟩
                first | (go_region_held3 (fun Z => Z.cell? ⟨bx, 0, none⟩ = some (.int .i64 (ln : Nat)) ∧ Z.cell? ⟨bx, 1, none⟩ = some (.slice s m c) ∧ Z.cell? ⟨bl, ol + i, none⟩ = some (.int .i64 v)) (exact HS.out _ KD) ((go_at_call 36; refine (HAh.out _ KD).mono ?_; rintro E3 V3 ⟨ba, bk, bc, rfl, hSb, J, hbm, -⟩; replace KD := KD.trans J; clear J))) | fail
                rename_i hHeld
                have HSb := Lib.hid hSb
                have hbl := hSb.1
                have hbc := hSb.2.1
                have HK3 := Lib.hid (HKq.out.trans KD)
                clear hSb KD HS HAh hHeld hlcq
                go_wp2_with fail
                go_loopw [9] (fun v' wx => ∃ (j : Nat), v' = .int .i64 (j : Nat) ∧ j ≤ bk ∧ Hid (∀ a ∈ (besL ln E v 1).take j, hasI (l.take i) a = true) ∧ Hid (Kept V3 wx)) (fun v' _ => bk - (intOf v').toNat)
                case atStart => exact ⟨0, rfl, by omega, fun a ha => by simp at ha, Kept.refl _⟩
                case round =>
                  obtain ⟨j, rfl, hj, HAl, HKj⟩ := hrel
                  by_cases hlj : j < bk
                  · have hlj' : (j : Int) < bk := by omega
                    obtain ⟨a, ha⟩ : ∃ a, (besL ln E v 1)[j]? = some a := ⟨_, List.getElem?_eq_getElem (by omega)⟩
                    obtain ⟨b2, o2, u, rfl, hac, hav⟩ := (HKj.out.sl HSb.out).at j hlj
                    have hva : u = a := by rw [hav.out, List.getD_eq_getElem?_getD, ha]; rfl
                    subst hva
                    have HTk := Lib.hid (fun b => take_succ_memI ha b)
                    have HMem := Lib.hid (List.mem_of_getElem? ha)
                    have HKall := Lib.hid (HK1.out.trans (HK3.out.trans HKj.out))
                    have hs1 := fun W => run_cut_h elemI (some ⟨bl, ol, none⟩) ln lc .i64 i (i : Int) rfl (by omega) W
                    have HIn : Hid (∀ n, Calls Try.prog 37 #[.slice (some ⟨bl, ol, none⟩) i lc, .int .i64 u] (wr.drewN n) fun e w' => e = .returned (.bool (hasI (l.take i) u)) ∧ w' = wr.drewN n) := fun n => r_in u (sl_take ((HKall.out.dr ((Dr.refl wr).drewN n)).sl HL.out) i (by omega)) (by omega)
                    obtain ⟨q, hq⟩ : ∃ q, hasI (l.take i) u = q := ⟨_, rfl⟩
                    rw [hq] at HIn
                    have HQ := Lib.hid hq
                    clear ha hav hq
                    go_wp2_with fail
                    go_quiet ((go_at_call 37; exact Calls.quiet_of_same (HIn.out _)))
                    clear hs1
                    cases q with
                    | false =>
                      have HR := HNo.out (by rw [HOk3.out]; exact all_false_mem _ _ u HMem.out HQ.out)
                      go_wp2_with fail
                      go_ret
                      exact ⟨ret_bool HR.out.symm, HKall.out.dr ((Dr.refl wr).drewN _)⟩
                    | true =>
                      have HAl2 : Hid (∀ a ∈ (besL ln E v 1).take (j + 1), hasI (l.take i) a = true) := fun b hb => by
                        rcases (HTk.out b).1 hb with h | rfl
                        · exact HAl.out b h
                        · exact HQ.out
                      have HK5 := Lib.hid (HKj.out.dr ((Dr.refl wr).drewN nq))
                      go_wp2_with fail
                      go_roundw
                      case rel => exact ⟨j + 1, by go_num, by omega, HAl2, HK5.out⟩
                      case measure => simp [intOf]; omega
                  · have HOk4 : Hid (okR ln E l i = true) := by
                      unfold Hid
                      rw [HOk3.out, List.all_eq_true]
                      intro a ha
                      exact HAl.out a (by rw [List.take_of_length_le (by omega)]; exact ha)
                    have HA2 : Hid (∀ q, q < i + 1 → okR ln E l q = true) := fun q hq => by
                      by_cases hqi : q = i
                      · subst hqi; exact HOk4.out
                      · exact HA.out q (by omega)
                    have HKn := Lib.hid (HK3.out.trans HKj.out)
                    go_wp2_with fail
                    go_roundw
                    case rel => exact ⟨i + 1, by go_num, by omega, HA2, HKn.out⟩
                    case measure => simp [intOf]; omega
        · have HR : Hid (isR ln E l = true) := by
            unfold Hid
            rw [HI.out, List.all_eq_true]
            intro j hj
            exact HA.out j (by have := List.mem_range.1 hj; omega)
          have HKF := Lib.hid (HK1.out.trans HKw.out)
          go_wp2_with fail
          go_ret
          exact ⟨ret_bool HR.out.symm, HKF.out⟩
    · have HR : Hid (isR N E l = false) := by unfold Hid; rw [HI0.out, hll, decide_eq_false hlN]; rfl
      have hne : ((ln : Int) != N) = true := by simp [hlN]
      clear hlN
      go_wp2_with fail
      go_ret
      exact ⟨ret_bool HR.out.symm, HK1.out⟩
theorem longT_fold {N : Int} {E : List Ed} {d : List Int} (h : levT N E = some d) : longT N E = d.foldl (fun m x => max m (x + 1)) 0 := by
  unfold longT
  rw [h]
  have hb := (lev_mem_bd h).2.2.2
  have hf : ∀ (l : List Int) (m : Int), l.foldl (fun m x => max m (x + 1)) (m + 1) = l.foldl max m + 1 := by
    intro l
    induction l with
    | nil => exact fun m => rfl
    | cons y l ih =>
      intro m
      rw [List.foldl_cons, List.foldl_cons, ← ih]
      congr 1
      omega
  cases d with
  | nil => rfl
  | cons y l =>
    have hy := hb y (List.mem_cons_self ..)
    show (if (y :: l) = [] then (0 : Int) else maxL (y :: l) + 1) = _
    rw [if_neg (by simp), List.foldl_cons, show max 0 (y + 1) = y + 1 by omega, hf]
    rfl
theorem longT_none {N : Int} {E : List Ed} (h : levT N E = none) : longT N E = 0 := by unfold longT; rw [h]
set_option maxRecDepth 100000 in
set_option maxHeartbeats 16000000 in
theorem ro_long {w : World} {s : Option Addr} {m c : Nat} {E : List Ed} (N : Int) (hE : SlE w s m c E) (hm : m ≤ 900) :
    Calls Try.prog 22 #[.agg #[.int .i64 N, .slice s m c]] w fun e w' => e = .returned (.int .i64 (longT N E)) ∧ Kept w w' := by
  have hB0 := heap_alloc_new w (.cells #[.int .i64 N, .slice s m c] 41)
  have K0 := kept_al w (.cells #[.int .i64 N, .slice s m c] 41)
  have b0 := at_cell hB0 0 _ rfl
  have b1 := at_cell hB0 1 _ rfl
  have HLv := Lib.hid (ro_levels N (hE.kept K0) hm)
  have HK0 := Lib.hid K0
  clear hE K0 hB0
  go_enter Try.func22, Try.ntmps22
  go_wp2_with fail
  generalize World.alloc w _ = X0 at *
  generalize hbx : w.heap.size = bx at *
  refine HLv.out.mono ?_
  rintro E1 V1 ⟨la, lk, lc, rfl, hSl, hK1, hok, -⟩
  have HK1 := Lib.hid (HK0.out.trans hK1)
  obtain ⟨d, hd, hlg, hbd⟩ : ∃ d, (levT N E).getD [] = d ∧ longT N E = d.foldl (fun m x => max m (x + 1)) 0 ∧ ∀ x ∈ d, 0 ≤ x ∧ x ≤ 16 := by
    cases hl : levT N E with
    | none => exact ⟨[], rfl, longT_none hl, fun x hx => by cases hx⟩
    | some d =>
      have hb := lev_mem_bd hl
      exact ⟨d, rfl, longT_fold hl, fun x hx => by have := hb.2.2.2 x hx; omega⟩
  rw [hd] at hSl
  have HSl := Lib.hid hSl
  have hdl := hSl.1
  have hdc := hSl.2.1
  have HLg := Lib.hid hlg
  have HBd := Lib.hid hbd
  clear hK1 HLv b0 b1 hd hSl hlg hbd
  generalize (levT N E).isSome = ok at *
  go_wp2_with fail
  go_loopw [5, 6] (fun v5 v6 wr => ∃ (y : Int) (j : Nat), v5 = .int .i64 y ∧ v6 = .int .i64 (j : Nat) ∧ j ≤ lk ∧ 0 ≤ y ∧ y ≤ 17 ∧ Hid (longT N E = (d.drop j).foldl (fun m x => max m (x + 1)) y) ∧ Hid (Kept V1 wr)) (fun _ v6 _ => lk - (intOf v6).toNat)
  case atStart => exact ⟨0, 0, rfl, rfl, by omega, by omega, by omega, HLg.out, Kept.refl _⟩
  case round =>
    obtain ⟨y, j, rfl, rfl, hj, hy0, hy1, HI, HKj⟩ := hrel
    by_cases hlt : j < lk
    · have hlt' : (j : Int) < lk := by omega
      obtain ⟨x, hx⟩ : ∃ x, d[j]? = some x := ⟨_, List.getElem?_eq_getElem (by omega)⟩
      obtain ⟨b2, o2, v, rfl, hac, hav⟩ := (HKj.out.sl HSl.out).at j hlt
      have hva : v = x := by rw [hav.out, List.getD_eq_getElem?_getD, hx]; rfl
      subst hva
      have hvb := HBd.out v (List.mem_of_getElem? hx)
      have HI2 : Hid (longT N E = (d.drop (j + 1)).foldl (fun m x => max m (x + 1)) (max y (v + 1))) := by
        unfold Hid
        obtain ⟨h1, h2⟩ := List.getElem?_eq_some_iff.1 hx
        rw [HI.out, List.drop_eq_getElem_cons h1, h2, List.foldl_cons]
      clear hx hav HI
      by_cases hgt : y < v + 1
      · have HI3 : Hid (longT N E = (d.drop (j + 1)).foldl (fun m x => max m (x + 1)) (v + 1)) := by unfold Hid; rw [HI2.out, show max y (v + 1) = v + 1 by omega]
        go_wp2_with fail
        go_roundw
        case rel => exact ⟨v + 1, j + 1, rfl, by go_num, by omega, by omega, by omega, HI3.out, HKj.out⟩
        case measure => simp [intOf]; omega
      · have HI3 : Hid (longT N E = (d.drop (j + 1)).foldl (fun m x => max m (x + 1)) y) := by unfold Hid; rw [HI2.out, show max y (v + 1) = y by omega]
        go_wp2_with fail
        go_roundw
        case rel => exact ⟨y, j + 1, rfl, by go_num, by omega, by omega, by omega, HI3.out, HKj.out⟩
        case measure => simp [intOf]; omega
    · have hge : (lk : Int) ≤ j := by omega
      have HI3 : Hid (longT N E = y) := by unfold Hid; rw [HI.out, List.drop_of_length_le (by omega)]; rfl
      have HKF := Lib.hid (HK1.out.trans HKj.out)
      clear HI
      go_wp2_with fail
      go_ret
      exact ⟨by rw [HI3.out]; rfl, HKF.out⟩
end Go.Proofs.Ytmejphlpcgochaa
