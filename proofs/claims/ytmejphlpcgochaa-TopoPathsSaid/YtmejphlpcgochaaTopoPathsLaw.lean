/- Orders: ways from a node are those through each node straight behind it. -/
import Derived.Test.YtmejphlpcgochaaToAw
import Derived.Test.YtmejphlpcgochaaTo4
import Derived.Test.YtmejphlpcgochaaGrTy
set_option linter.unusedVariables false
set_option linter.unusedSimpArgs false
namespace Go.Proofs.Ytmejphlpcgochaa
open Go.RowKit
theorem okP_ok {N : Int} {E : List Ed} {a b : Int} (h : okP N E a b = true) : (∃ l, orderT N E = some l) ∧ (0 ≤ a ∧ a < N) ∧ (0 ≤ b ∧ b < N) ∧ pthR N E a b = (pthP N E a b : Nat) := by
  have h2 : pthR N E a b = (pthP N E a b : Nat) := by unfold pthR; rw [h]; rfl
  unfold okP inG at h
  rw [Bool.and_eq_true, Bool.and_eq_true, decide_eq_true_eq, decide_eq_true_eq] at h
  refine ⟨?_, h.2.1, h.2.2, h2⟩
  cases ho : orderT N E with
  | none => rw [ho] at h; cases h.1
  | some l => exact ⟨l, rfl⟩
theorem okP_in {N : Int} {E : List Ed} {a b c : Int} (h : okP N E a b = true) (hc : 0 ≤ c ∧ c < N) : okP N E c b = true := by
  unfold okP inG at h ⊢
  rw [decide_eq_true hc]
  rw [Bool.and_eq_true, Bool.and_eq_true] at h
  rw [h.1, h.2.2]; rfl
/-- the sum of ways, so far -/
def accP (N : Int) (E : List Ed) (b : Int) (l : List Int) (i : Nat) : Int := wU (isum (fun c => ((pthP N E c b : Nat) : Int)) (l.take i))
theorem accP_succ (N : Int) (E : List Ed) (b : Int) {l : List Int} {i : Nat} {c : Int} (hc : l[i]? = some c) : accP N E b l (i + 1) = IntKind.u64.wrap (accP N E b l i + (pthP N E c b : Nat)) := by
  unfold accP
  rw [List.take_add_one, hc]
  show wU (isum _ (l.take i ++ [c])) = wU _
  rw [isum_snoc, wU_add]
theorem accP_all {N : Int} {E : List Ed} {a b : Int} (h : okP N E a b = true) (hab : a ≠ b) : accP N E b (besL N E a 0) (besL N E a 0).length = (pthP N E a b : Nat) := by
  obtain ⟨⟨l, ho⟩, ha, hb, _⟩ := okP_ok h
  obtain ⟨hg, ht⟩ := orderT_some ho
  have hf := pthP_fwd hg (ht.acyc hg) a hb
  have hlt := pthP_lt hg a b
  rw [if_neg hab, Nat.zero_add] at hf
  unfold accP
  rw [List.take_length, isum_cast _ (fun c => pthP N E c b) _ fun c _ => rfl, ← hf, wU_in (by omega)]
set_option maxRecDepth 100000 in
set_option maxHeartbeats 16000000 in
theorem topoPaths_law (v0 v1 v2 : Value) (x0 : TyGraph.den) (x1 x2 : Int) (w : World) (w0 : RepV w TyGraph v0 x0) (w1 : RepV w (.int .i64) v1 x1) (w2 : RepV w (.int .i64) v2 x2) :
    Calls Try.prog 3 #[v0, v1, v2] w fun e w' => e = .returned (.bool true) ∧ Below w.heap.size w w' := by
  obtain ⟨N, s, m, c, E, rfl, hE, hNb⟩ := repV_graph w0
  obtain ⟨rfl, hw1⟩ := repV_int w1
  obtain ⟨rfl, hw2⟩ := repV_int w2
  have hl := hE.1
  have hnc := hE.2.1
  have hB0 := heap_alloc_new w (.cells #[.int .i64 N, .slice s m c] 24)
  have K0 := kept_al w (.cells #[.int .i64 N, .slice s m c] 24)
  have HE := Lib.hid hE
  have HAw := Lib.hid (awake11 (w.alloc (.cells #[.int .i64 N, .slice s m c] 24)))
  have HK0 := Lib.hid K0
  have HB := Lib.hid hB0
  clear w0 w1 w2 hw1 hw2 hE K0 hB0
  go_enter Try.func3, Try.ntmps3
  go_wp2_with fail
  generalize World.alloc w _ = X0 at *
  generalize hbx : w.heap.size = bx at *
  refine HAw.out.mono ?_
  rintro E1 V1 ⟨rfl, hK1⟩
  have HB1 := Lib.hid (hK1.only.heap HB.out (by simp))
  have HK1 := Lib.hid (HK0.out.trans hK1)
  have b0 := at_cell HB1.out 0 _ rfl
  have b1 := at_cell HB1.out 1 _ rfl
  clear hK1 HAw
  have HP := Lib.hid (t_paths N x1 x2 (HE.out.kept HK1.out))
  go_wp2_with fail
  refine HP.out.mono ?_
  rintro E2 V2 ⟨rfl, hK2⟩
  have HB2 := Lib.hid (hK2.only.heap HB1.out (by simp))
  have HK2 := Lib.hid (HK1.out.trans hK2)
  replace b0 := hK2.cel b0
  replace b1 := hK2.cel b1
  clear hK2 HP
  by_cases hm : m ≤ 60
  · have g1 : ¬ (60 : Int) < m := by omega
    cases hok : okP N E x1 x2 with
    | false =>
      clear hok
      go_wp2_with fail
      go_ret
      first | exact ⟨rfl, HK2.out⟩ | exact ⟨rfl, hbx ▸ (HK2.out : Below w.heap.size w _)⟩
    | true =>
      have HOk : Hid (okP N E x1 x2 = true) := hok
      obtain ⟨⟨l, ho⟩, hx1, hx2, hpr⟩ := okP_ok hok
      obtain ⟨hg, ht⟩ := orderT_some ho
      have hN := good_N hg
      have hlt := pthP_lt hg x1 x2
      have HG := Lib.hid hg
      have HPos := Lib.hid (pthP_pos hg (ht.acyc hg) (a := x1) hx2)
      rw [hpr]
      obtain ⟨P, hP⟩ : ∃ P, pthP N E x1 x2 = P := ⟨_, rfl⟩
      rw [hP] at hlt HPos ⊢
      have HPP := Lib.hid hP
      clear hok ho ht hg hpr hP
      by_cases hab : x1 = x2
      · have f1 : (x1 == x2) = true := by simp [hab]
        clear hab
        go_wp2_with fail
        go_ret
        first | exact ⟨rfl, HK2.out⟩ | exact ⟨rfl, hbx ▸ (HK2.out : Below w.heap.size w _)⟩
      · have f1 : (x1 == x2) = false := by simp [hab]
        have HAll := Lib.hid (accP_all HOk.out hab)
        rw [HPP.out] at HAll
        have HNe : Hid (x1 ≠ x2) := hab
        have HBh := Lib.hid (g_behind N x1 (HE.out.kept HK2.out) (by omega))
        clear hab
        go_wp2_with fail
        refine HBh.out.mono ?_
        rintro E3 V3 ⟨ba, bk, bc, rfl, hSb, hK3, hbm, -⟩
        have HSb := Lib.hid hSb
        have hbl := hSb.1
        have hbc := hSb.2.1
        have HK3 := Lib.hid (HK2.out.trans hK3)
        have HB3 := Lib.hid (hK3.only.heap HB2.out (by simp))
        rw [hbl] at HAll
        clear hSb hK3 HBh b0 b1
        go_wp2_with fail
        go_loopw [10, 11] (fun v10 v11 wr => ∃ (i : Nat), v10 = .int .u64 (accP N E x2 (besL N E x1 0) i) ∧ v11 = .int .i64 (i : Nat) ∧ i ≤ bk ∧ Hid (Kept V3 wr)) (fun _ v11 _ => bk - (intOf v11).toNat)
        case atStart => exact ⟨0, rfl, rfl, by omega, Kept.refl _⟩
        case round =>
          obtain ⟨i, rfl, rfl, hi, HKw⟩ := hrel
          by_cases hlt2 : i < bk
          · have hlt' : (i : Int) < bk := by omega
            obtain ⟨y, hy⟩ : ∃ y, (besL N E x1 0)[i]? = some y := ⟨_, List.getElem?_eq_getElem (by omega)⟩
            have hyr := besL_in HG.out (List.mem_of_getElem? hy)
            have HAc := Lib.hid (accP_succ N E x2 hy)
            have hoky := okP_in HOk.out hyr
            have hpy := (okP_ok hoky).2.2.2
            have hyg : (besL N E x1 0).getD i 0 = y := by rw [List.getD_eq_getElem?_getD, hy]; rfl
            obtain ⟨br, or', v, rfl, hv, hvv⟩ := (HKw.out.sl HSb.out).at i hlt2
            have hvy : v = y := by rw [hvv.out]; exact hyg
            subst hvy
            have HS : Hid (∀ Z, Kept wr Z → Z.cell? ⟨bx, 0, none⟩ = some (.int .i64 N) ∧ Z.cell? ⟨bx, 1, none⟩ = some (.slice s m c) ∧ Z.cell? ⟨br, or' + i, none⟩ = some (.int .i64 v)) := fun Z hZ => by
              have K7 := HKw.out.trans hZ
              exact ⟨at_cell (K7.only.heap HB3.out (by simp)) 0 (.int .i64 N) rfl, at_cell (K7.only.heap HB3.out (by simp)) 1 (.slice s m c) rfl, hZ.cel hv⟩
            have HPy : Hid (∀ Z, Kept wr Z → Calls Try.prog 9 #[.agg #[.int .i64 N, .slice s m c], .int .i64 v, .int .i64 x2] Z fun e w' => e = .returned (.tuple #[.int .u64 (pthP N E v x2 : Nat), .bool true]) ∧ Kept Z w') := fun Z hZ => by
              rw [← hpy, ← hoky]
              exact t_paths N v x2 (HE.out.kept ((HK3.out.trans HKw.out).trans hZ))
            obtain ⟨Py, hPy⟩ : ∃ Py, pthP N E v x2 = Py := ⟨_, rfl⟩
            rw [hPy] at HPy HAc
            clear hy hyg hvv hv hpy hoky hPy hyr
            generalize accP N E x2 (besL N E x1 0) i = A at *
            go_upto_region 11 with fail
            have KD : Kept wr wr.drew := (Kept.refl _).dr ⟨1, rfl⟩
            first | (go_region_held3 (fun Z => Z.cell? ⟨bx, 0, none⟩ = some (.int .i64 N) ∧ Z.cell? ⟨bx, 1, none⟩ = some (.slice s m c) ∧ Z.cell? ⟨br, or' + i, none⟩ = some (.int .i64 v)) (exact HS.out _ KD) ((go_at_call 9; refine (HPy.out _ KD).mono ?_; rintro E5 V6 ⟨rfl, J⟩; replace KD := KD.trans J; clear J))) | fail
            rename_i hHeld
            clear hHeld HS HPy
            have HK7 := Lib.hid (HKw.out.trans KD)
            clear KD
            go_wp2_with fail
            go_roundw
            case rel => exact ⟨i + 1, by rw [HAc.out], by go_num, by omega, HK7.out⟩
            case measure => simp [intOf]; omega
          · have hie : i = bk := by omega
            subst hie
            rw [HAll.out]
            have HBw := Lib.hid (HKw.out.only.heap HB3.out (by simp))
            have HKw3 := Lib.hid (HK3.out.trans HKw.out)
            have c0 := at_cell HBw.out 0 (.int .i64 N) rfl
            have c1 := at_cell HBw.out 1 (.slice s m c) rfl
            have HRc := Lib.hid (g_reach N x1 (HE.out.kept HKw3.out) (by omega))
            have HMr := Lib.hid (fun b => mem_reachL HG.out (decide_eq_true hx1 : inG N x1 = true) b)
            go_wp2_with fail
            refine HRc.out.mono ?_
            rintro E4 V4 ⟨ra, rk, rc, rfl, hSr, hK4, hrk, -⟩
            obtain ⟨R, hR⟩ : ∃ R, reachL N E x1 = R := ⟨_, rfl⟩
            rw [hR] at hSr HMr
            have HSr := Lib.hid hSr
            have hrl := hSr.1
            have hrc := hSr.2.1
            have HK4 := Lib.hid (HKw3.out.trans hK4)
            clear hSr hK4 HRc hR c0 c1
            go_wp2_with fail
            go_loopw [15, 16] (fun v15 v16 wx => ∃ (t : Bool) (j : Nat), v15 = .bool t ∧ v16 = .int .i64 (j : Nat) ∧ j ≤ rk ∧ Hid (t = true ↔ x2 ∈ R.take j) ∧ Hid (Kept V4 wx)) (fun _ v16 _ => rk - (intOf v16).toNat)
            case atStart => exact ⟨false, 0, rfl, rfl, by omega, ⟨fun h => (by cases h), fun h => by simp at h⟩, Kept.refl _⟩
            case round =>
              obtain ⟨t, j, rfl, rfl, hj, HT, HKj⟩ := hrel
              by_cases hlj : j < rk
              · have hlj' : (j : Int) < rk := by omega
                obtain ⟨y, hy⟩ : ∃ y, R[j]? = some y := ⟨_, List.getElem?_eq_getElem (by omega)⟩
                obtain ⟨b2, o2, v, rfl, hac, hav⟩ := (HKj.out.sl HSr.out).at j hlj
                have hva : v = y := by rw [hav.out, List.getD_eq_getElem?_getD, hy]; rfl
                subst hva
                have HTk := Lib.hid (take_succ_memI hy x2)
                clear hy hav
                cases t with
                | true =>
                  have HT2 : Hid (true = true ↔ x2 ∈ R.take (j + 1)) := ⟨fun _ => HTk.out.2 (.inl (HT.out.1 rfl)), fun _ => rfl⟩
                  clear HT
                  go_wp2_with fail
                  go_roundw
                  case rel => exact ⟨true, j + 1, rfl, by go_num, by omega, ⟨fun _ => HT2.out.1 (by trivial), fun _ => rfl⟩, HKj.out⟩
                  case measure => simp [intOf]; omega
                | false =>
                  have HNo : Hid (x2 ∉ R.take j) := fun h => by have := HT.out.2 h; cases this
                  clear HT
                  by_cases hvx : v = x2
                  · have f2 : (v == x2) = true := by simp [hvx]
                    have HIn : Hid (x2 ∈ R.take (j + 1)) := HTk.out.2 (.inr hvx.symm)
                    clear hvx
                    go_wp2_with fail
                    go_roundw
                    case rel => exact ⟨true, j + 1, rfl, by go_num, by omega, ⟨fun _ => HIn, fun _ => rfl⟩, HKj.out⟩
                    case measure => simp [intOf]; omega
                  · have f2 : (v == x2) = false := by simp [hvx]
                    have HNi : Hid (x2 ∉ R.take (j + 1)) := fun h => (HTk.out.1 h).elim HNo.out fun h => hvx h.symm
                    clear hvx
                    go_wp2_with fail
                    go_roundw
                    case rel => exact ⟨false, j + 1, rfl, by go_num, by omega, ⟨fun h => (by cases h), fun h => absurd h HNi⟩, HKj.out⟩
                    case measure => simp [intOf]; omega
              · have hfin : t = decide (0 < P) := by
                  have h1 := HT.out
                  rw [List.take_of_length_le (by omega), HMr.out] at h1
                  have h2 := HPos.out
                  rw [Bool.eq_iff_iff, h1, decide_eq_true_eq, h2]
                  constructor
                  · exact .inr
                  · rintro (h | h)
                    · exact absurd h HNe.out
                    · exact h
                have HKF := Lib.hid (HK4.out.trans HKj.out)
                have f5 : (((P : Nat) : Int) == (P : Nat)) = true := beq_self_eq_true _
                clear HT
                by_cases hP0 : 0 < P
                · rw [decide_eq_true hP0] at hfin
                  subst hfin
                  have HP0 := Lib.hid hP0
                  clear hP0
                  go_wp2_with fail
                  go_ret
                  first | exact ⟨ret_bool (decide_eq_true HP0.out), HKF.out⟩ | exact ⟨ret_bool (decide_eq_true HP0.out), hbx ▸ (HKF.out : Below w.heap.size w _)⟩
                · rw [decide_eq_false hP0] at hfin
                  subst hfin
                  obtain rfl : P = 0 := by omega
                  clear hP0
                  go_wp2_with fail
                  go_ret
                  first | exact ⟨rfl, HKF.out⟩ | exact ⟨rfl, hbx ▸ (HKF.out : Below w.heap.size w _)⟩
  · have g1 : (60 : Int) < m := by omega
    go_wp2_with fail
    go_ret
    first | exact ⟨rfl, HK2.out⟩ | exact ⟨rfl, hbx ▸ (HK2.out : Below w.heap.size w _)⟩
end Go.Proofs.Ytmejphlpcgochaa
