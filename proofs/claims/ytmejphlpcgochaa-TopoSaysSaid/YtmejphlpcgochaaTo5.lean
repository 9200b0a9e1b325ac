/- Orders: topo.Is and Long. -/
import Derived.Test.YtmejphlpcgochaaTo3
import Derived.Test.YtmejphlpcgochaaToM5
set_option linter.unusedVariables false
set_option linter.unusedSimpArgs false
namespace Go.Proofs.Ytmejphlpcgochaa
open Go.RowKit
theorem take_succ_memI {l : List Int} {i : Nat} {n : Int} (hn : l[i]? = some n) (b : Int) : b ∈ l.take (i + 1) ↔ b ∈ l.take i ∨ b = n := by rw [List.take_add_one, hn, List.mem_append]; simp
theorem all_range_false (f : Nat → Bool) (n i : Nat) (hi : i < n) (h : f i = false) : (List.range n).all f = false := by
  rw [← Bool.not_eq_true, List.all_eq_true]
  intro hh
  have := hh i (List.mem_range.2 hi)
  rw [h] at this
  cases this
theorem all_false_mem (f : Int → Bool) (l : List Int) (x : Int) (hx : x ∈ l) (h : f x = false) : l.all f = false := by
  rw [← Bool.not_eq_true, List.all_eq_true]
  intro hh
  have := hh x hx
  rw [h] at this
  cases this
set_option maxRecDepth 100000 in
set_option maxHeartbeats 16000000 in
theorem t_is {w : World} {s la : Option Addr} {m c ln lc : Nat} {E : List Ed} {l : List Int} (N : Int) (hE : SlE w s m c E) (hm : m ≤ 900) (hL : Sl .i64 w la ln lc l) (hln : ln ≤ 900) :
    Calls Try.prog 16 #[.agg #[.int .i64 N, .slice s m c], .slice la ln lc] w fun e w' => e = .returned (.bool (isT N E l)) ∧ Kept w w' := by
  have hB0 := heap_alloc_new w (.cells #[.int .i64 N, .slice s m c] 24)
  have K0 := kept_al w (.cells #[.int .i64 N, .slice s m c] 24)
  have b0 := at_cell hB0 0 _ rfl
  have b1 := at_cell hB0 1 _ rfl
  have hll := hL.1
  have hlc := hL.2.1
  have HOr := Lib.hid (t_order N (hE.kept K0))
  have HE := Lib.hid hE
  have HL := Lib.hid hL
  have HK0 := Lib.hid K0
  have HB := Lib.hid hB0
  clear hE hL K0 hB0
  go_enter Try.func16, Try.ntmps16
  go_wp2_with fail
  generalize World.alloc w _ = X0 at *
  generalize hbx : w.heap.size = bx at *
  refine HOr.out.mono ?_
  rintro E1 V1 ⟨oa, ok, oc, rfl, hSo, hK1, hok, -⟩
  have HK1 := Lib.hid (HK0.out.trans hK1)
  have HB1 := Lib.hid (hK1.only.heap HB.out (by simp))
  replace b0 := hK1.cel b0
  replace b1 := hK1.cel b1
  clear hK1 HOr hSo
  cases ho : orderT N E with
  | none =>
    have HR : Hid (isT N E l = false) := by unfold Hid isT; rw [ho]; rfl
    clear ho
    simp only [Option.isSome_none, Option.isSome_some]
    go_wp2_with fail
    go_ret
    exact ⟨ret_bool HR.out.symm, HK1.out⟩
  | some o =>
    have hg := (orderT_some ho).1
    have HG := Lib.hid hg
    have HI0 : Hid (isT N E l = (decide ((l.length : Int) = N) && (List.range l.length).all (okI N E l))) := by unfold Hid isT; rw [ho]; rfl
    clear ho hg
    simp only [Option.isSome_none, Option.isSome_some]
    by_cases hlN : (ln : Int) = N
    · have HI : Hid (isT N E l = (List.range ln).all (okI N E l)) := by
        unfold Hid
        rw [HI0.out, hll, decide_eq_true hlN, Bool.true_and]
      have hne : ((ln : Int) != N) = false := by simp [hlN]
      subst hlN
      clear HI0 b1
      go_wp2_with fail
      clear b0
      go_loopw [27] (fun v wr => ∃ (i : Nat), v = .int .i64 (i : Nat) ∧ i ≤ ln ∧ Hid (∀ j, j < i → okI ln E l j = true) ∧ Hid (Kept V1 wr)) (fun v _ => ln - (intOf v).toNat)
      case atStart => exact ⟨0, rfl, by omega, fun j hj => by omega, Kept.refl _⟩
      case round =>
        obtain ⟨i, rfl, hi, HA, HKw⟩ := hrel
        by_cases hlt : i < ln
        · have hlt' : (i : Int) < ln := by omega
          obtain ⟨n, hn⟩ : ∃ n, l[i]? = some n := ⟨_, List.getElem?_eq_getElem (by omega)⟩
          have hgn : l.getD i 0 = n := by rw [List.getD_eq_getElem?_getD, hn]; rfl
          obtain ⟨bl, ol, v, rfl, hlc2, hlv⟩ := ((HK1.out.trans HKw.out).sl HL.out).at i hlt
          have hvn : v = n := by rw [hlv.out]; exact hgn
          subst hvn
          have HOk : Hid (okI ln E l i = (inG ln v && decide (idxL l v = i) && (besL ln E v 1).all fun a => decide (idxL l a ≤ i))) := by unfold Hid okI; rw [hgn]
          have hno : okI ln E l i = false → Hid (isT ln E l = false) := fun h => by unfold Hid; rw [HI.out]; exact all_range_false _ _ i hlt h
          have HNo := Lib.hid hno
          have HBw := Lib.hid (HKw.out.only.heap HB1.out (by simp))
          have c0 := at_cell HBw.out 0 (.int .i64 (ln : Nat)) rfl
          have HKw1 := Lib.hid (HK1.out.trans HKw.out)
          clear hno hn hgn hlv
          by_cases t1 : v < 0
          · have HR := HNo.out (by rw [HOk.out]; unfold inG; rw [decide_eq_false (by omega)]; rfl)
            go_wp2_with fail
            go_ret
            exact ⟨ret_bool HR.out.symm, HKw1.out⟩
          · by_cases t2 : (ln : Int) ≤ v
            · have HR := HNo.out (by rw [HOk.out]; unfold inG; rw [decide_eq_false (by omega)]; rfl)
              go_wp2_with fail
              go_ret
              exact ⟨ret_bool HR.out.symm, HKw1.out⟩
            · have HIx : Hid (Calls Try.prog 34 #[.slice (some ⟨bl, ol, none⟩) ln lc, .int .i64 v] wr fun e w' => e = .returned (.int .i64 (idxL l v)) ∧ Kept wr w') := t_index v (HKw1.out.sl HL.out) (by omega)
              have c1 := at_cell HBw.out 1 (.slice s m c) rfl
              go_wp2_with fail
              refine HIx.out.mono ?_
              rintro E2 V2 ⟨rfl, hK2⟩
              replace c0 := hK2.cel c0
              replace c1 := hK2.cel c1
              have HK2 := Lib.hid (HKw.out.trans hK2)
              clear hK2 HIx
              by_cases hix : idxL l v = i
              · have f1 : (idxL l v != (i : Int)) = false := by simp [hix]
                have HOk2 : Hid (okI ln E l i = (besL ln E v 1).all fun a => decide (idxL l a ≤ i)) := by
                  unfold Hid
                  rw [HOk.out, decide_eq_true hix]
                  unfold inG
                  rw [decide_eq_true (by omega), Bool.true_and, Bool.true_and]
                have HAh := Lib.hid (g_ahead (ln : Int) v (HE.out.kept (HK1.out.trans HK2.out)) hm)
                clear HOk hix
                go_wp2_with fail
                refine HAh.out.mono ?_
                rintro E3 V3 ⟨ba, bk, bc, rfl, hSb, hK3, hbm, -⟩
                have HSb := Lib.hid hSb
                have hbl := hSb.1
                have hbc := hSb.2.1
                have HK3 := Lib.hid (HK2.out.trans hK3)
                clear hSb hK3 HAh c0 c1 f1
                go_wp2_with fail
                go_loopw [51] (fun v' wx => ∃ (j : Nat), v' = .int .i64 (j : Nat) ∧ j ≤ bk ∧ Hid (∀ a ∈ (besL ln E v 1).take j, idxL l a ≤ i) ∧ Hid (Kept V3 wx)) (fun v' _ => bk - (intOf v').toNat)
                case atStart => exact ⟨0, rfl, by omega, fun a ha => by simp at ha, Kept.refl _⟩
                case round =>
                  obtain ⟨j, rfl, hj, HAl, HKj⟩ := hrel
                  by_cases hlj : j < bk
                  · have hlj' : (j : Int) < bk := by omega
                    obtain ⟨a, ha⟩ : ∃ a, (besL ln E v 1)[j]? = some a := ⟨_, List.getElem?_eq_getElem (by omega)⟩
                    obtain ⟨b2, o2, u, rfl, hac, hav⟩ := (HKj.out.sl HSb.out).at j hlj
                    have hva : u = a := by rw [hav.out, List.getD_eq_getElem?_getD, ha]; rfl
                    subst hva
                    have HTk := Lib.hid (fun b => take_succ_memI ha b)
                    have HMem := Lib.hid (List.mem_of_getElem? ha)
                    have HKall := Lib.hid (HK1.out.trans (HK3.out.trans HKj.out))
                    have HIx : Hid (Calls Try.prog 34 #[.slice (some ⟨bl, ol, none⟩) ln lc, .int .i64 u] wr fun e w' => e = .returned (.int .i64 (idxL l u)) ∧ Kept wr w') := t_index u (HKall.out.sl HL.out) (by omega)
                    clear ha hav
                    go_wp2_with fail
                    refine HIx.out.mono ?_
                    rintro E4 V4 ⟨rfl, hK4⟩
                    have HK4 := Lib.hid (HKj.out.trans hK4)
                    have HK5 := Lib.hid (HKall.out.trans hK4)
                    clear hK4 HIx
                    by_cases hle : (i : Int) < idxL l u
                    · have HR := HNo.out (by rw [HOk2.out]; exact all_false_mem _ _ u HMem.out (decide_eq_false (by omega)))
                      go_wp2_with fail
                      go_ret
                      exact ⟨ret_bool HR.out.symm, HK5.out⟩
                    · have HAl2 : Hid (∀ a ∈ (besL ln E v 1).take (j + 1), idxL l a ≤ i) := fun b hb => by
                        rcases (HTk.out b).1 hb with h | rfl
                        · exact HAl.out b h
                        · omega
                      go_wp2_with fail
                      go_roundw
                      case rel => exact ⟨j + 1, by go_num, by omega, HAl2, HK4.out⟩
                      case measure => simp [intOf]; omega
                  · have HOk3 : Hid (okI ln E l i = true) := by
                      unfold Hid
                      rw [HOk2.out, List.all_eq_true]
                      intro a ha
                      exact decide_eq_true (HAl.out a (by rw [List.take_of_length_le (by omega)]; exact ha))
                    have HA2 : Hid (∀ q, q < i + 1 → okI ln E l q = true) := fun q hq => by
                      by_cases hqi : q = i
                      · subst hqi; exact HOk3.out
                      · exact HA.out q (by omega)
                    have HKn := Lib.hid (HK3.out.trans HKj.out)
                    go_wp2_with fail
                    go_roundw
                    case rel => exact ⟨i + 1, by go_num, by omega, HA2, HKn.out⟩
                    case measure => simp [intOf]; omega
              · have f1 : (idxL l v != (i : Int)) = true := by simp [hix]
                have HR := HNo.out (by rw [HOk.out, decide_eq_false hix, Bool.and_false, Bool.false_and])
                have HKF := Lib.hid (HK1.out.trans HK2.out)
                clear hix
                go_wp2_with fail
                go_ret
                exact ⟨ret_bool HR.out.symm, HKF.out⟩
        · have HR : Hid (isT ln E l = true) := by
            unfold Hid
            rw [HI.out, List.all_eq_true]
            intro j hj
            exact HA.out j (by have := List.mem_range.1 hj; omega)
          have HKF := Lib.hid (HK1.out.trans HKw.out)
          go_wp2_with fail
          go_ret
          exact ⟨ret_bool HR.out.symm, HKF.out⟩
    · have HR : Hid (isT N E l = false) := by unfold Hid; rw [HI0.out, hll, decide_eq_false hlN]; rfl
      have hne : ((ln : Int) != N) = true := by simp [hlN]
      clear hlN
      go_wp2_with fail
      go_ret
      exact ⟨ret_bool HR.out.symm, HK1.out⟩
/-- the number of nodes of the longest way -/
def longT (N : Int) (E : List Ed) : Int := match levT N E with | none => 0 | some d => if d = [] then 0 else maxL d + 1
theorem maxL_bd (B : Int) : ∀ (l : List Int), l ≠ [] → (∀ x ∈ l, 0 ≤ x ∧ x ≤ B) → 0 ≤ maxL l ∧ maxL l ≤ B
  | [], h, _ => absurd rfl h
  | x :: l, _, h => by
    unfold maxL
    have hx := h x (List.mem_cons_self ..)
    have hf : ∀ (l : List Int) (m : Int), (0 ≤ m ∧ m ≤ B) → (∀ x ∈ l, 0 ≤ x ∧ x ≤ B) → 0 ≤ l.foldl max m ∧ l.foldl max m ≤ B := by
      intro l
      induction l with
      | nil => exact fun m hm _ => hm
      | cons y l ih =>
        intro m hm hl
        have hy := hl y (List.mem_cons_self ..)
        exact ih _ (by omega) fun z hz => hl z (List.mem_cons_of_mem _ hz)
    exact hf l x hx fun y hy => h y (List.mem_cons_of_mem _ hy)
theorem lev_mem_bd {N : Int} {E : List Ed} {d : List Int} (h : levT N E = some d) : d.length = N.toNat ∧ 0 ≤ N ∧ N ≤ 16 ∧ ∀ x ∈ d, 0 ≤ x ∧ x ≤ N := by
  obtain ⟨l, ho, rfl⟩ := levT_some h
  obtain ⟨h1, _, h2⟩ := lvF_spec ho
  have hN := good_N (orderT_some ho).1
  refine ⟨h1, hN.1, hN.2, fun x hx => ?_⟩
  obtain ⟨i, hi⟩ := List.getElem?_of_mem hx
  have := h2 i
  rw [List.getD_eq_getElem?_getD, hi] at this
  exact this
set_option maxRecDepth 100000 in
set_option maxHeartbeats 16000000 in
theorem t_long {w : World} {s : Option Addr} {m c : Nat} {E : List Ed} (N : Int) (hE : SlE w s m c E) :
    Calls Try.prog 15 #[.agg #[.int .i64 N, .slice s m c]] w fun e w' => e = .returned (.int .i64 (longT N E)) ∧ Kept w w' := by
  have hB0 := heap_alloc_new w (.cells #[.int .i64 N, .slice s m c] 24)
  have K0 := kept_al w (.cells #[.int .i64 N, .slice s m c] 24)
  have b0 := at_cell hB0 0 _ rfl
  have b1 := at_cell hB0 1 _ rfl
  have HLv := Lib.hid (t_levels N (hE.kept K0))
  have HK0 := Lib.hid K0
  clear hE K0 hB0
  go_enter Try.func15, Try.ntmps15
  go_wp2_with fail
  generalize World.alloc w _ = X0 at *
  generalize hbx : w.heap.size = bx at *
  refine HLv.out.mono ?_
  rintro E1 V1 ⟨la, lk, lc, rfl, hSl, hK1, hok, -⟩
  have HK1 := Lib.hid (HK0.out.trans hK1)
  clear hK1 HLv b0 b1
  cases hl : levT N E with
  | none =>
    have HR : Hid (longT N E = 0) := by unfold Hid longT; rw [hl]
    clear hl hSl
    simp only [Option.isSome_none, Option.isSome_some]
    go_wp2_with fail
    go_ret
    exact ⟨by rw [HR.out]; rfl, HK1.out⟩
  | some d =>
    rw [hl] at hSl
    have hSd : Sl .i64 V1 la lk lc d := hSl
    have HSd := Lib.hid hSd
    have hdl := hSd.1
    have hbd := lev_mem_bd hl
    simp only [Option.isSome_none, Option.isSome_some]
    by_cases h0 : lk = 0
    · have HR : Hid (longT N E = 0) := by
        unfold Hid longT
        rw [hl]
        exact if_pos (List.length_eq_zero_iff.1 (by omega))
      subst h0
      clear hl hSl hbd hSd
      go_wp2_with fail
      go_ret
      exact ⟨by rw [HR.out]; rfl, HK1.out⟩
    · have hne : d ≠ [] := fun h => by rw [h] at hdl; simp at hdl; omega
      have HR : Hid (longT N E = maxL d + 1) := by
        unfold Hid longT
        rw [hl]
        exact if_neg hne
      have hmb := maxL_bd N d hne hbd.2.2.2
      have hN := hbd.2.2.1
      have f1 : ((lk : Int) == 0) = false := by simp; omega
      have HMx := Lib.hid (t_max HSd.out (by omega) (by omega))
      clear hl hSl hbd hSd hne
      go_wp2_with fail
      refine HMx.out.mono ?_
      rintro E2 V2 ⟨rfl, hK2⟩
      have HKF := Lib.hid (HK1.out.trans hK2)
      clear hK2 HMx
      go_wp2_with fail
      go_ret
      exact ⟨by rw [HR.out]; rfl, HKF.out⟩
end Go.Proofs.Ytmejphlpcgochaa
