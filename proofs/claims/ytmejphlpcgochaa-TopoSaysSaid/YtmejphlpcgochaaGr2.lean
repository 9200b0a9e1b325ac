/- Graphs: Good. -/
import Derived.Test.YtmejphlpcgochaaGr1
set_option linter.unusedVariables false
set_option linter.unusedSimpArgs false
namespace Go.Proofs.Ytmejphlpcgochaa
open Go.RowKit
open Go.ChangeMaps (setBlock)
theorem goodA_step (N : Int) (E : List Ed) (j : Nat) (x : Ed) (hx : E[j]? = some x) : goodA N (E.drop j) (E.take j) = (okE N x && !(E.take j).contains x && goodA N (E.drop (j + 1)) (E.take (j + 1))) := by
  obtain ⟨h1, h2⟩ := List.getElem?_eq_some_iff.1 hx
  rw [List.drop_eq_getElem_cons h1, h2, goodA, List.take_add_one, hx]; rfl
set_option maxRecDepth 100000 in
set_option maxHeartbeats 4000000 in
theorem g_goodG {w : World} {s : Option Addr} {n c : Nat} {E : List Ed} (N : Int) (hE : SlE w s n c E) : Calls Try.prog 23 #[.agg #[.int .i64 N, .slice s n c]] w fun e w' => e = .returned (.bool (goodG N E)) ∧ Kept w w' := by
  have hl := hE.1
  have hnc := hE.2.1
  have hcm : c ≤ 9223372036854775807 := by have := hE.2.2.1; unfold maxLen at this; omega
  have hB := heap_alloc_new w (.cells #[.int .i64 N, .slice s n c] 24)
  have K1 := kept_al w (.cells #[.int .i64 N, .slice s n c] 24)
  have b0 : World.cell? _ ⟨w.heap.size, 0, none⟩ = some (.int .i64 N) := at_cell hB 0 _ rfl
  have HK1 := Lib.hid K1
  have HE := Lib.hid hE
  by_cases hN : 0 ≤ N ∧ N ≤ 16
  · have g1 : ¬ N < 0 := by omega
    have g2 : ¬ 16 < N := by omega
    have HG : Hid (goodG N E = goodA N E []) := by unfold Hid goodG; rw [decide_eq_true hN]; rfl
    have hB2 := heap_keep hB (.map #[] 0)
    have hM := heap_alloc_new (w.alloc (.cells #[.int .i64 N, .slice s n c] 24)) (.map #[] 0)
    have K2 := K1.trans (kept_al _ (.map #[] 0))
    have hsz : (w.alloc (.cells #[.int .i64 N, .slice s n c] 24)).heap.size = w.heap.size + 1 := by simp
    rw [hsz] at hM
    have e0 : World.cell? _ ⟨w.heap.size, 0, none⟩ = some (.int .i64 N) := at_cell hB2 0 _ rfl
    have e1 : World.cell? _ ⟨w.heap.size, 1, none⟩ = some (.slice s n c) := at_cell hB2 1 _ rfl
    have hmm := @run_makeMap Try.prog
    clear hB K1
    go_enter Try.func23, Try.ntmps23
    go_wp2_with fail
    have HV0 : Hid (MapAt ((w.alloc (.cells #[.int .i64 N, .slice s n c] 24)).alloc (.map #[] 0)) (w.heap.size + 1) [] 0) := hM
    generalize World.alloc (World.alloc w _) _ = V at *
    have HK2 := Lib.hid K2
    have HBx := Lib.hid hB2
    clear hM K2 b0 hmm hB2 hsz
    obtain ⟨bx, hbx⟩ : ∃ bx, w.heap.size = bx := ⟨_, rfl⟩
    rw [hbx] at HV0 HBx e0 e1 ⊢
    have hVs : bx + 1 < V.heap.size := lt_heap HV0.out
    go_loopw [18] (fun i wr => ∃ (j : Nat) (M : List ME) (ck : Nat), i = .int .i64 (j : Nat) ∧ j ≤ n ∧ Hid (MapAt wr (bx + 1) M ck) ∧ Hid (HasM M (E.take j)) ∧ Hid (Only [bx + 1] V wr) ∧ Hid (goodG N E = goodA N (E.drop j) (E.take j))) (fun i _ => n - (intOf i).toNat)
    case atStart => exact ⟨0, [], 0, rfl, by omega, HV0.out, HasM.nil, Only.refl _ _, HG.out⟩
    case round =>
      obtain ⟨j, M, ck, rfl, hj, HM, HH, HO, HGj⟩ := hrel
      have hKw : Kept w wr := HK2.out.onl HO.out (by intro i hi; simp at hi; omega)
      by_cases hlt : j < n
      · have hlt' : (j : Int) < n := by omega
        obtain ⟨⟨xa, xb⟩, hx⟩ : ∃ x, E[j]? = some x := ⟨_, List.getElem?_eq_getElem (by omega)⟩
        have HGs := HGj.out
        rw [goodA_step N E j _ hx] at HGs
        have HGs2 : Hid (goodG N E = ((inG N xa && inG N xb && !decide (xa = xb)) && !(E.take j).contains (xa, xb) && goodA N (E.drop (j + 1)) (E.take (j + 1)))) := HGs
        have HTk : Hid (E.take (j + 1) = E.take j ++ [(xa, xb)]) := by unfold Hid; rw [List.take_add_one, hx]; rfl
        obtain ⟨bs, o, rfl, q0, q1⟩ := (HE.out.kept hKw).at hx
        dsimp only at q0 q1
        have hbxr := HO.out.heap HBx.out (by simp)
        have KE := kept_al wr (.cells #[.int .i64 xa, .int .i64 xb] 33)
        have hbx2 := KE.only.heap hbxr (by simp)
        have hedge := heap_alloc_new wr (.cells #[.int .i64 xa, .int .i64 xb] 33)
        have hws := lt_heap HM.out
        have hbs := lt_heap hbxr
        have HI1 := Lib.hid (fun W => g_in N (some ⟨bs, o, none⟩) n c xa W)
        have HI2 := Lib.hid (fun W => g_in N (some ⟨bs, o, none⟩) n c xb W)
        have HKE := Lib.hid KE
        have HBxE := Lib.hid hbx2
        have HEd := Lib.hid hedge
        have HKw := Lib.hid hKw
        have x0 := at_cell hbx2 0 _ rfl
        have x1 := at_cell hbx2 1 _ rfl
        have y0 := at_cell hedge 0 _ rfl
        have y1 := at_cell hedge 1 _ rfl
        have HKwE := Lib.hid (hKw.trans KE)
        clear hx HGs hbxr hbx2 KE hedge hKw e0 e1
        go_wp2_with fail
        refine (HI1.out _).mono ?_
        rintro E1 V1 ⟨rfl, hK1⟩
        have x0 := hK1.cel x0
        have x1 := hK1.cel x1
        have y0 := hK1.cel y0
        have y1 := hK1.cel y1
        have HW1 := Lib.hid (HKwE.out.trans hK1)
        have HV1 := Lib.hid (HKE.out.trans hK1)
        clear hK1
        cases hi1 : inG N xa with
        | false =>
          have HF : Hid (goodG N E = false) := by unfold Hid; rw [HGs2.out, hi1]; rfl
          clear hi1
          go_wp2_with fail
          go_ret
          exact ⟨ret_bool HF.out.symm, HW1.out⟩
        | true =>
          have HI1' : Hid (inG N xa = true) := hi1
          clear hi1
          go_wp2_with fail
          refine (HI2.out _).mono ?_
          rintro E2 V2 ⟨rfl, hK2⟩
          replace x0 := hK2.cel x0
          replace x1 := hK2.cel x1
          replace y0 := hK2.cel y0
          replace y1 := hK2.cel y1
          have HW2 := Lib.hid (HW1.out.trans hK2)
          have HV2 := Lib.hid (HV1.out.trans hK2)
          clear hK2
          cases hi2 : inG N xb with
          | false =>
            have HF : Hid (goodG N E = false) := by unfold Hid; rw [HGs2.out, HI1'.out, hi2]; rfl
            clear hi2
            go_wp2_with fail
            go_ret
            exact ⟨ret_bool HF.out.symm, HW2.out⟩
          | true =>
            have HI2' : Hid (inG N xb = true) := hi2
            clear hi2
            by_cases hab : xa = xb
            · have HF : Hid (goodG N E = false) := by unfold Hid; rw [HGs2.out, HI1'.out, HI2'.out, hab]; simp
              have hb1 : (xa == xb) = true := by simp [hab]
              clear hab
              go_wp2_with fail
              go_ret
              exact ⟨ret_bool HF.out.symm, HW2.out⟩
            · have hb1 : (xa == xb) = false := by simp [hab]
              have HAB : Hid (decide (xa = xb) = false) := decide_eq_false hab
              have hM2 : MapAt V2 (bx + 1) M ck := HV2.out.only.heap HM.out (by simp)
              have hlk := run_look1 keyG xa xb hM2
              rw [HH.out xa xb] at hlk
              unfold kv at hlk
              clear hab
              cases hct : (E.take j).contains (xa, xb) with
              | true =>
                have HF : Hid (goodG N E = false) := by unfold Hid; rw [HGs2.out, HI1'.out, HI2'.out, HAB.out, hct]; rfl
                rw [hct] at hlk
                clear hct hM2
                go_wp2_with fail
                go_ret
                exact ⟨ret_bool HF.out.symm, HW2.out⟩
              | false =>
                have HG2 : Hid (goodG N E = goodA N (E.drop (j + 1)) (E.take (j + 1))) := by unfold Hid; rw [HGs2.out, HI1'.out, HI2'.out, HAB.out, hct]; rfl
                rw [hct] at hlk
                have hpt := run_put keyG xa xb (.bool true) hM2
                unfold kv at hpt
                have HM3 : Hid (MapAt _ (bx + 1) _ _) := mapAt_set hM2 (.map ((putM xa xb (.bool true) ck M).1.map ent).toArray (putM xa xb (.bool true) ck M).2)
                have HO3 : Hid (Only [bx + 1] V _) := (HO.out.trans (HV2.out.only.mono (by simp))).trans (only_setBlock V2 (bx + 1) (.map ((putM xa xb (.bool true) ck M).1.map ent).toArray (putM xa xb (.bool true) ck M).2))
                have HH3 : Hid (HasM (putM xa xb (.bool true) ck M).1 (E.take (j + 1))) := by unfold Hid; rw [HTk.out]; exact HH.out.put xa xb ck hct
                clear hct hM2
                generalize putM xa xb (.bool true) ck M = R at *
                go_wp2_with fail
                go_roundw
                case rel => exact ⟨j + 1, R.1, R.2, by go_num, by omega, HM3.out, HH3.out, HO3.out, HG2.out⟩
                case measure => simp [intOf]; omega
      · have hge : (n : Int) ≤ j := by omega
        obtain rfl : j = n := by omega
        have HF : Hid (goodG N E = true) := by unfold Hid; rw [HGj.out, List.drop_of_length_le (by omega)]; rfl
        go_wp2_with fail
        go_ret
        exact ⟨ret_bool HF.out.symm, hKw⟩
  · have HF : Hid (goodG N E = false) := by unfold Hid goodG; rw [decide_eq_false hN]; rfl
    clear hB K1
    by_cases h0 : N < 0
    · go_enter Try.func23, Try.ntmps23
      go_wp2_with fail
      go_ret
      exact ⟨ret_bool HF.out.symm, HK1.out⟩
    · have h1 : 16 < N := by omega
      go_enter Try.func23, Try.ntmps23
      go_wp2_with fail
      go_ret
      exact ⟨ret_bool HF.out.symm, HK1.out⟩
theorem g_good {w : World} {s : Option Addr} {n c : Nat} {E : List Ed} (N : Int) (hE : SlE w s n c E) (hn : n ≤ 1000) : Calls Try.prog 23 #[.agg #[.int .i64 N, .slice s n c]] w fun e w' => e = .returned (.bool (goodG N E)) ∧ Kept w w' := g_goodG N hE
end Go.Proofs.Ytmejphlpcgochaa
