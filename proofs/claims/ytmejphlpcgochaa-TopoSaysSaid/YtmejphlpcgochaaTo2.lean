/- Orders: topo.Order. -/
import Derived.Test.YtmejphlpcgochaaTo1
import Derived.Test.YtmejphlpcgochaaGr9
set_option linter.unusedVariables false
set_option linter.unusedSimpArgs false
namespace Go.Proofs.Ytmejphlpcgochaa
open Go.RowKit
theorem rdyT_eq (N : Int) (E : List Ed) (out : List Int) (n : Int) : rdyT N E out n = (!((besL N E n 1).any fun x => !hasI out x) && !hasI out n) := by
  unfold rdyT
  rw [hasI_eq]
  congr 1
  induction besL N E n 1 with
  | nil => rfl
  | cons x l ih => rw [List.all_cons, ih, List.any_cons, Bool.not_or, Bool.not_not, hasI_eq]
theorem made_cap (w : World) (n : Nat) (hn : n ≤ 1000) : (Instr.makeSlice 29 (.int .i64 0) (.int .i64 (n : Int))).run Try.prog w = .ok (.slice (some ⟨w.heap.size, 0, none⟩) 0 n) (w.alloc (rowI (List.replicate n 0))) := by
  obtain ⟨i, hi, hz, hs, hb⟩ := elemI.hi
  have h := run_make (P := Try.prog) w 29 3 i _ elemI.ht hi hz .i64 .i64 0 n (by omega) (by omega) (by rw [hb]; omega) (by omega)
  rw [h, hs]
  simp only [Int.toNat_natCast, Nat.mul_one]
  congr 2
  unfold rowI ivs
  congr 1
  apply Array.ext'
  apply List.ext_getElem?
  intro j
  by_cases hj : j < n
  · simp [madeCells, Value.cells, hj, Nat.mod_one]
  · simp [madeCells, Value.cells, hj]
theorem app_cap (w : World) (n : Nat) (hn : n ≤ 1000) : App (w.alloc (rowI (List.replicate n 0))) 3 1 (.slice (some ⟨w.heap.size, 0, none⟩) 0 n) 0 (some w.heap.size) [] :=
  ⟨⟨by simp, .inr ⟨w.heap.size, n, _, rfl, Nat.zero_le _, heap_alloc_new w _, by omega, by unfold maxLen; omega, by simp [ivs], by simp⟩⟩, rfl⟩
theorem good_len {N : Int} {E : List Ed} (hg : goodG N E = true) : E.length ≤ 256 := by
  have hN := good_N hg
  have hnd := ((good_iff N E).1 hg).2.2
  have h := nodup_len (E.map fun e => e.1 * 16 + e.2) (nodes 256) (by
    unfold List.Nodup
    rw [List.pairwise_map]
    refine List.Pairwise.imp_of_mem ?_ hnd
    rintro ⟨a, b⟩ ⟨c, d⟩ h1 h2 hne heq
    have m1 := good_mem hg h1
    have m2 := good_mem hg h2
    dsimp only at m1 m2 heq
    exact hne (by rw [show a = c by omega, show b = d by omega])) fun x hx => by
    obtain ⟨⟨a, b⟩, h1, rfl⟩ := List.mem_map.1 hx
    have m1 := good_mem hg h1
    dsimp only at m1
    rw [mem_nodes]
    dsimp only
    omega
  rw [List.length_map, nodes_len] at h
  exact h
def hdO (a : Option Addr) (n c : Nat) : Obj := .cells #[.slice a n c] 29 (0, 0)
theorem lowU_step (p : Int → Bool) (k0 : Nat) (z : Int) (h0 : 0 ≤ z) (h1 : z < k0) : lowU p k0 (k0 - 1 - (z - 1)).toNat = if p z = true then z else lowU p k0 (k0 - 1 - z).toNat := by
  obtain ⟨d, hd⟩ : ∃ d : Nat, (k0 - 1 - z).toNat = d := ⟨_, rfl⟩
  have hz : (k0 : Int) - (d : Int) - 1 = z := by omega
  rw [show (k0 - 1 - (z - 1)).toNat = d + 1 by omega, hd, lowU, hz]
set_option maxRecDepth 100000 in
set_option maxHeartbeats 16000000 in
theorem t_order {w : World} {s : Option Addr} {m c : Nat} {E : List Ed} (N : Int) (hE : SlE w s m c E) :
    Calls Try.prog 12 #[.agg #[.int .i64 N, .slice s m c]] w fun e w' => ∃ (a : Option Addr) (k c' : Nat), e = .returned (.tuple #[.slice a k c', .bool (orderT N E).isSome]) ∧ Sl .i64 w' a k c' ((orderT N E).getD []) ∧ Kept w w' ∧ k ≤ 16 ∧ (∀ y, a = some y → w.heap.size ≤ y.block) := by
  have hB0 := heap_alloc_new w (.cells #[.int .i64 N, .slice s m c] 24)
  have K0 := kept_al w (.cells #[.int .i64 N, .slice s m c] 24)
  have b0 := at_cell hB0 0 _ rfl
  have b1 := at_cell hB0 1 _ rfl
  have HGd := Lib.hid (g_goodG N (hE.kept K0))
  have hEl := hE.1
  have HE := Lib.hid hE
  have HK0 := Lib.hid K0
  have HB := Lib.hid hB0
  clear hE K0 hB0
  go_enter Try.func12, Try.ntmps12
  go_wp2_with fail
  generalize World.alloc w _ = X0 at *
  generalize hbx : w.heap.size = bx at *
  refine HGd.out.mono ?_
  rintro E1 V1 ⟨rfl, hK1⟩
  have HK1 := Lib.hid (HK0.out.trans hK1)
  have HB1 := Lib.hid (hK1.only.heap HB.out (by simp))
  replace b0 := hK1.cel b0
  replace b1 := hK1.cel b1
  have hV1 := lt_heap HB1.out
  clear hK1 HGd
  cases hg : goodG N E with
  | false =>
    have HR : Hid (orderT N E = none) := by unfold Hid orderT; rw [hg]; rfl
    clear hg
    go_wp2_with fail
    exact bodyPost_ret (v := .tuple #[.slice none 0 0, .bool false]) (by simp [results, Try.results12, go_sem]) rfl ⟨none, 0, 0, by rw [HR.out]; rfl, by rw [HR.out]; exact sl_nil _ _, HK1.out, Nat.zero_le _, fun y hy => by cases hy⟩
  | true =>
    have HG : Hid (goodG N E = true) := hg
    have hN := good_N hg
    have hm : m ≤ 900 := by have := good_len hg; omega
    obtain ⟨k0, rfl⟩ : ∃ k0 : Nat, N = k0 := ⟨N.toNat, by omega⟩
    have HO0 : Hid (orderT k0 E = ordF k0 E k0 []) := by unfold Hid orderT; rw [if_pos hg, Int.toNat_natCast]
    have hmk := made_cap V1 k0 (by omega)
    have hrow := heap_alloc_new V1 (rowI (List.replicate k0 0))
    have KM := kept_al V1 (rowI (List.replicate k0 0))
    have HA0 := app_cap V1 k0 (by omega)
    obtain ⟨bm, hbm⟩ : ∃ bm, V1.heap.size = bm := ⟨_, rfl⟩
    rw [hbm] at HA0 hmk
    have hz1 : (V1.alloc (rowI (List.replicate k0 0))).heap.size = bm + 1 := by simp [hbm]
    have KH := kept_al (V1.alloc (rowI (List.replicate k0 0))) (hdO (some ⟨bm, 0, none⟩) 0 k0)
    have hH := heap_alloc_new (V1.alloc (rowI (List.replicate k0 0))) (hdO (some ⟨bm, 0, none⟩) 0 k0)
    rw [hz1] at hH
    have HA := Lib.hid (KH.only.app HA0 (by simp))
    have HH := Lib.hid hH
    have HBX := Lib.hid ((KM.trans KH).only.heap HB1.out (by simp))
    have HKX := Lib.hid (HK1.out.trans (KM.trans KH))
    clear hg KM KH hH HA0 hrow
    go_upto_region 4 with fail
    have hlit : (Obj.cells #[.slice (some ⟨bm, 0, none⟩) 0 k0] 29) = hdO (some ⟨bm, 0, none⟩) 0 k0 := rfl
    rw [hlit]
    clear hlit hmk hz1 b0 b1
    generalize World.alloc (World.alloc V1 _) _ = X at *
    have hXz := lt_heap HH.out
    have c0 := at_cell HBX.out 0 (.int .i64 (k0 : Nat)) rfl
    have hwb : w.heap.size ≤ bm := by have := HK1.out.size; omega
    have hxm : bx < bm := by omega
    go_wp2_with fail
    clear c0
    go_loopw [16] (fun v wr => ∃ (j : Nat) (out : List Int) (a' : Option Addr) (c' : Nat) (g : Option Nat), v = .int .i64 (j : Nat) ∧ j ≤ k0 ∧ out.length = j ∧ Hid (orderT k0 E = ordF k0 E (k0 - j) out) ∧ Hid (wr.heap[bm + 1]? = some (hdO a' j c')) ∧ Hid (App wr 3 1 (.slice a' j c') j g (ivs out)) ∧ Hid (wr.heap[bx]? = some (.cells #[.int .i64 (k0 : Nat), .slice s m c] 24 (0, 0))) ∧ Hid (Kept w wr) ∧ Hid (∀ k ∈ g.toList, k = bm ∨ bm + 1 < k)) (fun v _ => k0 - (intOf v).toNat)
    case atStart => exact ⟨0, [], _, k0, some bm, rfl, by omega, rfl, HO0.out, HH.out, HA.out, HBX.out, HKX.out, by intro k hk; simp at hk; omega⟩
    case round =>
      obtain ⟨j, out, a', c', g, rfl, hj, hol, HO, HHd, HAp, HBg, HK, HGb⟩ := hrel
      have hSo := app_sl HAp.out
      have HSo := Lib.hid hSo
      have hoc := hSo.2.1
      clear hSo
      by_cases hlt : j < k0
      · have hlt' : (j : Int) < k0 := by omega
        have c0 := at_cell HBg.out 0 (.int .i64 (k0 : Nat)) rfl
        have HO2 : Hid (orderT k0 E = if lowU (rdyT k0 E out) k0 k0 < 0 then none else ordF k0 E (k0 - (j + 1)) (out ++ [lowU (rdyT k0 E out) k0 k0])) := by
          unfold Hid
          rw [HO.out, show k0 - j = (k0 - (j + 1)) + 1 by omega, ordF, Int.toNat_natCast]
        have HRd := Lib.hid (rdyT_eq k0 E out)
        obtain ⟨p, hp⟩ : ∃ p, rdyT (k0 : Int) E out = p := ⟨_, rfl⟩
        rw [hp] at HO2 HRd
        have hz1 : ((k0 : Int) - 1 - ((k0 : Int) - 1)).toNat = 0 := by omega
        clear hp HO
        go_wp2_with fail
        clear c0
        go_loopw [5, 6] (fun v5 v6 wx => ∃ (z : Int), v6 = .int .i64 z ∧ -1 ≤ z ∧ z < k0 ∧ v5 = .int .i64 (lowU p k0 (k0 - 1 - z).toNat) ∧ Hid (Kept wr wx)) (fun _ v6 _ => (intOf v6 + 1).toNat)
        case atStart => exact ⟨(k0 : Int) - 1, by go_num, by omega, by omega, by rw [hz1]; rfl, Kept.refl _⟩
        case round =>
          obtain ⟨z, rfl, hz1, hz2, rfl, HKx⟩ := hrel
          have HBx := Lib.hid (HKx.out.only.heap HBg.out (by simp))
          have HHx := Lib.hid (HKx.out.only.heap HHd.out (by simp))
          have HSx := Lib.hid (HKx.out.sl HSo.out)
          have c0 := at_cell HBx.out 0 (.int .i64 (k0 : Nat)) rfl
          have c1 := at_cell HBx.out 1 (.slice s m c) rfl
          by_cases hz : 0 ≤ z
          · have HA := Lib.hid (g_ahead (k0 : Int) z (HE.out.kept (HK.out.trans HKx.out)) hm)
            have HSt := Lib.hid (lowU_step p k0 z hz hz2)
            have HP := Lib.hid (HRd.out z)
            go_wp2_with fail
            refine HA.out.mono ?_
            rintro E2 V2 ⟨ba, bk, bc, rfl, hSb, hK2, hbm2, -⟩
            have HSb := Lib.hid hSb
            have HK2 := Lib.hid (HKx.out.trans hK2)
            have hd0 := at_cell (hK2.only.heap HHx.out (by simp)) 0 (.slice a' j c') rfl
            have HC := Lib.hid (t_anynot hSb (by omega) (hK2.sl HSx.out) (by omega) hd0)
            obtain ⟨q, hq⟩ : ∃ q, ((besL k0 E z 1).any fun x => !hasI out x) = q := ⟨_, rfl⟩
            rw [hq] at HC HP
            clear hSb hK2 HA c0 c1 hq
            go_wp2_with fail
            refine HC.out.mono ?_
            rintro E3 V3 ⟨rfl, hK3⟩
            have HK3 := Lib.hid (HK2.out.trans hK3)
            replace hd0 := hK3.cel hd0
            clear hK3 HC
            have hz3 : (k0 : Int) - 1 - (z - 1) = (k0 : Int) - 1 - z + 1 := by omega
            cases q with
            | true =>
              have HP2 : Hid (p z = false) := HP.out
              have HS2 : Hid (lowU p k0 (k0 - 1 - (z - 1)).toNat = lowU p k0 (k0 - 1 - z).toNat) := by unfold Hid; rw [HSt.out, if_neg (by rw [HP2.out]; simp)]
              clear hz3
              go_wp2_with fail
              go_roundw
              case rel => exact ⟨z - 1, rfl, by omega, by omega, by rw [HS2.out], HK3.out⟩
              case measure => simp [intOf]; omega
            | false =>
              have HC2 := Lib.hid (t_cont z ((HK3.out.sl HSo.out)) (by omega))
              have HP2 : Hid (p z = !hasI out z) := HP.out
              clear hz3
              go_wp2_with fail
              refine HC2.out.mono ?_
              rintro E4 V4 ⟨rfl, hK4⟩
              have HK4 := Lib.hid (HK3.out.trans hK4)
              clear hK4 HC2 hd0
              cases hh : hasI out z with
              | true =>
                rw [hh] at HP2
                have HS2 : Hid (lowU p k0 (k0 - 1 - (z - 1)).toNat = lowU p k0 (k0 - 1 - z).toNat) := by unfold Hid; rw [HSt.out, if_neg (by rw [HP2.out]; simp)]
                clear hh
                go_wp2_with fail
                go_roundw
                case rel => exact ⟨z - 1, rfl, by omega, by omega, by rw [HS2.out], HK4.out⟩
                case measure => simp [intOf]; omega
              | false =>
                rw [hh] at HP2
                have HS2 : Hid (lowU p k0 (k0 - 1 - (z - 1)).toNat = z) := by unfold Hid; rw [HSt.out, if_pos (by rw [HP2.out]; rfl)]
                clear hh
                go_wp2_with fail
                go_roundw
                case rel => exact ⟨z - 1, rfl, by omega, by omega, by rw [HS2.out], HK4.out⟩
                case measure => simp [intOf]; omega
          · have hze : ((k0 : Int) - 1 - z).toNat = k0 := by omega
            rw [hze]
            have hlow : -1 ≤ lowU p k0 k0 ∧ lowU p k0 k0 < k0 := by
              rcases lowU_spec p k0 k0 (Nat.le_refl _) with ⟨h1, _⟩ | ⟨q, h1, _, h2, _⟩ <;> omega
            obtain ⟨lo, hlo⟩ : ∃ lo, lowU p k0 k0 = lo := ⟨_, rfl⟩
            rw [hlo] at HO2 hlow ⊢
            have HK2 := Lib.hid (HK.out.trans HKx.out)
            have HAx := Lib.hid (HKx.out.only.app HAp.out (by simp))
            clear hlo hze c1
            by_cases hl : lo < 0
            · rw [if_pos hl] at HO2
              go_wp2_with fail
              exact bodyPost_ret (v := .tuple #[.slice none 0 0, .bool false]) (by simp [results, Try.results12, go_sem]) rfl ⟨none, 0, 0, by rw [HO2.out]; rfl, by rw [HO2.out]; exact sl_nil _ _, HK2.out, Nat.zero_le _, fun y hy => by cases hy⟩
            · rw [if_neg hl] at HO2
              have KL := kept_al wr (.cells #[.int .i64 lo] 3)
              have HAL := Lib.hid (KL.only.app HAx.out (by simp))
              have HKL := Lib.hid (HK2.out.trans KL)
              have HHL := Lib.hid (KL.only.heap HHx.out (by simp))
              have HBL := Lib.hid (KL.only.heap HBx.out (by simp))
              have h0 := at_cell HHx.out 0 (.slice a' j c') rfl
              have HSrc := Lib.hid (src_block (P := Try.prog) (size := 1) Try.underlying29 (heap_alloc_new wr (.cells #[.int .i64 lo] 3)) 1 1 rfl (by simp [Value.oneCell']))
              have hwz := lt_heap HHx.out
              have hg0 : bm + 1 ∉ g.toList := fun hm => by have := HGb.out _ hm; omega
              have hg9 : bx ∉ g.toList := fun hm => by have := HGb.out _ hm; omega
              clear KL c0
              go_wp2_with (at_builtin; refine wpList_app rfl (.tmp 41) (.tmp 43) 29 29 rfl elemI _ j _ _ rfl HAL.out _ 1 _ rfl HSrc.out (by omega) (by unfold maxLen; omega) ?_; intro a5 c5 g5 w5 hA5 hO5 hG5; have HA5 := Lib.hid hA5; have HO5 := Lib.hid hO5; have HG5 := Lib.hid hG5; have P2 := hO5.heap HHL.out hg0; have p1 := at_cell P2 0 _ rfl; have p2 := one_free P2 0; have HP2 := Lib.hid P2; clear hA5 hO5 hG5 P2)
              have hg1 : ∀ i ∈ g5.toList, i = bm ∨ bm + 1 < i := by
                intro i hi
                rcases HG5.out with h | h
                · rw [h] at hi; exact HGb.out i hi
                · rw [h] at hi; simp at hi hwz; omega
              have S0 : Only [bm + 1] w5 (w5.setCell ⟨bm + 1, 0, none⟩ (.slice a5 (j + 1) c5)) := (Only.refl _ _).setCell (fun _ => by simp) _
              have R2 := at_set HP2.out 0 (.slice a5 (j + 1) c5)
              have RB := S0.heap (HO5.out.heap HBL.out hg9) (by simp; omega)
              have RA := S0.app HA5.out (by intro k hk hm; have := hg1 k (by rw [hk]; simp); simp at hm; omega)
              have RK : Kept w _ := (HKL.out.onl HO5.out (by intro i hi; have := HGb.out i hi; omega)).onl S0 (by intro i hi; simp at hi; omega)
              go_roundw
              case rel => exact ⟨j + 1, out ++ [lo], a5, c5, g5, by go_num, by omega, by simp [hol], HO2.out, R2, by rw [ivs_app]; exact RA, RB, RK, hg1⟩
              case measure => simp [intOf]; omega
      · have hge : (k0 : Int) ≤ j := by omega
        obtain rfl : j = k0 := by omega
        have h0 := at_cell HHd.out 0 (.slice a' j c') rfl
        have HR : Hid (orderT j E = some out) := by unfold Hid; rw [HO.out, Nat.sub_self]; rfl
        have HNew : Hid (∀ y, a' = some y → w.heap.size ≤ y.block) := fun y hy => by
          subst hy
          have h1 := HGb.out y.block (by rw [app_blkI HAp.out]; simp)
          omega
        go_wp2_with fail
        exact bodyPost_ret (v := .tuple #[.slice a' j c', .bool true]) (by simp [results, Try.results12, go_sem]) rfl ⟨a', j, c', by rw [HR.out]; rfl, by rw [HR.out]; exact HSo.out, HK.out, by omega, HNew.out⟩
end Go.Proofs.Ytmejphlpcgochaa
