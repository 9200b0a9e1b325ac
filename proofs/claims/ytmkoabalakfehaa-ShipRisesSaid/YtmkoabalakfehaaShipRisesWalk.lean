/- ShipRises: what is known to be sure there never falls, and is never above the end. -/
import Derived.Test.YtmkoabalakfehaaShipRises
set_option linter.unusedVariables false
set_option linter.unusedSimpArgs false
namespace Go.Proofs.Ytmkoabalakfehaa
open Go.RowKit
set_option maxRecDepth 100000 in
set_option maxHeartbeats 8000000 in
theorem shRises_walk (a : Option Addr) (n c : Nat) (T : List Int) (E : Int) (bb : Option Addr) (m d : Nat) (l : List (MV × List (Int × Nat) × List Int)) (w : World) (hT : Sl .u64 w a n c T) (wT : IsW T) (hM : SlMs w bb m d l) (hn : n ≤ 40) (hm : m ≤ 30) (hg : GoodT T E) (hE : E ≤ 17592186044415) (hE0 : 0 ≤ E) :
    Calls Try.prog 3 #[.agg #[.slice a n c, .int .i64 E], .slice bb m d] w fun e w' => e = .returned (.bool true) ∧ Kept w w' := by
  have HT := Lib.hid hT
  have HM := Lib.hid hM
  have hml := hM.1
  have hmc := hM.2.1
  have hmm := hM.2.2.1
  have hnc := hT.2.1
  have hnm := hT.2.2.1
  unfold maxLen at hmm hnm
  have hnI : (n : Int) ≤ 40 := by omega
  have hmI : (m : Int) ≤ 30 := by omega
  have HE := run_neqSV
  have hz : svEq 0 0 0 0 0 0 0 0 = true := by decide
  have KX := kept_al w (.cells #[.slice a n c, .int .i64 E] 24)
  have htb := two_cells (heap_alloc_new w (.cells #[.slice a n c, .int .i64 E] 24))
  have HCt : Hid (∀ V, Kept (w.alloc (.cells #[.slice a n c, .int .i64 E] 24)) V → V.cell? ⟨w.heap.size, 0, none⟩ = some (.slice a n c) ∧ V.cell? ⟨w.heap.size, 1, none⟩ = some (.int .i64 E)) := fun V kk => ⟨kk.cel htb.1, kk.cel htb.2⟩
  clear hT hM htb
  go_enter Try.func3, Try.ntmps3
  go_wp2_with fail
  generalize hX : w.alloc (.cells #[.slice a n c, .int .i64 E] 24) = X at *
  refine (awake23 _).mono ?_
  rintro e w1 ⟨rfl, K1⟩
  obtain ⟨c0, c1⟩ := HCt.out _ K1
  have HG := Lib.hid (ep_good a n c T E w1 ((KX.trans K1).sl HT.out) wT)
  rw [decide_eq_true hg] at HG
  go_wp2_with fail
  refine HG.out.mono ?_
  rintro e w2 ⟨rfl, K2⟩
  clear c0 c1 HG
  obtain ⟨c0, c1⟩ := HCt.out _ (K1.trans K2)
  go_wp2_with fail
  refine (ship_new_yes 0 3 E w2 (.inl rfl) (by omega) (by omega) hE0 hE).mono ?_
  rintro e w3 ⟨rfl, K3⟩
  clear c0 c1
  have KX3 := (K1.trans K2).trans K3
  have Kw3 := KX.trans KX3
  unfold SV.v
  go_wp2_with fail
  have hb5 := heap_alloc_new w3 (.cells #[.int .i64 0, .int .i64 3, .int .i64 E, .int .i64 0] 29)
  have hsz5 : w3.heap.size < (w3.alloc (.cells #[.int .i64 0, .int .i64 3, .int .i64 E, .int .i64 0] 29)).heap.size := by simp
  have K5 := kept_al w3 (.cells #[.int .i64 0, .int .i64 3, .int .i64 E, .int .i64 0] 29)
  have HB5 := Lib.hid hb5
  clear hb5
  generalize World.alloc w3 _ = W5 at *
  go_loopw [7] (fun i wr => ∃ (j : Nat) (nx ak : Int), i = .int .i64 j ∧ j ≤ m ∧ 0 ≤ nx ∧ nx ≤ E ∧ ak ≤ E ∧ Hid (wr.heap[w3.heap.size]? = some (.cells #[.int .i64 0, .int .i64 3, .int .i64 nx, .int .i64 ak] 29 (0, 0))) ∧ Kept w3 wr) (fun i _ => m - (intOf i).toNat)
  case atStart => exact ⟨0, E, 0, rfl, by omega, hE0, by omega, hE0, HB5.out, K5⟩
  case round =>
    obtain ⟨j, nx, ak, rfl, hj, n0, n1, k1, HB, Kj⟩ := hrel
    by_cases hlt : j < m
    · have hlt' : (j : Int) < m := by omega
      obtain ⟨⟨mv, L, T2⟩, hsl⟩ : ∃ x, l[j]? = some x := ⟨_, List.getElem?_eq_getElem (by omega)⟩
      obtain ⟨hL, hT2, wT2, b, ob, rfl, hcs⟩ := (HM.out.kept (Kw3.trans Kj)).2.2.2 j _ hsl
      dsimp only at hL hT2 wT2 hcs
      have HHv := Lib.hid (sh_heavy mv L wr hL hT2.2.1 hT2.2.2.1)
      have HTk := Lib.hid (fun V (kk : Kept wr V) (hln : mv.ln ≤ 12) => ship_take ⟨0, 3, nx, ak⟩ a n c T E mv L T2 V (((Kw3.trans Kj).trans kk).sl HT.out) wT (hL.kept kk) (kk.sl hT2) wT2 (by omega))
      have hbd := takeS_bd nx ak E T mv L T2 hg n0 n1 k1
      obtain ⟨⟨⟨rw0, re, rn, ra⟩, er⟩, hR⟩ : ∃ r, takeS ⟨0, 3, nx, ak⟩ (decide (GoodT T E)) (goodM mv L T2) E mv (meetI T E T2 mv.te) = r := ⟨_, rfl⟩
      rw [hR] at HTk hbd
      clear hR hsl hL hT2 wT2
      obtain ⟨k, f, t, e, o, p, la, ln, lc, ta, tn, tc, te⟩ := mv
      unfold SV.v at HTk
      unfold MV.cs at HTk HHv hcs
      dsimp only at HTk HHv hcs hbd
      have y0 := hcs 0 _ rfl
      have y1 := hcs 1 _ rfl
      have y2 := hcs 2 _ rfl
      have y3 := hcs 3 _ rfl
      have y4 := hcs 4 _ rfl
      have y5 := hcs 5 _ rfl
      have y6 := hcs 6 _ rfl
      have y7 := hcs 7 _ rfl
      have y8 := hcs 8 _ rfl
      clear hcs
      simp only [Nat.add_zero] at y0
      have HC : Hid (∀ Z, Kept wr Z → Z.cell? ⟨w3.heap.size, 0, none⟩ = some (.int .i64 0) ∧ Z.cell? ⟨w3.heap.size, 1, none⟩ = some (.int .i64 3) ∧ Z.cell? ⟨w3.heap.size, 2, none⟩ = some (.int .i64 nx) ∧ Z.cell? ⟨w3.heap.size, 3, none⟩ = some (.int .i64 ak) ∧ Z.cell? ⟨w.heap.size, 0, none⟩ = some (.slice a n c) ∧ Z.cell? ⟨w.heap.size, 1, none⟩ = some (.int .i64 E) ∧ Z.cell? ⟨b, ob + j * 9, none⟩ = some (.int .i64 k) ∧ Z.cell? ⟨b, ob + j * 9 + 1, none⟩ = some (.int .i64 f) ∧ Z.cell? ⟨b, ob + j * 9 + 2, none⟩ = some (.int .i64 t) ∧ Z.cell? ⟨b, ob + j * 9 + 3, none⟩ = some (.int .i64 e) ∧ Z.cell? ⟨b, ob + j * 9 + 4, none⟩ = some (.int .i64 o) ∧ Z.cell? ⟨b, ob + j * 9 + 5, none⟩ = some (.int .i64 p) ∧ Z.cell? ⟨b, ob + j * 9 + 6, none⟩ = some (.slice la ln lc) ∧ Z.cell? ⟨b, ob + j * 9 + 7, none⟩ = some (.slice ta tn tc) ∧ Z.cell? ⟨b, ob + j * 9 + 8, none⟩ = some (.int .i64 te)) := fun Z kk => by
        obtain ⟨z0, z1, z2, z3⟩ := four_cells (kk.only.heap HB.out (by simp))
        obtain ⟨t0, t1⟩ := HCt.out _ ((KX3.trans Kj).trans kk)
        exact ⟨z0, z1, z2, z3, t0, t1, kk.cel y0, kk.cel y1, kk.cel y2, kk.cel y3, kk.cel y4, kk.cel y5, kk.cel y6, kk.cel y7, kk.cel y8⟩
      go_wp2_with fail
      refine HHv.out.mono ?_
      rintro e1 V0 ⟨hv, K0⟩
      rcases hv with rfl | ⟨rfl, h12⟩
      · go_wp2
        go_ret
        exact ⟨rfl, (Kw3.trans Kj).trans K0⟩
      · clear y0 y1 y2 y3 y4 y5 y6 y7 y8 HHv
        obtain ⟨x0,x1,x2,x3,x4,x5,x6,x7,x8,x9,x10,x11,x12,x13,x14⟩ := HC.out _ K0
        go_wp2_with fail
        clear x0 x1 x2 x3 x4 x5 x6 x7 x8 x9 x10 x11 x12 x13 x14
        have HT2k := Lib.hid (fun V kk => HTk.out V (K0.trans kk) h12)
        have HC0 := Lib.hid (fun V (kk : Kept V0 V) => HC.out V (K0.trans kk))
        have HBv := Lib.hid (K0.only.heap HB.out (by simp))
        have hp5 : w3.heap.size < V0.heap.size := lt_heap HBv.out
        have KV0 := Kj.trans K0
        clear HTk HC K0 HB Kj
        go_cut [8, 9] from 50 to 99 (fun p e wx => e = .int .i64 er ∧ Kept V0 wx ∧ ∃ q, p = .pointer (some ⟨q, 0, none⟩) ∧ V0.heap.size ≤ q ∧ wx.heap[q]? = some (.cells #[.int .i64 rw0, .int .i64 re, .int .i64 rn, .int .i64 ra] 29 (0, 0)))
        case first =>
          have KD : Kept V0 V0.drew := (Kept.refl _).dr ⟨1, rfl⟩
          have gN0 : ∀ (V : World) (a b c d : Value), (V.alloc (.cells #[a, b, c, d] 29)).cell? ⟨V.heap.size, 0, none⟩ = some a := fun V a b c d => (four_cells (heap_alloc_new V _)).1
          have gN1 : ∀ (V : World) (a b c d : Value), (V.alloc (.cells #[a, b, c, d] 29)).cell? ⟨V.heap.size, 1, none⟩ = some b := fun V a b c d => (four_cells (heap_alloc_new V _)).2.1
          have gN2 : ∀ (V : World) (a b c d : Value), (V.alloc (.cells #[a, b, c, d] 29)).cell? ⟨V.heap.size, 2, none⟩ = some c := fun V a b c d => (four_cells (heap_alloc_new V _)).2.2.1
          have gN3 : ∀ (V : World) (a b c d : Value), (V.alloc (.cells #[a, b, c, d] 29)).cell? ⟨V.heap.size, 3, none⟩ = some d := fun V a b c d => (four_cells (heap_alloc_new V _)).2.2.2
          have gF : ∀ (V : World) (a b c d : Value) (j : Nat), (V.alloc (.cells #[a, b, c, d] 29)).frozen? ⟨V.heap.size, j, none⟩ = false := fun V a b c d j => one_free (heap_alloc_new V _) j
          go_region_held3 (fun Z => Z.cell? ⟨w3.heap.size, 0, none⟩ = some (.int .i64 0) ∧ Z.cell? ⟨w3.heap.size, 1, none⟩ = some (.int .i64 3) ∧ Z.cell? ⟨w3.heap.size, 2, none⟩ = some (.int .i64 nx) ∧ Z.cell? ⟨w3.heap.size, 3, none⟩ = some (.int .i64 ak) ∧ Z.cell? ⟨w.heap.size, 0, none⟩ = some (.slice a n c) ∧ Z.cell? ⟨w.heap.size, 1, none⟩ = some (.int .i64 E) ∧ Z.cell? ⟨b, ob + j * 9, none⟩ = some (.int .i64 k) ∧ Z.cell? ⟨b, ob + j * 9 + 1, none⟩ = some (.int .i64 f) ∧ Z.cell? ⟨b, ob + j * 9 + 2, none⟩ = some (.int .i64 t) ∧ Z.cell? ⟨b, ob + j * 9 + 3, none⟩ = some (.int .i64 e) ∧ Z.cell? ⟨b, ob + j * 9 + 4, none⟩ = some (.int .i64 o) ∧ Z.cell? ⟨b, ob + j * 9 + 5, none⟩ = some (.int .i64 p) ∧ Z.cell? ⟨b, ob + j * 9 + 6, none⟩ = some (.slice la ln lc) ∧ Z.cell? ⟨b, ob + j * 9 + 7, none⟩ = some (.slice ta tn tc) ∧ Z.cell? ⟨b, ob + j * 9 + 8, none⟩ = some (.int .i64 te)) (first | exact HC0.out _ KD | exact HC0.out _ (KD.trans (kept_al _ _)) | exact HC0.out _ (KD.onl (only_set4 _ _ _ _ _ _) (by intro i hi; have := List.mem_singleton.1 hi; omega))) ((go_at_call 11; refine (HT2k.out _ (by first | exact KD | exact KD.trans (kept_al _ _))).mono ?_; rintro e V2 ⟨rfl, J⟩; have KE : Kept V0 V2 := (by first | exact KD.trans J | exact (KD.trans (kept_al _ _)).trans J); (first | (have hb : V2.heap[V0.heap.size]? = some (.cells #[.int .i64 0, .int .i64 0, .int .i64 0, .int .i64 0] 29 (0, 0)) := J.only.heap (heap_alloc_new V0.drew (.cells #[.int .i64 0, .int .i64 0, .int .i64 0, .int .i64 0] 29)) (by simp); have hbs : V0.heap.size ≤ V0.heap.size := Nat.le_refl _; have r0 : V2.cell? ⟨V0.heap.size, 0, none⟩ = some (.int .i64 0) := at_cell hb 0 _ rfl; have f0 : V2.frozen? ⟨V0.heap.size, 0, none⟩ = false := one_free hb 0; have r1 : V2.cell? ⟨V0.heap.size, 1, none⟩ = some (.int .i64 0) := at_cell hb 1 _ rfl; have f1 : V2.frozen? ⟨V0.heap.size, 1, none⟩ = false := one_free hb 1; have r2 : V2.cell? ⟨V0.heap.size, 2, none⟩ = some (.int .i64 0) := at_cell hb 2 _ rfl; have f2 : V2.frozen? ⟨V0.heap.size, 2, none⟩ = false := one_free hb 2; have r3 : V2.cell? ⟨V0.heap.size, 3, none⟩ = some (.int .i64 0) := at_cell hb 3 _ rfl; have f3 : V2.frozen? ⟨V0.heap.size, 3, none⟩ = false := one_free hb 3; have HBq := Lib.hid hb; clear hb) | skip); clear KD J; have KD := KE; clear KE))
          all_goals (first | (go_wp2_with fail; done) | skip)
          all_goals (first | go_meet | (go_wp2_with fail; go_meet))
          · exact ⟨rfl, KD.trans (kept_al V2 _), V2.heap.size, rfl, KD.size, heap_alloc_new V2 _⟩
          · exact ⟨rfl, KD.onl (only_set4 V2 V0.heap.size (.int .i64 rw0) (.int .i64 re) (.int .i64 rn) (.int .i64 ra)) (by intro i hi; have := List.mem_singleton.1 hi; omega), V0.heap.size, rfl, Nat.le_refl _, four_set HBq.out (.int .i64 rw0) (.int .i64 re) (.int .i64 rn) (.int .i64 ra)⟩
        case rest =>
          obtain ⟨rfl, kk, q, rfl, hq, hbq⟩ := hcut
          rcases hbd with ⟨he, h0⟩ | ⟨nx', ak', h0, b1, b2, b3, b4⟩
          · simp only [SV.mk.injEq] at h0
            obtain ⟨rfl, rfl, rfl, rfl⟩ := h0
            obtain ⟨d0, d1, d2, d3⟩ := four_cells hbq
            clear hbq
            have hres : ∃ (j' : Nat) (nx' ak' : Int), (Value.int .i64 (j + 1 : Int)) = .int .i64 j' ∧ j' ≤ m ∧ 0 ≤ nx' ∧ nx' ≤ E ∧ ak' ≤ E ∧ Hid (wc.heap[w3.heap.size]? = some (.cells #[.int .i64 0, .int .i64 3, .int .i64 nx', .int .i64 ak'] 29 (0, 0))) ∧ Kept w3 wc := ⟨j + 1, nx, ak, by go_num, by omega, n0, n1, k1, Lib.hid (kk.only.heap HBv.out (by simp)), KV0.trans kk⟩
            have HR := Lib.hid hres
            clear hres
            go_wp2
            go_roundw
            case rel => exact HR.out
            case measure => simp [intOf]; omega
          · simp only [Prod.mk.injEq, SV.mk.injEq] at h0
            obtain ⟨⟨rfl, rfl, rfl, rfl⟩, rfl⟩ := h0
            have hbv := kk.only.heap HBv.out (by simp)
            have Hbv := Lib.hid hbv
            obtain ⟨d0, d1, d2, d3⟩ := four_cells hbq
            obtain ⟨x0,x1,x2,x3,x4,x5,x6,x7,x8,x9,x10,x11,x12,x13,x14⟩ := HC0.out _ kk
            have f0 : wc.frozen? ⟨w3.heap.size, 0, none⟩ = false := one_free hbv 0
            have f1 : wc.frozen? ⟨w3.heap.size, 1, none⟩ = false := one_free hbv 1
            have f2 : wc.frozen? ⟨w3.heap.size, 2, none⟩ = false := one_free hbv 2
            have f3 : wc.frozen? ⟨w3.heap.size, 3, none⟩ = false := one_free hbv 3
            clear hbq hbv x6 x7 x8 x9 x10 x11 x12 x13 x14
            go_wp2
            go_roundw
            case rel => exact ⟨j + 1, rn, ra, by go_num, by omega, b3, b4, b2, Lib.hid (four_set Hbv.out (.int .i64 0) (.int .i64 3) (.int .i64 rn) (.int .i64 ra)), (KV0.trans kk).onl (only_set4 wc w3.heap.size (.int .i64 0) (.int .i64 3) (.int .i64 rn) (.int .i64 ra)) (by intro i hi; have := List.mem_singleton.1 hi; omega)⟩
            case measure => simp [intOf]; omega
    · have hge : (m : Int) ≤ j := by omega
      obtain rfl : j = m := by omega
      go_wp2
      go_ret
      exact ⟨rfl, Kw3.trans Kj⟩
end Go.Proofs.Ytmkoabalakfehaa
