/- BagPlays: the walk. -/
import Derived.Test.YtnnjflljlooifaaBagOrderWalk
import Derived.Test.YtnnjflljlooifaaBagWant
import Derived.Test.YtnnjflljlooifaaBagPlays0
import Derived.Test.YtnnjflljlooifaaBagPlays1
import Derived.Test.YtnnjflljlooifaaBagPlays2
import Derived.Test.YtnnjflljlooifaaBagPlays3
import Derived.Deep.CutRange
import Derived.Deep.CutBlock
set_option linter.unusedVariables false
set_option linter.unusedSimpArgs false
namespace Go.Proofs.Ytnnjflljlooifaa
open Go.RowKit
theorem toL_len (who : Int) : ∀ (A : List (Int × Int)) (k : Nat), (toL who k A).length = A.countP (fun x => decide (x.2 = who))
  | [], k => rfl
  | x :: r, k => by
    have := toL_len who r (k + 1)
    unfold toL
    by_cases h : x.2 = who
    · rw [if_pos h, List.length_cons, this, List.countP_cons_of_pos (by simp [h])]
    · rw [if_neg h, this, List.countP_cons_of_neg (by simp [h])]
theorem count_both : ∀ (A : List (Int × Int)), (∀ x ∈ A, AckTo x) → A.countP (fun x => decide (x.2 = 1)) + A.countP (fun x => decide (x.2 = 0)) = A.length
  | [], _ => rfl
  | x :: r, h => by
    have := count_both r fun y hy => h y (List.mem_cons_of_mem _ hy)
    rcases h x (List.mem_cons_self ..) with h0 | h1
    · rw [List.countP_cons_of_neg (by simp [h0]), List.countP_cons_of_pos (by simp [h0]), List.length_cons]; omega
    · rw [List.countP_cons_of_pos (by simp [h1]), List.countP_cons_of_neg (by simp [h1]), List.length_cons]; omega
set_option maxRecDepth 100000 in
set_option maxHeartbeats 16000000 in
theorem bagPlays_walk (a : Option Addr) (len c : Nat) (L : List (Int × Int × Int)) (w : World) (hS : Acts w a len c L) :
    Calls Try.prog 5 #[.slice a len c] w fun e w' => e = .returned (.bool true) ∧ Kept w w' := by
  have HS := Lib.hid hS
  have hlc := hS.2.1
  have hcm := hS.2.2.1
  have hLl := hS.1
  clear hS
  go_enter Try.func5, Try.ntmps5
  go_wp2_with fail
  refine (awake24 _).mono ?_
  rintro E w1 ⟨rfl, K⟩
  by_cases hbig : 100 < len
  · have hbig' : (100 : Int) < len := by omega
    go_wp2
    go_ret
    exact ⟨rfl, K⟩
  have hbig' : ¬ (100 : Int) < len := by omega
  go_wp2_with fail
  refine (bag_new _).mono ?_
  rintro E X ⟨rfl, hB, K1⟩
  obtain ⟨p, hp⟩ : ∃ p, w1.heap.size = p := ⟨_, rfl⟩
  rw [hp] at hB ⊢
  have hpw : w.heap.size ≤ p := by have := K.size; omega
  have KX := K.trans K1
  clear K1
  have HB := Lib.hid hB
  clear hB
  go_wp2_with fail
  go_loopw [4, 5] (fun sl i wr => ∃ (j : Nat) (g : Option Nat) (A : List (Int × Int)) (m : Nat) (aw : Option Addr) (cw : Nat) (gw : Option Nat), sl = .slice aw m cw ∧ i = .int .i64 (j : Nat) ∧ j ≤ len ∧ m ≤ 64 ∧ Hid (A.length = m) ∧ Hid (BagW X wr p g A) ∧ Hid (App wr 33 9 (.slice aw m cw) m gw (wantV A))) (fun _ i _ => len - (intOf i).toNat)
  case atStart => exact ⟨0, none, [], 0, none, 0, none, rfl, rfl, by omega, by omega, rfl, HB.out, app_nil _ _ _⟩
  case round =>
    obtain ⟨j, g, A, m, aw, cw, gw, rfl, rfl, hj, hm, HAl, HBj, HW⟩ := hrel
    have KW := HBj.out.kept KX hpw
    by_cases hlt : j < len
    · have hlt' : (j : Int) < len := by omega
      obtain ⟨⟨op, ix, n⟩, hx⟩ : ∃ x, L[j]? = some x := ⟨_, List.getElem?_eq_getElem (by omega)⟩
      obtain ⟨⟨i0, i1⟩, ⟨n0, n1⟩, b, o, rfl, d0', d1', d2'⟩ := HS.out.2.2.2 j _ hx
      dsimp only at i0 i1 n0 n1 d0' d1' d2'
      have d0 := KW.cel d0'
      have d1 := KW.cel d1'
      have d2 := KW.cel d2'
      clear d0' d1' d2' hx
      obtain ⟨hwc, hwm⟩ := want_cap HW.out
      have h6 := heap_alloc_new wr (.cells #[.int .i64 op, .int .i64 ix, .int .i64 n] 47)
      have K6 := kept_al wr (.cells #[.int .i64 op, .int .i64 ix, .int .i64 n] 47)
      go_upto_region 11 with fail
      clear d0 d1 d2
      have HBx := Lib.hid (HBj.out.keep K6)
      have HWx := Lib.hid (K6.only.app HW.out (by simp))
      obtain ⟨qa, hqa⟩ : ∃ q, wr.heap.size = q := ⟨_, rfl⟩
      have hqX : X.heap.size ≤ qa := by have := HBj.out.only.size; omega
      have hqn : qa ∉ p :: g.toList := fun hm => by have := HBj.out.lts _ hm; omega
      have hqg : ∀ k, gw = some k → k ≠ qa := fun k hk => by have := HW.out.lt k hk; omega
      rw [hqa] at h6 ⊢
      generalize World.alloc wr _ = Y at *
      have HQ : Hid (∀ V, Only (p :: g.toList) Y V → V.cell? ⟨qa, 0, none⟩ = some (.int .i64 op) ∧ V.cell? ⟨qa, 1, none⟩ = some (.int .i64 ix) ∧ V.cell? ⟨qa, 2, none⟩ = some (.int .i64 n)) := fun V k => ⟨at_cell (k.heap h6 hqn) 0 _ rfl, at_cell (k.heap h6 hqn) 1 _ rfl, at_cell (k.heap h6 hqn) 2 _ rfl⟩
      have KXY := HBx.out.kept KX hpw
      clear h6 hqa K6 KW HBj HW
      go_cut [7] from 24 to 228 (fun t wx => ∃ th : Bool, t = .bool th ∧ Hid (th = decide (0 ≤ ix ∧ ix < m)) ∧ wx = Y)
      case first =>
        obtain ⟨d0, d1, d2⟩ := HQ.out _ (Only.refl _ _)
        by_cases hx0 : 0 ≤ ix
        · by_cases hx1 : ix < m
          · go_wp2_with fail
            go_meet
            case rel => exact ⟨true, rfl, (decide_eq_true ⟨hx0, hx1⟩).symm, rfl⟩
          · go_wp2_with fail
            go_meet
            case rel => exact ⟨false, by first | (simp; done) | (simp; omega), (decide_eq_false (by omega)).symm, rfl⟩
        · go_wp2_with fail
          go_meet
          case rel => exact ⟨false, by first | (simp; done) | (simp; omega), (decide_eq_false (by omega)).symm, rfl⟩
      case rest =>
        obtain ⟨th, rfl, HTh, hw⟩ := hcut
        rw [hw]
        clear hw
        obtain ⟨d0, d1, d2⟩ := HQ.out _ (Only.refl _ _)
        go_upto_block 2 with fail
        go_cut [4] from 24 to 228 (fun sl wx => PlaysAt X p sl wx)
        case first =>
          rename_i J K' hJ hK
          by_cases h0 : op = 0
          · exact plays_op0 HBx HAl HWx hm hwc hwm i0 i1 n0 n1 HQ HTh (by simp [h0]) _ _ _ _ _ _ _ _ _ _ _ _ _ _ _ _ _ _ _ _ _ _ _ _ _ _ _ _ _ _ _ _ _ _ _ _ _ _ _ _ _ _ _ _ _ _ _ _ _ _ _ _ _ _ _ _ _ _ _ _ _ _ _ _ _ _ _ _ _ _ _ _ _ _ _ _ _ _ _ _ _ _ _ _ _ _ _ _ _ _ _ _ _ _ _ _ _ _ _ _ _ _ _ _ _ _ _ _ _ _ _ _ _ _ _ _ _ _ _ _ _ _ _ _ _ _ _ _ _ _ _ _ _ _ _ _ _ _ _ _ _ _ _ _ _ _ _ _ _ _ _ _ _ _ _ _ _ _ _ _ _ _ _ _ _ _ _ _ _ _ _ _ _ _ _ _ _ _ _ _ _ _ _ _ _ _ _ _ _ _ _ _ _ _ _ _ _ _ _ _ _ _ _ _ _ _ _ _ _ _ _ _ _ _ _ _ _ _ _ _ _ _ _ _ J K' _ hJ hK
          · by_cases h1 : op = 1
            · exact plays_op1 HBx HAl HWx hm hwc hwm i0 i1 n0 n1 HQ HTh (by simp [h0]) (by simp [h1]) _ _ _ _ _ _ _ _ _ _ _ _ _ _ _ _ _ _ _ _ _ _ _ _ _ _ _ _ _ _ _ _ _ _ _ _ _ _ _ _ _ _ _ _ _ _ _ _ _ _ _ _ _ _ _ _ _ _ _ _ _ _ _ _ _ _ _ _ _ _ _ _ _ _ _ _ _ _ _ _ _ _ _ _ _ _ _ _ _ _ _ _ _ _ _ _ _ _ _ _ _ _ _ _ _ _ _ _ _ _ _ _ _ _ _ _ _ _ _ _ _ _ _ _ _ _ _ _ _ _ _ _ _ _ _ _ _ _ _ _ _ _ _ _ _ _ _ _ _ _ _ _ _ _ _ _ _ _ _ _ _ _ _ _ _ _ _ _ _ _ _ _ _ _ _ _ _ _ _ _ _ _ _ _ _ _ _ _ _ _ _ _ _ _ _ _ _ _ _ _ _ _ _ _ _ _ _ _ _ _ _ _ _ _ _ _ _ _ _ _ _ _ _ _ J K' _ hJ hK
            · by_cases h2 : op = 2
              · exact plays_op2 HBx HAl HWx hm hwc hwm i0 i1 n0 n1 HQ HTh (by simp [h0]) (by simp [h1]) (by simp [h2]) _ _ _ _ _ _ _ _ _ _ _ _ _ _ _ _ _ _ _ _ _ _ _ _ _ _ _ _ _ _ _ _ _ _ _ _ _ _ _ _ _ _ _ _ _ _ _ _ _ _ _ _ _ _ _ _ _ _ _ _ _ _ _ _ _ _ _ _ _ _ _ _ _ _ _ _ _ _ _ _ _ _ _ _ _ _ _ _ _ _ _ _ _ _ _ _ _ _ _ _ _ _ _ _ _ _ _ _ _ _ _ _ _ _ _ _ _ _ _ _ _ _ _ _ _ _ _ _ _ _ _ _ _ _ _ _ _ _ _ _ _ _ _ _ _ _ _ _ _ _ _ _ _ _ _ _ _ _ _ _ _ _ _ _ _ _ _ _ _ _ _ _ _ _ _ _ _ _ _ _ _ _ _ _ _ _ _ _ _ _ _ _ _ _ _ _ _ _ _ _ _ _ _ _ _ _ _ _ _ _ _ _ _ _ _ _ _ _ _ _ _ _ _ _ J K' _ hJ hK
              · exact plays_op3 HBx HAl HWx hm hwc hwm i0 i1 n0 n1 HQ HTh (by simp [h0]) (by simp [h1]) (by simp [h2]) _ _ _ _ _ _ _ _ _ _ _ _ _ _ _ _ _ _ _ _ _ _ _ _ _ _ _ _ _ _ _ _ _ _ _ _ _ _ _ _ _ _ _ _ _ _ _ _ _ _ _ _ _ _ _ _ _ _ _ _ _ _ _ _ _ _ _ _ _ _ _ _ _ _ _ _ _ _ _ _ _ _ _ _ _ _ _ _ _ _ _ _ _ _ _ _ _ _ _ _ _ _ _ _ _ _ _ _ _ _ _ _ _ _ _ _ _ _ _ _ _ _ _ _ _ _ _ _ _ _ _ _ _ _ _ _ _ _ _ _ _ _ _ _ _ _ _ _ _ _ _ _ _ _ _ _ _ _ _ _ _ _ _ _ _ _ _ _ _ _ _ _ _ _ _ _ _ _ _ _ _ _ _ _ _ _ _ _ _ _ _ _ _ _ _ _ _ _ _ _ _ _ _ _ _ _ _ _ _ _ _ _ _ _ _ _ _ _ _ _ _ _ _ _ J K' _ hJ hK
        case rest =>
          obtain ⟨g', A', m', aw', cw', gw', rfl, hm', HA', HB', HW'⟩ := hcut
          clear HQ HBx HWx HAl HTh d0 d1 d2 i0 i1 n0 n1
          have HL := Lib.hid (bag_len p g' A' wc HB'.out)
          rw [HA'.out] at HL
          go_wp2_with fail
          refine HL.out.mono ?_
          rintro E V ⟨rfl, rfl⟩
          clear HL
          go_wp2_with fail
          go_loopw [14, 15] (fun z kv wq => ∃ (k cnt : Nat), z = .int .i64 (cnt : Nat) ∧ kv = .int .i64 (k : Nat) ∧ k ≤ m' ∧ cnt ≤ k ∧ Hid ((A'.take k).countP (fun x => decide (x.2 = 0)) = cnt) ∧ Kept wc wq) (fun _ kv _ => m' - (intOf kv).toNat)
          case atStart => exact ⟨0, 0, rfl, rfl, by omega, by omega, rfl, Kept.refl _⟩
          case round =>
            obtain ⟨k, cnt, rfl, rfl, hk, hck, HC, KQ⟩ := hrel
            by_cases hkm : k < m'
            · have hkm' : (k : Int) < m' := by omega
              obtain ⟨⟨v, d⟩, hx⟩ : ∃ x, A'[k]? = some x := ⟨_, List.getElem?_eq_getElem (by rw [HA'.out]; exact hkm)⟩
              have HSe := Lib.hid (bag_see p g' A' k v d wr (HB'.out.keep KQ) hx)
              have htk : A'.take (k + 1) = A'.take k ++ [(v, d)] := by rw [List.take_add_one, hx]; rfl
              have hd2 := (HB'.out.ok _ (List.mem_of_getElem? hx)).2
              obtain ⟨bw, rfl, _, _, _, _, hcw⟩ := want_cell HW'.out (by omega)
              have HW9 : Hid (∀ Z, Kept wc Z → Z.cell? ⟨bw, k * 9, none⟩ = some (.int .i64 2) ∧ Z.cell? ⟨bw, k * 9 + 1, none⟩ = some (.int .i64 (1 - d)) ∧ Z.cell? ⟨bw, k * 9 + 2, none⟩ = some (.int .i64 d) ∧ Z.cell? ⟨bw, k * 9 + 3, none⟩ = some (.int .i64 1) ∧ Z.cell? ⟨bw, k * 9 + 4, none⟩ = some (.int .i64 v) ∧ Z.cell? ⟨bw, k * 9 + 5, none⟩ = some (.int .i64 0) ∧ Z.cell? ⟨bw, k * 9 + 6, none⟩ = some (.slice none 0 0) ∧ Z.cell? ⟨bw, k * 9 + 7, none⟩ = some (.slice none 0 0) ∧ Z.cell? ⟨bw, k * 9 + 8, none⟩ = some (.int .i64 0)) := fun Z kk => by
                obtain ⟨b', hb', _, _, _, _, hc'⟩ := want_cell (kk.only.app HW'.out (by simp)) (by omega)
                injection hb' with hb'
                injection hb' with hb'
                subst hb'
                have e := fun j hj => wantV_at A' k j (v, d) hx hj
                exact ⟨hc' _ _ (e 0 (by omega)), hc' _ _ (e 1 (by omega)), hc' _ _ (e 2 (by omega)), hc' _ _ (e 3 (by omega)), hc' _ _ (e 4 (by omega)), hc' _ _ (e 5 (by omega)), hc' _ _ (e 6 (by omega)), hc' _ _ (e 7 (by omega)), hc' _ _ (e 8 (by omega))⟩
              clear hx hcw
              go_wp2_with fail
              refine HSe.out.mono ?_
              rintro E V ⟨la, lc, ta, tc, rfl, hM, J⟩
              have HM := Lib.hid hM
              have h16 := heap_alloc_new V (.cells #[.int .i64 2, .int .i64 (1 - d), .int .i64 d, .int .i64 1, .int .i64 v, .int .i64 0, .slice la 0 lc, .slice ta 0 tc, .int .i64 0] 33)
              have KV := (KQ.trans J).trans (kept_al V (.cells #[.int .i64 2, .int .i64 (1 - d), .int .i64 d, .int .i64 1, .int .i64 v, .int .i64 0, .slice la 0 lc, .slice ta 0 tc, .int .i64 0] 33))
              go_upto_region 51 with fail
              obtain ⟨q16, hq⟩ : ∃ q, V.heap.size = q := ⟨_, rfl⟩
              rw [hq] at h16 ⊢
              generalize World.alloc V _ = Y1 at *
              have HSm := Lib.hid (fun V' => same_ack (n := v) (d := d) (n' := v) (d' := d) (V := V') (msg0_any HM.out) (msgAt_none V'))
              rw [show decide (v = v ∧ d = d) = true by simp] at HSm
              have HSS : Hid (∀ Z, Kept Y1 Z → (Z.cell? ⟨q16, 0, none⟩ = some (.int .i64 2) ∧ Z.cell? ⟨q16, 1, none⟩ = some (.int .i64 (1 - d)) ∧ Z.cell? ⟨q16, 2, none⟩ = some (.int .i64 d) ∧ Z.cell? ⟨q16, 3, none⟩ = some (.int .i64 1) ∧ Z.cell? ⟨q16, 4, none⟩ = some (.int .i64 v) ∧ Z.cell? ⟨q16, 5, none⟩ = some (.int .i64 0) ∧ Z.cell? ⟨q16, 6, none⟩ = some (.slice la 0 lc) ∧ Z.cell? ⟨q16, 7, none⟩ = some (.slice ta 0 tc) ∧ Z.cell? ⟨q16, 8, none⟩ = some (.int .i64 0)) ∧ (Z.cell? ⟨bw, k * 9, none⟩ = some (.int .i64 2) ∧ Z.cell? ⟨bw, k * 9 + 1, none⟩ = some (.int .i64 (1 - d)) ∧ Z.cell? ⟨bw, k * 9 + 2, none⟩ = some (.int .i64 d) ∧ Z.cell? ⟨bw, k * 9 + 3, none⟩ = some (.int .i64 1) ∧ Z.cell? ⟨bw, k * 9 + 4, none⟩ = some (.int .i64 v) ∧ Z.cell? ⟨bw, k * 9 + 5, none⟩ = some (.int .i64 0) ∧ Z.cell? ⟨bw, k * 9 + 6, none⟩ = some (.slice none 0 0) ∧ Z.cell? ⟨bw, k * 9 + 7, none⟩ = some (.slice none 0 0) ∧ Z.cell? ⟨bw, k * 9 + 8, none⟩ = some (.int .i64 0))) := fun Z kk => ⟨nine_cells (kk.only.heap h16 (by simp)), HW9.out Z (KV.trans kk)⟩
              clear h16 hq hM J HSe
              have KD : Kept Y1 Y1.drew := (Kept.refl _).dr ⟨1, rfl⟩
              first | (go_region_held3 (fun Z => (Z.cell? ⟨q16, 0, none⟩ = some (.int .i64 2) ∧ Z.cell? ⟨q16, 1, none⟩ = some (.int .i64 (1 - d)) ∧ Z.cell? ⟨q16, 2, none⟩ = some (.int .i64 d) ∧ Z.cell? ⟨q16, 3, none⟩ = some (.int .i64 1) ∧ Z.cell? ⟨q16, 4, none⟩ = some (.int .i64 v) ∧ Z.cell? ⟨q16, 5, none⟩ = some (.int .i64 0) ∧ Z.cell? ⟨q16, 6, none⟩ = some (.slice la 0 lc) ∧ Z.cell? ⟨q16, 7, none⟩ = some (.slice ta 0 tc) ∧ Z.cell? ⟨q16, 8, none⟩ = some (.int .i64 0)) ∧ (Z.cell? ⟨bw, k * 9, none⟩ = some (.int .i64 2) ∧ Z.cell? ⟨bw, k * 9 + 1, none⟩ = some (.int .i64 (1 - d)) ∧ Z.cell? ⟨bw, k * 9 + 2, none⟩ = some (.int .i64 d) ∧ Z.cell? ⟨bw, k * 9 + 3, none⟩ = some (.int .i64 1) ∧ Z.cell? ⟨bw, k * 9 + 4, none⟩ = some (.int .i64 v) ∧ Z.cell? ⟨bw, k * 9 + 5, none⟩ = some (.int .i64 0) ∧ Z.cell? ⟨bw, k * 9 + 6, none⟩ = some (.slice none 0 0) ∧ Z.cell? ⟨bw, k * 9 + 7, none⟩ = some (.slice none 0 0) ∧ Z.cell? ⟨bw, k * 9 + 8, none⟩ = some (.int .i64 0))) (exact HSS.out _ KD) ((go_at_call 11; refine (HSm.out _).mono ?_; rintro E Y2 ⟨rfl, J⟩; replace KD := KD.trans J; clear J))) | fail
              all_goals (
                obtain ⟨_, _, w2, _, _, _, _, _, _⟩ := (HSS.out _ KD).2
                rcases hd2 with hd0 | hd1
                · obtain rfl : d = 0 := hd0
                  have hw1 : IntKind.i64.wrap ((cnt : Int) + 1) = cnt + 1 := by rw [IntKind.wrap_i64]; omega
                  go_wp2_with fail
                  go_roundw
                  case rel => exact ⟨k + 1, cnt + 1, by go_num, by go_num, by omega, by omega, by unfold Hid; rw [htk, List.countP_append, HC.out]; rfl, KV.trans KD⟩
                  case measure => simp [intOf]; omega
                · obtain rfl : d = 1 := hd1
                  go_wp2_with fail
                  go_roundw
                  case rel => exact ⟨k + 1, cnt, rfl, by go_num, by omega, by omega, by unfold Hid; rw [htk, List.countP_append, HC.out]; rfl, KV.trans KD⟩
                  case measure => simp [intOf]; omega)
            · have hge : (m' : Int) ≤ k := by omega
              obtain rfl : k = m' := by omega
              have hc0 : (toL 0 0 A').length = cnt := by
                rw [toL_len, ← HC.out, List.take_of_length_le (by rw [HA'.out]; omega)]
              have hc1 : (toL 1 0 A').length + cnt = k := by
                rw [toL_len, ← HC.out, List.take_of_length_le (by rw [HA'.out]; omega), count_both A' (fun x hx => (HB'.out.ok x hx).2), HA'.out]
              have HBq := Lib.hid (HB'.out.keep KQ)
              have HT0 := Lib.hid (bag_to p g' A' 0 wr HBq.out)
              have HT1 := Lib.hid (fun V (kk : Kept wr V) => bag_to p g' A' 1 V (HBq.out.keep kk))
              have hwsub : IntKind.i64.wrap ((k : Int) - cnt) = k - cnt := by rw [IntKind.wrap_i64]; omega
              go_wp2_with fail
              refine HT0.out.mono ?_
              rintro E V1 ⟨a1, n1, c1, rfl, hS1, J1⟩
              obtain rfl : n1 = cnt := by rw [← hS1.1]; exact hc0
              clear hS1
              go_wp2_with fail
              refine (HT1.out _ J1).mono ?_
              rintro E V2 ⟨a2, n2, c2, rfl, hS2, J2⟩
              have hn2 : (n2 : Int) = k - n1 := by have := hS2.1; omega
              clear hS2
              go_wp2_with fail
              go_roundw
              case rel => exact ⟨j + 1, g', A', k, aw', cw', gw', rfl, by go_num, by omega, by omega, HA'.out, HBq.out.keep (J1.trans J2), ((KQ.trans J1).trans J2).only.app HW'.out (by simp)⟩
              case measure => simp [intOf]; omega
    · have hge : (len : Int) ≤ j := by omega
      obtain rfl : j = len := by omega
      go_wp2
      go_ret
      exact ⟨rfl, KW⟩
end Go.Proofs.Ytnnjflljlooifaa
