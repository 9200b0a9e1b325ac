/- BagOrder: the walk. -/
import Derived.Test.YtnnjflljlooifaaBag6
set_option linter.unusedVariables false
set_option linter.unusedSimpArgs false
namespace Go.Proofs.Ytnnjflljlooifaa
open Go.RowKit
theorem and_one (j : Nat) (h : j ≤ 1000) : bits .and .i64 (j : Int) 1 = ((j % 2 : Nat) : Int) := by
  have : ∀ k : Fin 1001, bits .and .i64 ((k.val : Nat) : Int) 1 = ((k.val % 2 : Nat) : Int) := by decide +kernel
  exact this ⟨j, by omega⟩
def ackAt (N : List Int) (k : Nat) : Int × Int := (N.getD k 0, ((k % 2 : Nat) : Int))
def ackL (N : List Int) (i : Nat) : List (Int × Int) := (List.range i).map (ackAt N)
theorem ackL_len (N : List Int) (i : Nat) : (ackL N i).length = i := by simp [ackL]
theorem ackL_succ (N : List Int) (i : Nat) : ackL N (i + 1) = ackL N i ++ [ackAt N i] := by simp [ackL, List.range_succ]
theorem ackL_drop (N : List Int) (i n : Nat) (h : i < n) : (ackL N n).drop i = ackAt N i :: (ackL N n).drop (i + 1) := by
  rw [List.drop_eq_getElem_cons (by rw [ackL_len]; exact h)]
  simp [ackL]
theorem mod2 (k : Nat) : ((k % 2 : Nat) : Int) = 0 ∨ ((k % 2 : Nat) : Int) = 1 := by omega
set_option maxRecDepth 100000 in
set_option maxHeartbeats 8000000 in
theorem bagOrder_walk (a : Option Addr) (len c : Nat) (N : List Int) (w : World) (hS : Sl .i64 w a len c N) :
    Calls Try.prog 3 #[.slice a len c] w fun e w' => e = .returned (.bool true) ∧ Kept w w' := by
  have HS := Lib.hid hS
  have hlc := hS.2.1
  have hcm := hS.2.2.1
  have hNl := hS.1
  clear hS
  go_enter Try.func3, Try.ntmps3
  go_wp2_with fail
  refine (awake24 _).mono ?_
  rintro E w1 ⟨rfl, K⟩
  by_cases hbig : 64 < len
  · have hbig' : (64 : Int) < len := by omega
    go_wp2
    go_ret
    exact ⟨rfl, K⟩
  have hbig' : ¬ (64 : Int) < len := by omega
  go_wp2_with fail
  refine (bag_new _).mono ?_
  rintro E X ⟨rfl, hB, K1⟩
  obtain ⟨p, hp⟩ : ∃ p, w1.heap.size = p := ⟨_, rfl⟩
  rw [hp] at hB ⊢
  have hpw : w.heap.size ≤ p := by have := K.size; omega
  have KX := K.trans K1
  clear K1
  have HB := Lib.hid hB
  clear hB
  go_wp2_with fail
  go_loopw [4] (fun i wr => ∃ (j : Nat) (g : Option Nat), i = .int .i64 (j : Nat) ∧ j ≤ len ∧ Hid (BagW X wr p g (ackL N j)) ∧ Hid (∀ k, k < j → ackOk (ackAt N k) = true)) (fun i _ => len - (intOf i).toNat)
  case atStart => exact ⟨0, none, rfl, by omega, HB.out, fun k hk => by omega⟩
  case round =>
    obtain ⟨j, g, rfl, hj, HBj, HO⟩ := hrel
    have KW := HBj.out.kept KX hpw
    by_cases hlt : j < len
    · have hlt' : (j : Int) < len := by omega
      obtain ⟨b, o, v, rfl, hc, hv⟩ := (KW.sl HS.out).at j hlt
      have hand := and_one j (by omega)
      by_cases hneg : v < 0
      · go_wp2
        go_ret
        exact ⟨rfl, KW⟩
      · by_cases hov : 17592186044415 < v
        · go_wp2
          go_ret
          exact ⟨rfl, KW⟩
        · have hx : ackAt N j = (v, ((j % 2 : Nat) : Int)) := by rw [hv.out]; rfl
          have hok : ackOk (v, ((j % 2 : Nat) : Int)) = true := decide_eq_true ⟨by omega, by omega⟩
          have HAk := Lib.hid (law_ack v ((j % 2 : Nat) : Int) wr (mod2 j))
          have hm2 := mod2 j
          have hns : ackL N (j + 1) = ackL N j ++ [(v, ((j % 2 : Nat) : Int))] := by rw [ackL_succ, hx]
          have HO2 : Hid (∀ k, k < j + 1 → ackOk (ackAt N k) = true) := fun k hk => by
            rcases Nat.lt_or_ge k j with h' | h'
            · exact HO.out k h'
            · obtain rfl : k = j := by omega
              rw [hx]; exact hok
          have HNS := Lib.hid hns
          have HX := Lib.hid hx
          clear hns hx HO
          generalize ((j % 2 : Nat) : Int) = d at *
          go_wp2_with fail
          refine HAk.out.mono ?_
          rintro E V ⟨rfl, J⟩
          have hE : putE (v, d) (ackL N j) = 0 := by unfold putE; rw [if_neg (by rw [hok]; decide), if_neg (by rw [ackL_len]; omega)]
          have hA : putA (v, d) (ackL N j) = ackL N (j + 1) := by rw [HNS.out]; exact if_pos hE
          have HP := bag_put p g (ackL N j) v d none none 0 0 V (HBj.out.keep J) (msgAt_none V) hm2
          rw [hE, hA] at HP
          have HP := Lib.hid HP
          clear hE hA hc HAk
          go_wp2_with fail
          refine HP.out.mono ?_
          rintro E V2 ⟨rfl, g2, hB2, -⟩
          have HB2 := Lib.hid hB2
          clear hB2
          go_wp2_with fail
          go_roundw
          case rel => exact ⟨j + 1, g2, by go_num, by omega, HB2.out, HO2.out⟩
          case measure => simp [intOf]; omega
    · have hge : (len : Int) ≤ j := by omega
      obtain rfl : j = len := by omega
      go_wp2_with fail
      clear HB hlt hge hj
      go_loopw [5] (fun i wr => ∃ (k : Nat), i = .int .i64 (k : Nat) ∧ k ≤ j ∧ Hid (BagW X wr p g ((ackL N j).drop k))) (fun i _ => j - (intOf i).toNat)
      case atStart => exact ⟨0, rfl, by omega, HBj.out⟩
      case round =>
        obtain ⟨k, rfl, hk, HBk⟩ := hrel
        have KW := HBk.out.kept KX hpw
        by_cases hlt : k < j
        · have hlt' : (k : Int) < j := by omega
          obtain ⟨b, o, v, rfl, hc, hv⟩ := (HS.out).at k hlt
          have hcel := hc
          have hand := and_one k (by omega)
          have hx : ackAt N k = (v, ((k % 2 : Nat) : Int)) := by rw [hv.out]; rfl
          have hdr := ackL_drop N k j hlt
          rw [hx] at hdr
          have HT := bag_take p g ((ackL N j).drop k) 0 v ((k % 2 : Nat) : Int) wr HBk.out (by rw [hdr]; rfl)
          rw [show ((ackL N j).drop k).eraseIdx 0 = (ackL N j).drop (k + 1) by rw [hdr]; rfl] at HT
          have HT := Lib.hid HT
          have HAk := Lib.hid (fun V => law_ack v ((k % 2 : Nat) : Int) V (mod2 k))
          clear hdr hx hc
          generalize ((k % 2 : Nat) : Int) = d at *
          go_wp2_with fail
          refine HT.out.mono ?_
          rintro E V ⟨la, lc, ta, tc, rfl, hM, hB2, -⟩
          have HM := Lib.hid hM
          have hB3 := hB2.keep (kept_al V (.cells #[.int .i64 2, .int .i64 (1 - d), .int .i64 d, .int .i64 1, .int .i64 v, .int .i64 0, .slice la 0 lc, .slice ta 0 tc, .int .i64 0] 33))
          have HB3 := Lib.hid hB3
          have h1 := heap_alloc_new V (.cells #[.int .i64 2, .int .i64 (1 - d), .int .i64 d, .int .i64 1, .int .i64 v, .int .i64 0, .slice la 0 lc, .slice ta 0 tc, .int .i64 0] 33)
          have hcel2 := (hB3.kept KX hpw).cel hcel
          clear hM hB2 hB3 HT
          go_upto_region 17 with fail
          obtain ⟨q, hq⟩ : ∃ q, V.heap.size = q := ⟨_, rfl⟩
          rw [hq] at h1 ⊢
          generalize World.alloc V _ = Y at *
          have HC : Hid (∀ Z, Kept Y Z → Z.cell? ⟨q, 0, none⟩ = some (.int .i64 2) ∧ Z.cell? ⟨q, 1, none⟩ = some (.int .i64 (1 - d)) ∧ Z.cell? ⟨q, 2, none⟩ = some (.int .i64 d) ∧ Z.cell? ⟨q, 3, none⟩ = some (.int .i64 1) ∧ Z.cell? ⟨q, 4, none⟩ = some (.int .i64 v) ∧ Z.cell? ⟨q, 5, none⟩ = some (.int .i64 0) ∧ Z.cell? ⟨q, 6, none⟩ = some (.slice la 0 lc) ∧ Z.cell? ⟨q, 7, none⟩ = some (.slice ta 0 tc) ∧ Z.cell? ⟨q, 8, none⟩ = some (.int .i64 0) ∧ Z.cell? ⟨b, o + k, none⟩ = some (.int .i64 v)) := fun Z k2 => by
            obtain ⟨x0, x1, x2, x3, x4, x5, x6, x7, x8⟩ := nine_cells (k2.only.heap h1 (by simp))
            exact ⟨x0, x1, x2, x3, x4, x5, x6, x7, x8, k2.cel hcel2⟩
          have HSm := Lib.hid (fun V => same_ack (n := v) (d := d) (n' := v) (d' := d) (V := V) (msg0_any HM.out) (msgAt_none V))
          rw [show decide (v = v ∧ d = d) = true by simp] at HSm
          clear h1 hq hcel hcel2
          have KD : Kept Y Y.drew := (Kept.refl _).dr ⟨1, rfl⟩
          first | (go_region_held3 (fun Z => Z.cell? ⟨q, 0, none⟩ = some (.int .i64 2) ∧ Z.cell? ⟨q, 1, none⟩ = some (.int .i64 (1 - d)) ∧ Z.cell? ⟨q, 2, none⟩ = some (.int .i64 d) ∧ Z.cell? ⟨q, 3, none⟩ = some (.int .i64 1) ∧ Z.cell? ⟨q, 4, none⟩ = some (.int .i64 v) ∧ Z.cell? ⟨q, 5, none⟩ = some (.int .i64 0) ∧ Z.cell? ⟨q, 6, none⟩ = some (.slice la 0 lc) ∧ Z.cell? ⟨q, 7, none⟩ = some (.slice ta 0 tc) ∧ Z.cell? ⟨q, 8, none⟩ = some (.int .i64 0) ∧ Z.cell? ⟨b, o + k, none⟩ = some (.int .i64 v)) (exact HC.out _ KD) (first
            | (go_at_call 9; refine (HAk.out _).mono ?_; rintro E V6 ⟨rfl, J⟩; replace KD := KD.trans J; clear J)
            | (go_at_call 11; refine (HSm.out _).mono ?_; rintro E V7 ⟨rfl, J⟩; replace KD := KD.trans J; clear J))) | fail
          all_goals (
            go_wp2_with fail
            go_roundw
            case rel => exact ⟨k + 1, by go_num, by omega, HB3.out.keep KD⟩
            case measure => simp [intOf]; omega)
        · have hge : (j : Int) ≤ k := by omega
          obtain rfl : k = j := by omega
          have hnil : (ackL N k).drop k = [] := List.drop_of_length_le (by rw [ackL_len]; omega)
          have hB0 := HBk.out
          rw [hnil] at hB0
          have HB0 := Lib.hid hB0
          have HT := Lib.hid (bag_take_no p g [] 0 wr hB0 (by simp))
          unfold zMsg at HT
          clear hB0
          go_wp2_with fail
          refine HT.out.mono ?_
          rintro E V ⟨rfl, J⟩
          have hBV := (HB0.out.keep J).keep (kept_al V (.cells #[.int .i64 0, .int .i64 0, .int .i64 0, .int .i64 0, .int .i64 0, .int .i64 0, .slice none 0 0, .slice none 0 0, .int .i64 0] 33))
          have HL := Lib.hid (bag_len p g [] _ hBV)
          simp only [List.length_nil] at HL
          have KF := hBV.kept KX hpw
          go_wp2_with fail
          refine HL.out.mono ?_
          rintro E V2 ⟨rfl, rfl⟩
          go_wp2
          go_ret
          exact ⟨rfl, KF⟩
end Go.Proofs.Ytnnjflljlooifaa
