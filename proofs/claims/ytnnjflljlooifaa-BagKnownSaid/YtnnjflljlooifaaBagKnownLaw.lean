/- BagKnown: the walk. -/
import Derived.Test.YtnnjflljlooifaaBagOrderWalk
set_option linter.unusedVariables false
set_option linter.unusedSimpArgs false
namespace Go.Proofs.Ytnnjflljlooifaa
open Go.RowKit
set_option maxRecDepth 100000 in
set_option maxHeartbeats 4000000 in
theorem bag_put_zero {X : World} (p : Nat) (g : Option Nat) (A : List (Int × Int)) (w : World) (hB : BagW X w p g A) :
    Calls Try.prog 8 #[.pointer (some ⟨p, 0, none⟩), .agg #[.int .i64 0, .int .i64 0, .int .i64 0, .int .i64 0, .int .i64 0, .int .i64 0, .slice none 0 0, .slice none 0 0, .int .i64 0]] w fun e w' => e = .returned (.int .i64 1) ∧ Kept w w' := by
  have HG := Lib.hid (fun V => cGood (k := 0) (f := 0) (t := 0) (e := 0) (o := 0) (p := 0) (te := 0) (msgAt_none V) isW_nil (by omega) (g := false) (by decide +kernel))
  have hq := heap_alloc_new w (.cells #[.int .i64 0, .int .i64 0, .int .i64 0, .int .i64 0, .int .i64 0, .int .i64 0, .slice none 0 0, .slice none 0 0, .int .i64 0] 33)
  obtain ⟨q0, q1, q2, q3, q4, q5, q6, q7, q8⟩ := nine_cells hq
  go_enter Try.func8, Try.ntmps8
  go_wp2_with fail
  refine (HG.out _).mono ?_
  rintro E V ⟨rfl, J⟩
  go_wp2
  go_ret
  exact ⟨rfl, (kept_al _ _).trans J⟩
def ackK (m : Nat) : List (Int × Int) := (List.range m).map fun (k : Nat) => ((k : Int), ((k % 2 : Nat) : Int))
theorem ackK_len (m : Nat) : (ackK m).length = m := by simp [ackK]
theorem ackK_succ (m : Nat) : ackK (m + 1) = ackK m ++ [((m : Int), ((m % 2 : Nat) : Int))] := by simp [ackK, List.range_succ]
set_option maxRecDepth 100000 in
set_option maxHeartbeats 8000000 in
theorem bagKnown_law (w : World) : Calls Try.prog 4 #[] w fun e w' => e = .returned (.bool true) ∧ Kept w w' := by
  go_enter Try.func4, Try.ntmps4
  go_wp2_with fail
  refine (awake24 _).mono ?_
  rintro E w1 ⟨rfl, K⟩
  go_wp2_with fail
  refine (bag_new _).mono ?_
  rintro E X ⟨rfl, hB, K1⟩
  obtain ⟨p, hp⟩ : ∃ p, w1.heap.size = p := ⟨_, rfl⟩
  rw [hp] at hB ⊢
  have hpw : w.heap.size ≤ p := by have := K.size; omega
  have KX := K.trans K1
  clear K1
  go_wp2_with fail
  refine (bag_put_zero p none [] _ hB).mono ?_
  rintro E w2 ⟨rfl, J⟩
  have hB2 := hB.keep J
  go_wp2_with fail
  refine (bag_twice_no p none [] 0 _ hB2 (by simp)).mono ?_
  rintro E w3 ⟨rfl, J3⟩
  have HB := Lib.hid (hB2.keep J3)
  clear hB hB2 J J3
  go_wp2_with fail
  go_loopw [4] (fun i wr => ∃ (j : Nat) (g : Option Nat), i = .int .i64 (j : Nat) ∧ j ≤ 64 ∧ Hid (BagW X wr p g (ackK j))) (fun i _ => 64 - (intOf i).toNat)
  case atStart => exact ⟨0, none, rfl, by omega, HB.out⟩
  case round =>
    obtain ⟨j, g, rfl, hj, HBj⟩ := hrel
    by_cases hlt : j < 64
    · have hlt' : (j : Int) < 64 := by omega
      have hand := and_one j (by omega)
      have HAk := Lib.hid (law_ack (j : Int) ((j % 2 : Nat) : Int) wr (mod2 j))
      have hok : ackOk ((j : Int), ((j % 2 : Nat) : Int)) = true := decide_eq_true ⟨by omega, by show (j : Int) ≤ _; omega⟩
      have hm2 := mod2 j
      have HNS := Lib.hid (ackK_succ j)
      generalize ((j % 2 : Nat) : Int) = d at *
      go_wp2_with fail
      refine HAk.out.mono ?_
      rintro E V ⟨rfl, J⟩
      have hE : putE ((j : Int), d) (ackK j) = 0 := by unfold putE; rw [if_neg (by rw [hok]; decide), if_neg (by rw [ackK_len]; omega)]
      have hA : putA ((j : Int), d) (ackK j) = ackK (j + 1) := by rw [HNS.out]; exact if_pos hE
      have HP := bag_put p g (ackK j) (j : Int) d none none 0 0 V (HBj.out.keep J) (msgAt_none V) hm2
      rw [hE, hA] at HP
      have HP := Lib.hid HP
      clear hE hA HAk
      go_wp2_with fail
      refine HP.out.mono ?_
      rintro E V2 ⟨rfl, g2, hB2, -⟩
      have HB2 := Lib.hid hB2
      clear hB2
      go_wp2_with fail
      go_roundw
      case rel => exact ⟨j + 1, g2, by go_num, by omega, HB2.out⟩
      case measure => simp [intOf]; omega
    · have hge : (64 : Int) ≤ j := by omega
      obtain rfl : j = 64 := by omega
      clear HB hlt hge hj
      go_wp2_with fail
      refine (law_ack 1 0 _ (.inl rfl)).mono ?_
      rintro E V1 ⟨rfl, J⟩
      have hB1 := HBj.out.keep J
      go_wp2_with fail
      refine (bag_put p g (ackK 64) 1 0 none none 0 0 _ hB1 (msgAt_none _) (.inl rfl)).mono ?_
      rintro E V2 ⟨rfl, g', hB2, -⟩
      rw [show putE (1, 0) (ackK 64) = 6 by decide +kernel]
      rw [show putA (1, 0) (ackK 64) = ackK 64 by decide +kernel] at hB2
      go_wp2_with fail
      refine (bag_twice p g' (ackK 64) 3 3 1 _ hB2 (by decide +kernel)).mono ?_
      rintro E V3 ⟨rfl, g3, hB3, -⟩
      rw [show putE (3, 1) (ackK 64) = 6 by decide +kernel]
      rw [show putA (3, 1) (ackK 64) = ackK 64 by decide +kernel] at hB3
      go_wp2_with fail
      refine (bag_take p g3 (ackK 64) 5 5 1 _ hB3 (by decide +kernel)).mono ?_
      rintro E V4 ⟨la, lc, ta, tc, rfl, -, hB4, -⟩
      go_upto_region 12 with fail
      have h7 := heap_alloc_new V4 (.cells #[.int .i64 2, .int .i64 0, .int .i64 1, .int .i64 1, .int .i64 5, .int .i64 0, .slice la 0 lc, .slice ta 0 tc, .int .i64 0] 33)
      have hB5 := hB4.keep (kept_al V4 (.cells #[.int .i64 2, .int .i64 0, .int .i64 1, .int .i64 1, .int .i64 5, .int .i64 0, .slice la 0 lc, .slice ta 0 tc, .int .i64 0] 33))
      have hlt4 := hB4.lts
      obtain ⟨q7, hq7⟩ : ∃ q, V4.heap.size = q := ⟨_, rfl⟩
      rw [hq7] at h7 ⊢
      have hq7n : q7 ∉ p :: g3.toList := fun hm => by have := hlt4 _ hm; omega
      generalize World.alloc V4 _ = Y4 at *
      have HC7 : Hid (∀ V, Only (p :: g3.toList) Y4 V → V.cell? ⟨q7, 4, none⟩ = some (.int .i64 5)) := fun V k => at_cell (k.heap h7 hq7n) 4 _ rfl
      have O5 := Only.refl (p :: g3.toList) Y4
      clear hlt4 h7 hq7 hB1 hB2 hB3 hB4 hq7n HBj
      go_wp2_with fail
      refine (bag_take_no p g3 ((ackK 64).eraseIdx 5) 63 _ hB5 (by decide +kernel)).mono ?_
      unfold zMsg
      rintro E V5 ⟨rfl, J⟩
      have hB6 := (hB5.keep J).keep (kept_al V5 (.cells #[.int .i64 0, .int .i64 0, .int .i64 0, .int .i64 0, .int .i64 0, .int .i64 0, .slice none 0 0, .slice none 0 0, .int .i64 0] 33))
      have O6 := O5.then ((J.trans (kept_al V5 (.cells #[.int .i64 0, .int .i64 0, .int .i64 0, .int .i64 0, .int .i64 0, .int .i64 0, .slice none 0 0, .slice none 0 0, .int .i64 0] 33))).only) (by simp)
      clear J hB5 O5
      go_upto_region 13 with fail
      generalize World.alloc V5 _ = Y5 at *
      go_wp2_with fail
      refine (bag_drop p g3 ((ackK 64).eraseIdx 5) 0 _ hB6 (by decide +kernel)).mono ?_
      rintro E V6 ⟨rfl, hB7, o7⟩
      have O7 := O6.trans o7
      clear hB6 O6 o7
      go_wp2_with fail
      refine (bag_drop_no p g3 (((ackK 64).eraseIdx 5).eraseIdx 0) (-1) _ hB7 (by decide +kernel)).mono ?_
      rintro E V7 ⟨rfl, rfl⟩
      go_wp2_with fail
      refine (bag_see p g3 (((ackK 64).eraseIdx 5).eraseIdx 0) 0 1 1 _ hB7 (by decide +kernel)).mono ?_
      rintro E V8 ⟨la2, lc2, ta2, tc2, rfl, -, J⟩
      go_upto_region 15 with fail
      have h13 := heap_alloc_new V8 (.cells #[.int .i64 2, .int .i64 0, .int .i64 1, .int .i64 1, .int .i64 1, .int .i64 0, .slice la2 0 lc2, .slice ta2 0 tc2, .int .i64 0] 33)
      have K8 := J.trans (kept_al V8 (.cells #[.int .i64 2, .int .i64 0, .int .i64 1, .int .i64 1, .int .i64 1, .int .i64 0, .slice la2 0 lc2, .slice ta2 0 tc2, .int .i64 0] 33))
      have hB8 := hB7.keep K8
      have O8 := O7.then K8.only (by simp)
      obtain ⟨q13, hq13⟩ : ∃ q, V8.heap.size = q := ⟨_, rfl⟩
      rw [hq13] at h13 ⊢
      generalize World.alloc V8 _ = Y8 at *
      have HC13 : Hid (∀ V, Kept Y8 V → V.cell? ⟨q13, 4, none⟩ = some (.int .i64 1)) := fun V k => at_cell (k.only.heap h13 (by simp)) 4 _ rfl
      clear hB7 O7 J K8 h13
      go_wp2_with fail
      refine (bag_see_no p g3 (((ackK 64).eraseIdx 5).eraseIdx 0) 62 _ hB8 (by decide +kernel)).mono ?_
      unfold zMsg
      rintro E V9 ⟨rfl, J⟩
      have K9 := J.trans (kept_al V9 (.cells #[.int .i64 0, .int .i64 0, .int .i64 0, .int .i64 0, .int .i64 0, .int .i64 0, .slice none 0 0, .slice none 0 0, .int .i64 0] 33))
      have hB9 := hB8.keep K9
      have O9 := O8.then K9.only (by simp)
      clear J O8 hB8
      go_upto_region 16 with fail
      generalize World.alloc V9 _ = Y9 at *
      have HT := Lib.hid (bag_to p g3 (((ackK 64).eraseIdx 5).eraseIdx 0) 1 _ hB9)
      have hTl : (toL 1 0 (((ackK 64).eraseIdx 5).eraseIdx 0)).length = 31 := by decide +kernel
      have hT0 : (toL 1 0 (((ackK 64).eraseIdx 5).eraseIdx 0)).getD 0 0 = 0 := by decide +kernel
      have hT1 : (toL 1 0 (((ackK 64).eraseIdx 5).eraseIdx 0)).getD 1 0 = 2 := by decide +kernel
      have hT2 : (toL 1 0 (((ackK 64).eraseIdx 5).eraseIdx 0)).getD 2 0 = 5 := by decide +kernel
      have hLen : (((ackK 64).eraseIdx 5).eraseIdx 0).length = 62 := by decide +kernel
      generalize toL 1 0 (((ackK 64).eraseIdx 5).eraseIdx 0) = TL at *
      generalize ((ackK 64).eraseIdx 5).eraseIdx 0 = AF at *
      go_wp2_with fail
      refine HT.out.mono ?_
      rintro E V10 ⟨a, n, c, rfl, hS, J⟩
      have hB10 := hB9.keep J
      have c7 := HC7.out _ (O9.then J.only (by simp))
      have c13 := HC13.out _ (K9.trans J)
      obtain rfl : n = 31 := by rw [← hS.1]; exact hTl
      obtain ⟨b, o, rfl, _, n0⟩ := hS.2.2.2 0 (by omega)
      obtain ⟨_, _, e1, _, n1⟩ := hS.2.2.2 1 (by omega)
      obtain ⟨_, _, e2, _, n2⟩ := hS.2.2.2 2 (by omega)
      injection e1 with e1
      injection e1 with e1 e1'
      injection e2 with e2
      injection e2 with e2 e2'
      subst e1 e1' e2 e2'
      rw [hT0, Nat.add_zero] at n0
      rw [hT1] at n1
      rw [hT2] at n2
      have hsc := hS.2.1
      have HL := Lib.hid (bag_len p g3 AF _ hB10)
      rw [hLen] at HL
      have KF := hB10.kept KX hpw
      clear hS hB9 hB10 J O9 K9 HT
      go_wp2_with fail
      refine HL.out.mono ?_
      rintro E V11 ⟨rfl, rfl⟩
      go_wp2
      exact bodyPost_ret (v := .bool true) (by simp [results, Try.results4, go_sem]) rfl ⟨rfl, KF⟩
end Go.Proofs.Ytnnjflljlooifaa
