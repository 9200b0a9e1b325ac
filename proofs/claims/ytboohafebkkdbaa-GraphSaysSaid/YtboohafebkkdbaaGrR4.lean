/- Graphs, the document's: Reach. -/
import Derived.Test.YtboohafebkkdbaaGrR3
set_option linter.unusedVariables false
set_option linter.unusedSimpArgs false
namespace Go.Proofs.Ytboohafebkkdbaa
open Go.RowKit
set_option maxRecDepth 100000 in
set_option maxHeartbeats 8000000 in
theorem r_reach {w : World} {s : Option Addr} {m c : Nat} {E : List Ed} (N n : Int) (hE : SlE w s m c E) (hm : m ≤ 900) :
    Calls Try.prog 23 #[.agg #[.int .i64 N, .slice s m c], .int .i64 n] w fun e w' => ∃ (a : Option Addr) (k c' : Nat), e = .returned (.slice a k c') ∧ Sl .i64 w' a k c' (reachL N E n) ∧ Kept w w' ∧ k ≤ 16 ∧ (∀ y, a = some y → w.heap.size ≤ y.block) := by
  have hB0 := heap_alloc_new w (.cells #[.int .i64 N, .slice s m c] 40)
  have K0 := kept_al w (.cells #[.int .i64 N, .slice s m c] 40)
  have b0 := at_cell hB0 0 _ rfl
  have b1 := at_cell hB0 1 _ rfl
  have HGd := Lib.hid (r_good N (hE.kept K0) hm)
  have HE := Lib.hid hE
  have HK0 := Lib.hid K0
  have HB := Lib.hid hB0
  clear hE K0 hB0
  go_enter Try.func23, Try.ntmps23
  go_wp2_with fail
  generalize World.alloc w _ = X0 at *
  generalize hbx : w.heap.size = bx at *
  refine HGd.out.mono ?_
  rintro E1 V1 ⟨rfl, hK1⟩
  have HK1 := Lib.hid (HK0.out.trans hK1)
  have HB1 := Lib.hid (hK1.only.heap HB.out (by simp))
  replace b0 := hK1.cel b0
  replace b1 := hK1.cel b1
  clear hK1 HGd
  cases hg : goodG N E with
  | false =>
    have HR : Hid (reachL N E n = []) := by unfold Hid reachL; rw [hg]; rfl
    clear hg
    go_wp2_with fail
    go_ret
    exact ⟨none, 0, 0, rfl, by rw [HR.out]; exact sl_nil _ _, HK1.out, Nat.zero_le _, fun y hy => by cases hy⟩
  | true =>
    have HG : Hid (goodG N E = true) := hg
    have hN := good_N hg
    clear hg
    by_cases hi : 0 ≤ n ∧ n < N
    · have i1 : ¬ n < 0 := by omega
      have i2 : ¬ N ≤ n := by omega
      have HIn : Hid (inG N n = true) := decide_eq_true hi
      have HRa := Lib.hid (reach_asc HG.out HIn.out)
      obtain ⟨k0, rfl⟩ : ∃ k0 : Nat, N = k0 := ⟨N.toNat, by omega⟩
      rw [Int.toNat_natCast] at HRa
      obtain ⟨p, hp⟩ : ∃ p : Int → Bool, (fun b : Int => decide (0 ≤ stpV k0 E n b.toNat)) = p := ⟨_, rfl⟩
      have HP : Hid (∀ j : Nat, decide (0 ≤ stpV k0 E n j) = p (j : Int)) := fun b => by rw [← hp]; rfl
      rw [hp] at HRa
      have HSt := Lib.hid (r_steps k0 n (HE.out.kept HK1.out) hm HG.out)
      clear hp
      go_wp2_with fail
      refine HSt.out.mono ?_
      rintro E3 V3 ⟨fa, fc, rfl, hSf, hK3⟩
      have HSf := Lib.hid hSf
      have hfl := hSf.1
      have hfc := hSf.2.1
      have HK3 := Lib.hid (HK1.out.trans hK3)
      have HB3 := Lib.hid (hK3.only.heap HB1.out (by simp))
      clear hSf hK3 HSt b0 b1
      go_wp2_with fail
      go_loopw [5, 7] (fun v i wr => ∃ (j r : Nat) (a' : Option Addr) (c' : Nat) (g : Option Nat), v = .slice a' r c' ∧ i = .int .i64 (j : Nat) ∧ j ≤ k0 ∧ r ≤ j ∧ Hid (App wr 3 1 (.slice a' r c') r g (ivs (ascL p j))) ∧ Hid (Kept V3 wr) ∧ Hid (∀ k ∈ g.toList, V3.heap.size ≤ k)) (fun _ i _ => k0 - (intOf i).toNat)
      case atStart => exact ⟨0, 0, none, 0, none, rfl, rfl, by omega, by omega, app_nil _ _ _, Kept.refl _, by intro k hk; simp at hk⟩
      case round =>
        obtain ⟨j, r, a', c', g, rfl, rfl, hj, hr, HA, HK, HGg⟩ := hrel
        have c0 := at_cell (HK.out.only.heap HB3.out (by simp)) 0 (.int .i64 (k0 : Nat)) rfl
        by_cases hlt : j < k0
        · have hlt' : (j : Int) < k0 := by omega
          obtain ⟨bf, of', dv, rfl, hdc, hdv⟩ := (HK.out.sl HSf.out).at j hlt
          have HSc := Lib.hid (ascL_succ p j)
          rw [← HP.out j] at HSc
          have hdv2 : dv = stpV k0 E n j := by rw [hdv.out, stpL_at (by simpa using hlt)]
          rw [← hdv2] at HSc
          clear hdv hdv2
          by_cases hp : 0 ≤ dv
          · rw [if_pos (decide_eq_true hp)] at HSc
            have KL := kept_al wr (.cells #[.int .i64 (j : Nat)] 3)
            have HAL := Lib.hid (KL.only.app HA.out (by simp))
            have HKL := Lib.hid (HK.out.trans KL)
            have HSrc := Lib.hid (src_block (P := Try.prog) (size := 1) Try.underlying27 (heap_alloc_new wr (.cells #[.int .i64 (j : Nat)] 3)) 1 1 rfl (by simp [Value.oneCell']))
            have hVz := HK.out.size
            clear KL
            go_wp2_with (at_builtin; refine wpList_app rfl (.tmp 35) (.tmp 37) 27 27 rfl elemI _ r _ _ rfl HAL.out _ 1 _ rfl HSrc.out (by omega) (by unfold maxLen; omega) ?_; intro a5 c5 g5 w5 hA5 hO5 hG5; have HA5 := Lib.hid hA5; have HO5 := Lib.hid hO5; have HG5 := Lib.hid hG5; clear hA5 hO5 hG5)
            have hg1 : ∀ i ∈ g5.toList, V3.heap.size ≤ i := by
              intro i hi
              rcases HG5.out with h | h
              · rw [h] at hi; exact HGg.out i hi
              · rw [h] at hi; simp at hi hVz; omega
            have hK5 : Kept V3 w5 := HKL.out.onl HO5.out HGg.out
            go_roundw
            case rel => exact ⟨j + 1, r + 1, a5, c5, g5, rfl, by go_num, by omega, by omega, by rw [HSc.out, ivs_app]; exact HA5.out, hK5, hg1⟩
            case measure => simp [intOf]; omega
          · rw [if_neg (by simp [hp])] at HSc
            go_wp2_with fail
            go_roundw
            case rel => exact ⟨j + 1, r, a', c', g, rfl, by go_num, by omega, by omega, by rw [HSc.out]; exact HA.out, HK.out, HGg⟩
            case measure => simp [intOf]; omega
        · have hge : (k0 : Int) ≤ j := by omega
          obtain rfl : j = k0 := by omega
          have HSl := Lib.hid (app_sl HA.out)
          have HKF := Lib.hid (HK3.out.trans HK.out)
          have HNew : Hid (∀ y, a' = some y → bx ≤ y.block) := fun y hy => by
            subst hy
            have h1 := HGg.out y.block (by rw [app_blkI HA.out]; simp)
            have h2 := HK3.out.size
            omega
          go_wp2_with fail
          go_ret
          exact ⟨a', r, c', rfl, by rw [HRa.out]; exact HSl.out, HKF.out, by omega, fun y hy => by rw [hbx]; exact HNew.out y hy⟩
    · have HR : Hid (reachL N E n = []) := by
        unfold Hid reachL inG
        rw [decide_eq_false hi, Bool.and_false]; rfl
      by_cases h0 : n < 0
      · go_wp2_with fail
        go_ret
        exact ⟨none, 0, 0, rfl, by rw [HR.out]; exact sl_nil _ _, HK1.out, Nat.zero_le _, fun y hy => by cases hy⟩
      · have h1 : N ≤ n := by omega
        go_wp2_with fail
        go_ret
        exact ⟨none, 0, 0, rfl, by rw [HR.out]; exact sl_nil _ _, HK1.out, Nat.zero_le _, fun y hy => by cases hy⟩
end Go.Proofs.Ytboohafebkkdbaa
