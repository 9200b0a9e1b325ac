/- Graphs, the document's: Ahead and Behind (written by gen_grr2.py). -/
import Derived.Test.YtmejphlpcgochaaGrR1
import Derived.Test.YtmejphlpcgochaaGrM4
set_option linter.unusedVariables false
set_option linter.unusedSimpArgs false
namespace Go.Proofs.Ytmejphlpcgochaa
open Go.RowKit
set_option maxRecDepth 100000 in
set_option maxHeartbeats 8000000 in
theorem r_ahead {w : World} {s : Option Addr} {m c : Nat} {E : List Ed} (N n : Int) (hE : SlE w s m c E) (hm : m ≤ 900) :
    Calls Try.prog 36 #[.agg #[.int .i64 N, .slice s m c], .int .i64 n] w fun e w' => ∃ (a : Option Addr) (k c' : Nat), e = .returned (.slice a k c') ∧ Sl .i64 w' a k c' (besL N E n 1) ∧ Kept w w' ∧ k ≤ 16 ∧ (∀ y, a = some y → w.heap.size ≤ y.block) := by
  have hB0 := heap_alloc_new w (.cells #[.int .i64 N, .slice s m c] 41)
  have K0 := kept_al w (.cells #[.int .i64 N, .slice s m c] 41)
  have HE := Lib.hid (hE.kept K0)
  have HK0 := Lib.hid K0
  have HB := Lib.hid hB0
  have hXs : w.heap.size ≤ (w.alloc (.cells #[.int .i64 N, .slice s m c] 41)).heap.size := by simp
  clear hE K0 hB0
  go_enter Try.func36, Try.ntmps36
  go_wp2_with fail
  generalize World.alloc w _ = X0 at *
  generalize hbx : w.heap.size = bx at *
  cases hg : goodG N E with
  | false =>
    have HR : Hid (besL N E n 1 = []) := by unfold Hid besL; rw [hg]; rfl
    have HGd : Hid (∀ Z, Kept X0 Z → Calls Try.prog 35 #[.agg #[.int .i64 N, .slice s m c]] Z fun e w' => e = .returned (.bool false) ∧ Kept Z w') := fun Z hZ => by
      rw [← hg]; exact r_good N (HE.out.kept hZ) hm
    clear hg
    go_loopw [5, 6] (fun v5 v6 wr => v5 = .slice none 0 0 ∧ v6 = .int .i64 0 ∧ Hid (Kept X0 wr)) (fun _ _ _ => 0)
    case atStart => exact ⟨rfl, rfl, Kept.refl _⟩
    case round =>
      obtain ⟨rfl, rfl, HK⟩ := hrel
      have c0 := at_cell (HK.out.only.heap HB.out (by simp)) 0 _ rfl
      have c1 := at_cell (HK.out.only.heap HB.out (by simp)) 1 _ rfl
      by_cases h0 : 0 < N
      · have HGw := Lib.hid (HGd.out wr HK.out)
        go_wp2_with fail
        refine HGw.out.mono ?_
        rintro E1 V1 ⟨rfl, hK1⟩
        have HKF := Lib.hid ((HK0.out.trans HK.out).trans hK1)
        clear hK1 HGw c0 c1
        go_wp2_with fail
        go_ret
        exact ⟨none, 0, 0, rfl, by rw [HR.out]; exact sl_nil _ _, HKF.out, Nat.zero_le _, fun y hy => by cases hy⟩
      · have HKF := Lib.hid (HK0.out.trans HK.out)
        go_wp2_with fail
        go_ret
        exact ⟨none, 0, 0, rfl, by rw [HR.out]; exact sl_nil _ _, HKF.out, Nat.zero_le _, fun y hy => by cases hy⟩
  | true =>
    have HG : Hid (goodG N E = true) := hg
    have HR := Lib.hid (ahd_asc hg n)
    have hN := good_N hg
    obtain ⟨k0, rfl⟩ : ∃ k0 : Nat, N = k0 := ⟨N.toNat, by omega⟩
    have HGd : Hid (∀ Z, Kept X0 Z → Calls Try.prog 35 #[.agg #[.int .i64 (k0 : Nat), .slice s m c]] Z fun e w' => e = .returned (.bool true) ∧ Kept Z w') := fun Z hZ => by
      rw [← hg]; exact r_good _ (HE.out.kept hZ) hm
    rw [Int.toNat_natCast] at HR
    clear hg
    obtain ⟨p, hp⟩ : ∃ p : Int → Bool, (fun b : Int => hasE E (b, n)) = p := ⟨_, rfl⟩
    have HP : Hid (∀ b : Int, hasE E (b, n) = p b) := fun b => by rw [← hp]
    rw [hp] at HR
    clear hp
    go_loopw [5, 6] (fun v i wr => ∃ (j r : Nat) (a' : Option Addr) (c' : Nat) (g : Option Nat), v = .slice a' r c' ∧ i = .int .i64 (j : Nat) ∧ j ≤ k0 ∧ r ≤ j ∧ Hid (App wr 3 1 (.slice a' r c') r g (ivs (ascL p j))) ∧ Hid (Kept X0 wr) ∧ Hid (∀ k ∈ g.toList, X0.heap.size ≤ k)) (fun _ i _ => k0 - (intOf i).toNat)
    case atStart => exact ⟨0, 0, none, 0, none, rfl, rfl, by omega, by omega, app_nil _ _ _, Kept.refl _, by intro k hk; simp at hk⟩
    case round =>
      obtain ⟨j, r, a', c', g, rfl, rfl, hj, hr, HA, HK, HGg⟩ := hrel
      have c0 := at_cell (HK.out.only.heap HB.out (by simp)) 0 _ rfl
      have c1 := at_cell (HK.out.only.heap HB.out (by simp)) 1 _ rfl
      by_cases hlt : j < k0
      · have hlt' : (j : Int) < k0 := by omega
        have HGw := Lib.hid (HGd.out wr HK.out)
        have HSc := Lib.hid (ascL_succ p j)
        go_wp2_with fail
        refine HGw.out.mono ?_
        rintro E1 V1 ⟨rfl, hK1⟩
        replace c0 := hK1.cel c0
        replace c1 := hK1.cel c1
        have HK1 := Lib.hid (HK.out.trans hK1)
        have HA1 := Lib.hid (hK1.only.app HA.out (by simp))
        have HHs := Lib.hid (r_has (k0 : Int) (j : Int) n (HE.out.kept (HK.out.trans hK1)) hm)
        rw [HP.out (j : Int)] at HHs
        clear hK1 HGw HA HK
        go_wp2_with fail
        refine HHs.out.mono ?_
        rintro E2 V2 ⟨rfl, hK2⟩
        have HK2 := Lib.hid (HK1.out.trans hK2)
        have HA2 := Lib.hid (hK2.only.app HA1.out (by simp))
        clear hK2 HHs HA1 HK1 c0 c1
        cases hp : p (j : Int) with
        | true =>
          rw [hp, if_pos rfl] at HSc
          have KL := kept_al V2 (.cells #[.int .i64 (j : Nat)] 3)
          have HAL := Lib.hid (KL.only.app HA2.out (by simp))
          have HKL := Lib.hid (HK2.out.trans KL)
          have HSrc := Lib.hid (src_block (P := Try.prog) (size := 1) Try.underlying29 (heap_alloc_new V2 (.cells #[.int .i64 (j : Nat)] 3)) 1 1 rfl (by simp [Value.oneCell']))
          have hVz := HK2.out.size
          clear KL hp
          go_wp2_with (at_builtin; refine wpList_app rfl (.tmp 21) (.tmp 23) 29 29 rfl elemI _ r _ _ rfl HAL.out _ 1 _ rfl HSrc.out (by omega) (by unfold maxLen; omega) ?_; intro a5 c5 g5 w5 hA5 hO5 hG5; have HA5 := Lib.hid hA5; have HO5 := Lib.hid hO5; have HG5 := Lib.hid hG5; clear hA5 hO5 hG5)
          have hg1 : ∀ i ∈ g5.toList, X0.heap.size ≤ i := by
            intro i hi
            rcases HG5.out with h | h
            · rw [h] at hi; exact HGg.out i hi
            · rw [h] at hi; simp at hi hVz; omega
          have hK5 : Kept X0 w5 := HKL.out.onl HO5.out HGg.out
          go_roundw
          case rel => exact ⟨j + 1, r + 1, a5, c5, g5, rfl, by go_num, by omega, by omega, by rw [HSc.out, ivs_app]; exact HA5.out, hK5, hg1⟩
          case measure => simp [intOf]; omega
        | false =>
          rw [hp, if_neg (by simp)] at HSc
          clear hp
          go_wp2_with fail
          go_roundw
          case rel => exact ⟨j + 1, r, a', c', g, rfl, by go_num, by omega, by omega, by rw [HSc.out]; exact HA2.out, HK2.out, HGg⟩
          case measure => simp [intOf]; omega
      · have hge : (k0 : Int) ≤ j := by omega
        obtain rfl : j = k0 := by omega
        have HSl := Lib.hid (app_sl HA.out)
        have HKF := Lib.hid (HK0.out.trans HK.out)
        have HNew : Hid (∀ y, a' = some y → bx ≤ y.block) := fun y hy => by
          subst hy
          have h1 := HGg.out y.block (by rw [app_blkI HA.out]; simp)
          omega
        go_wp2_with fail
        go_ret
        exact ⟨a', r, c', rfl, by rw [HR.out]; exact HSl.out, HKF.out, by omega, fun y hy => by rw [hbx]; exact HNew.out y hy⟩
set_option maxRecDepth 100000 in
set_option maxHeartbeats 8000000 in
theorem r_behind {w : World} {s : Option Addr} {m c : Nat} {E : List Ed} (N n : Int) (hE : SlE w s m c E) (hm : m ≤ 900) :
    Calls Try.prog 38 #[.agg #[.int .i64 N, .slice s m c], .int .i64 n] w fun e w' => ∃ (a : Option Addr) (k c' : Nat), e = .returned (.slice a k c') ∧ Sl .i64 w' a k c' (besL N E n 0) ∧ Kept w w' ∧ k ≤ 16 ∧ (∀ y, a = some y → w.heap.size ≤ y.block) := by
  have hB0 := heap_alloc_new w (.cells #[.int .i64 N, .slice s m c] 41)
  have K0 := kept_al w (.cells #[.int .i64 N, .slice s m c] 41)
  have HE := Lib.hid (hE.kept K0)
  have HK0 := Lib.hid K0
  have HB := Lib.hid hB0
  have hXs : w.heap.size ≤ (w.alloc (.cells #[.int .i64 N, .slice s m c] 41)).heap.size := by simp
  clear hE K0 hB0
  go_enter Try.func38, Try.ntmps38
  go_wp2_with fail
  generalize World.alloc w _ = X0 at *
  generalize hbx : w.heap.size = bx at *
  cases hg : goodG N E with
  | false =>
    have HR : Hid (besL N E n 0 = []) := by unfold Hid besL; rw [hg]; rfl
    have HGd : Hid (∀ Z, Kept X0 Z → Calls Try.prog 35 #[.agg #[.int .i64 N, .slice s m c]] Z fun e w' => e = .returned (.bool false) ∧ Kept Z w') := fun Z hZ => by
      rw [← hg]; exact r_good N (HE.out.kept hZ) hm
    clear hg
    go_loopw [5, 6] (fun v5 v6 wr => v5 = .slice none 0 0 ∧ v6 = .int .i64 0 ∧ Hid (Kept X0 wr)) (fun _ _ _ => 0)
    case atStart => exact ⟨rfl, rfl, Kept.refl _⟩
    case round =>
      obtain ⟨rfl, rfl, HK⟩ := hrel
      have c0 := at_cell (HK.out.only.heap HB.out (by simp)) 0 _ rfl
      have c1 := at_cell (HK.out.only.heap HB.out (by simp)) 1 _ rfl
      by_cases h0 : 0 < N
      · have HGw := Lib.hid (HGd.out wr HK.out)
        go_wp2_with fail
        refine HGw.out.mono ?_
        rintro E1 V1 ⟨rfl, hK1⟩
        have HKF := Lib.hid ((HK0.out.trans HK.out).trans hK1)
        clear hK1 HGw c0 c1
        go_wp2_with fail
        go_ret
        exact ⟨none, 0, 0, rfl, by rw [HR.out]; exact sl_nil _ _, HKF.out, Nat.zero_le _, fun y hy => by cases hy⟩
      · have HKF := Lib.hid (HK0.out.trans HK.out)
        go_wp2_with fail
        go_ret
        exact ⟨none, 0, 0, rfl, by rw [HR.out]; exact sl_nil _ _, HKF.out, Nat.zero_le _, fun y hy => by cases hy⟩
  | true =>
    have HG : Hid (goodG N E = true) := hg
    have HR := Lib.hid (beh_asc hg n)
    have hN := good_N hg
    obtain ⟨k0, rfl⟩ : ∃ k0 : Nat, N = k0 := ⟨N.toNat, by omega⟩
    have HGd : Hid (∀ Z, Kept X0 Z → Calls Try.prog 35 #[.agg #[.int .i64 (k0 : Nat), .slice s m c]] Z fun e w' => e = .returned (.bool true) ∧ Kept Z w') := fun Z hZ => by
      rw [← hg]; exact r_good _ (HE.out.kept hZ) hm
    rw [Int.toNat_natCast] at HR
    clear hg
    obtain ⟨p, hp⟩ : ∃ p : Int → Bool, (fun b : Int => hasE E (n, b)) = p := ⟨_, rfl⟩
    have HP : Hid (∀ b : Int, hasE E (n, b) = p b) := fun b => by rw [← hp]
    rw [hp] at HR
    clear hp
    go_loopw [5, 6] (fun v i wr => ∃ (j r : Nat) (a' : Option Addr) (c' : Nat) (g : Option Nat), v = .slice a' r c' ∧ i = .int .i64 (j : Nat) ∧ j ≤ k0 ∧ r ≤ j ∧ Hid (App wr 3 1 (.slice a' r c') r g (ivs (ascL p j))) ∧ Hid (Kept X0 wr) ∧ Hid (∀ k ∈ g.toList, X0.heap.size ≤ k)) (fun _ i _ => k0 - (intOf i).toNat)
    case atStart => exact ⟨0, 0, none, 0, none, rfl, rfl, by omega, by omega, app_nil _ _ _, Kept.refl _, by intro k hk; simp at hk⟩
    case round =>
      obtain ⟨j, r, a', c', g, rfl, rfl, hj, hr, HA, HK, HGg⟩ := hrel
      have c0 := at_cell (HK.out.only.heap HB.out (by simp)) 0 _ rfl
      have c1 := at_cell (HK.out.only.heap HB.out (by simp)) 1 _ rfl
      by_cases hlt : j < k0
      · have hlt' : (j : Int) < k0 := by omega
        have HGw := Lib.hid (HGd.out wr HK.out)
        have HSc := Lib.hid (ascL_succ p j)
        go_wp2_with fail
        refine HGw.out.mono ?_
        rintro E1 V1 ⟨rfl, hK1⟩
        replace c0 := hK1.cel c0
        replace c1 := hK1.cel c1
        have HK1 := Lib.hid (HK.out.trans hK1)
        have HA1 := Lib.hid (hK1.only.app HA.out (by simp))
        have HHs := Lib.hid (r_has (k0 : Int) n (j : Int) (HE.out.kept (HK.out.trans hK1)) hm)
        rw [HP.out (j : Int)] at HHs
        clear hK1 HGw HA HK
        go_wp2_with fail
        refine HHs.out.mono ?_
        rintro E2 V2 ⟨rfl, hK2⟩
        have HK2 := Lib.hid (HK1.out.trans hK2)
        have HA2 := Lib.hid (hK2.only.app HA1.out (by simp))
        clear hK2 HHs HA1 HK1 c0 c1
        cases hp : p (j : Int) with
        | true =>
          rw [hp, if_pos rfl] at HSc
          have KL := kept_al V2 (.cells #[.int .i64 (j : Nat)] 3)
          have HAL := Lib.hid (KL.only.app HA2.out (by simp))
          have HKL := Lib.hid (HK2.out.trans KL)
          have HSrc := Lib.hid (src_block (P := Try.prog) (size := 1) Try.underlying29 (heap_alloc_new V2 (.cells #[.int .i64 (j : Nat)] 3)) 1 1 rfl (by simp [Value.oneCell']))
          have hVz := HK2.out.size
          clear KL hp
          go_wp2_with (at_builtin; refine wpList_app rfl (.tmp 21) (.tmp 23) 29 29 rfl elemI _ r _ _ rfl HAL.out _ 1 _ rfl HSrc.out (by omega) (by unfold maxLen; omega) ?_; intro a5 c5 g5 w5 hA5 hO5 hG5; have HA5 := Lib.hid hA5; have HO5 := Lib.hid hO5; have HG5 := Lib.hid hG5; clear hA5 hO5 hG5)
          have hg1 : ∀ i ∈ g5.toList, X0.heap.size ≤ i := by
            intro i hi
            rcases HG5.out with h | h
            · rw [h] at hi; exact HGg.out i hi
            · rw [h] at hi; simp at hi hVz; omega
          have hK5 : Kept X0 w5 := HKL.out.onl HO5.out HGg.out
          go_roundw
          case rel => exact ⟨j + 1, r + 1, a5, c5, g5, rfl, by go_num, by omega, by omega, by rw [HSc.out, ivs_app]; exact HA5.out, hK5, hg1⟩
          case measure => simp [intOf]; omega
        | false =>
          rw [hp, if_neg (by simp)] at HSc
          clear hp
          go_wp2_with fail
          go_roundw
          case rel => exact ⟨j + 1, r, a', c', g, rfl, by go_num, by omega, by omega, by rw [HSc.out]; exact HA2.out, HK2.out, HGg⟩
          case measure => simp [intOf]; omega
      · have hge : (k0 : Int) ≤ j := by omega
        obtain rfl : j = k0 := by omega
        have HSl := Lib.hid (app_sl HA.out)
        have HKF := Lib.hid (HK0.out.trans HK.out)
        have HNew : Hid (∀ y, a' = some y → bx ≤ y.block) := fun y hy => by
          subst hy
          have h1 := HGg.out y.block (by rw [app_blkI HA.out]; simp)
          omega
        go_wp2_with fail
        go_ret
        exact ⟨a', r, c', rfl, by rw [HR.out]; exact HSl.out, HKF.out, by omega, fun y hy => by rw [hbx]; exact HNew.out y hy⟩
end Go.Proofs.Ytmejphlpcgochaa
