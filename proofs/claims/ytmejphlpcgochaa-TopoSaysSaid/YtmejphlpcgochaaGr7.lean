/- Graphs: Reach. -/
import Derived.Test.YtmejphlpcgochaaGr6
set_option linter.unusedVariables false
set_option linter.unusedSimpArgs false
namespace Go.Proofs.Ytmejphlpcgochaa
open Go.RowKit
/-- the places at which a row is above nought -/
def posU (d : List Int) (k : Nat) : List Int := ((List.range k).filter fun b => decide (0 < d.getD b 0)).map Int.ofNat
def posI (d : List Int) : List Int := posU d d.length
theorem posU_succ (d : List Int) (k : Nat) : posU d (k + 1) = if 0 < d.getD k 0 then posU d k ++ [(k : Int)] else posU d k := by
  unfold posU
  rw [List.range_succ, List.filter_append, List.map_append]
  split <;> rename_i h
  · simp only [List.filter_cons, List.filter_nil, decide_eq_true h, if_true]; rfl
  · simp only [List.filter_cons, List.filter_nil, decide_eq_false h]; simp
def reachL (N : Int) (E : List Ed) (n : Int) : List Int := if (goodG N E && inG N n) = true then posI (farL N E n) else []
set_option maxRecDepth 100000 in
set_option maxHeartbeats 8000000 in
theorem g_reach {w : World} {s : Option Addr} {m c : Nat} {E : List Ed} (N n : Int) (hE : SlE w s m c E) (hm : m ≤ 900) :
    Calls Try.prog 11 #[.agg #[.int .i64 N, .slice s m c], .int .i64 n] w fun e w' => ∃ (a : Option Addr) (k c' : Nat), e = .returned (.slice a k c') ∧ Sl .i64 w' a k c' (reachL N E n) ∧ Kept w w' ∧ k ≤ 16 ∧ (∀ y, a = some y → w.heap.size ≤ y.block) := by
  have hB0 := heap_alloc_new w (.cells #[.int .i64 N, .slice s m c] 24)
  have K0 := kept_al w (.cells #[.int .i64 N, .slice s m c] 24)
  have b0 := at_cell hB0 0 _ rfl
  have b1 := at_cell hB0 1 _ rfl
  have HGd := Lib.hid (g_good N (hE.kept K0) (by omega))
  have HE := Lib.hid hE
  have HK0 := Lib.hid K0
  clear hE K0 hB0
  go_enter Try.func11, Try.ntmps11
  go_wp2_with fail
  generalize World.alloc w _ = X0 at *
  generalize hbx : w.heap.size = bx at *
  refine HGd.out.mono ?_
  rintro E1 V1 ⟨rfl, hK1⟩
  have HK1 := Lib.hid (HK0.out.trans hK1)
  replace b0 := hK1.cel b0
  replace b1 := hK1.cel b1
  clear hK1 HGd
  cases hg : goodG N E with
  | false =>
    have HR : Hid (reachL N E n = []) := by unfold Hid reachL; rw [hg]; rfl
    clear hg
    go_wp2_with fail
    go_ret
    exact ⟨none, 0, 0, rfl, by rw [HR.out]; exact sl_nil _ _, HK1.out, Nat.zero_le _, fun y hy => by cases hy⟩
  | true =>
    have HG : Hid (goodG N E = true) := hg
    clear hg
    have HIn := Lib.hid (g_in N s m c n V1)
    go_wp2_with fail
    refine HIn.out.mono ?_
    rintro E2 V2 ⟨rfl, hK2⟩
    have HK2 := Lib.hid (HK1.out.trans hK2)
    replace b0 := hK2.cel b0
    replace b1 := hK2.cel b1
    clear hK2 HIn
    cases hi : inG N n with
    | false =>
      have HR : Hid (reachL N E n = []) := by unfold Hid reachL; rw [HG.out, hi]; rfl
      clear hi
      go_wp2_with fail
      go_ret
      exact ⟨none, 0, 0, rfl, by rw [HR.out]; exact sl_nil _ _, HK2.out, Nat.zero_le _, fun y hy => by cases hy⟩
    | true =>
      have hN := good_N HG.out
      obtain ⟨k0, rfl⟩ : ∃ k0 : Nat, N = k0 := ⟨N.toNat, by omega⟩
      have HR : Hid (reachL k0 E n = posI (farL k0 E n)) := by unfold Hid reachL; rw [HG.out, hi]; rfl
      have HFr := Lib.hid (g_far k0 n (HE.out.kept HK2.out) hm HG.out)
      clear hi
      go_wp2_with fail
      refine HFr.out.mono ?_
      rintro E3 V3 ⟨fa, fc, rfl, hSf, hK3⟩
      have HSf := Lib.hid hSf
      have hfl := hSf.1
      have hfc := hSf.2.1
      have HK3 := Lib.hid (HK2.out.trans hK3)
      clear hSf hK3 HFr b0 b1
      obtain ⟨d, hd⟩ : ∃ d, farL k0 E n = d := ⟨_, rfl⟩
      rw [hd] at HSf hfl HR
      clear hd
      go_wp2_with fail
      go_loopw [5, 21] (fun v i wr => ∃ (j r : Nat) (a' : Option Addr) (c' : Nat) (g : Option Nat), v = .slice a' r c' ∧ i = .int .i64 (j : Nat) ∧ j ≤ k0 ∧ r ≤ j ∧ Hid (App wr 3 1 (.slice a' r c') r g (ivs (posU d j))) ∧ Hid (Kept V3 wr) ∧ Hid (∀ k ∈ g.toList, V3.heap.size ≤ k)) (fun _ i _ => k0 - (intOf i).toNat)
      case atStart => exact ⟨0, 0, none, 0, none, rfl, rfl, by omega, by omega, app_nil _ _ _, Kept.refl _, by intro k hk; simp at hk⟩
      case round =>
        obtain ⟨j, r, a', c', g, rfl, rfl, hj, hr, HA, HK, HGg⟩ := hrel
        by_cases hlt : j < k0
        · have hlt' : (j : Int) < k0 := by omega
          obtain ⟨bf, of', dv, rfl, hdc, hdv⟩ := (HK.out.sl HSf.out).at j hlt
          have HSc := Lib.hid (posU_succ d j)
          rw [← hdv.out] at HSc
          clear hdv
          by_cases hp : 0 < dv
          · rw [if_pos hp] at HSc
            have KL := kept_al wr (.cells #[.int .i64 (j : Nat)] 3)
            have HAL := Lib.hid (KL.only.app HA.out (by simp))
            have HKL := Lib.hid (HK.out.trans KL)
            have HSrc := Lib.hid (src_block (P := Try.prog) (size := 1) Try.underlying29 (heap_alloc_new wr (.cells #[.int .i64 (j : Nat)] 3)) 1 1 rfl (by simp [Value.oneCell']))
            have hVz := HKL.out.size
            clear KL
            go_wp2_with (at_builtin; refine wpList_app rfl (.tmp 28) (.tmp 30) 29 29 rfl elemI _ r _ _ rfl HAL.out _ 1 _ rfl HSrc.out (by omega) (by unfold maxLen; omega) ?_; intro a5 c5 g5 w5 hA5 hO5 hG5; have HA5 := Lib.hid hA5; have HO5 := Lib.hid hO5; have HG5 := Lib.hid hG5; clear hA5 hO5 hG5)
            have hg1 : ∀ i ∈ g5.toList, V3.heap.size ≤ i := by
              intro i hi
              rcases HG5.out with h | h
              · rw [h] at hi; exact HGg.out i hi
              · rw [h] at hi; simp at hi hVz; omega
            have hK5 : Kept V3 w5 := HKL.out.onl HO5.out HGg.out
            go_roundw
            case rel => exact ⟨j + 1, r + 1, a5, c5, g5, rfl, by go_num, by omega, by omega, by rw [HSc.out, ivs_app]; exact HA5.out, hK5, hg1⟩
            case measure => simp [intOf]; omega
          · rw [if_neg hp] at HSc
            go_wp2_with fail
            go_roundw
            case rel => exact ⟨j + 1, r, a', c', g, rfl, by go_num, by omega, by omega, by rw [HSc.out]; exact HA, HK, HGg⟩
            case measure => simp [intOf]; omega
        · have hge : (k0 : Int) ≤ j := by omega
          obtain rfl : j = k0 := by omega
          have HSl := Lib.hid (app_sl HA.out)
          have HKF := Lib.hid (HK3.out.trans HK.out)
          have HNew : Hid (∀ y, a' = some y → bx ≤ y.block) := fun y hy => by
            subst hy
            have h1 := HGg.out y.block (by rw [app_blkI HA.out]; simp)
            have h2 := HK3.out.size
            omega
          have HPd : Hid (posI d = posU d j) := by unfold Hid posI; rw [hfl]
          go_wp2_with fail
          go_ret
          exact ⟨a', r, c', rfl, by rw [HR.out, HPd.out]; exact HSl.out, HKF.out, by omega, fun y hy => by rw [hbx]; exact HNew.out y hy⟩
end Go.Proofs.Ytmejphlpcgochaa
