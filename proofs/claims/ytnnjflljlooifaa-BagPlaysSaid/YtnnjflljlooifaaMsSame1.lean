/- slices.Equal of stamps; the law of two records that are the same. -/
import Derived.Test.YtnnjflljlooifaaMsEq
import Derived.Test.YtnnjflljlooifaaMsBase
import Derived.Test.YtnnjflljlooifaaStrs
import Derived.Deep.RegionHeld3
import Derived.Deep.CutRange
set_option linter.unusedVariables false
set_option linter.unusedSimpArgs false
namespace Go.Proofs.Ytnnjflljlooifaa
open Go.RowKit
set_option maxHeartbeats 1000000 in
theorem stamps_equal (a : Option Addr) (n c : Nat) (b : Option Addr) (m d : Nat) (T T' : List Int) (w : World) (hx : Sl .u64 w a n c T) (hy : Sl .u64 w b m d T') :
    Calls Try.prog 21 #[.slice a n c, .slice b m d] w fun e w' => e = .returned (.bool (decide (T = T'))) ∧ Dr w w' := by
  have hn : T.length = n := hx.1
  have hm : T'.length = m := hy.1
  have hnc := hx.2.1
  have hcm := hx.2.2.1
  have hnc2 := hy.2.1
  have hcm2 := hy.2.2.1
  unfold maxLen at hcm hcm2
  have HX := Lib.hid hx
  have HY := Lib.hid hy
  clear hx hy
  by_cases hnm : n = m
  · subst hnm
    have tnm : (n != n) = false := by simp
    generalize hgg : decide (T = T') = gg
    have HG := Lib.hid hgg
    clear hgg
    go_enter Try.func21, Try.ntmps21
    go_wp2_with fail
    go_loopw [13] (fun i wr => ∃ j : Nat, i = .int .i64 j ∧ j ≤ n ∧ Dr w wr ∧ Hid (∀ q, q < j → T.getD q 0 = T'.getD q 0)) (fun i _ => n - (intOf i).toNat)
    case atStart => exact ⟨0, rfl, by omega, Dr.refl _, fun q h => by omega⟩
    case round =>
      obtain ⟨q, rfl, hq, hD, HE⟩ := hrel
      have KW : Kept w wr := (Kept.refl w).dr hD
      by_cases hlt : q < n
      · have hlt' : (q : Int) < n := by omega
        obtain ⟨b0, ob, v, rfl, q0, hv⟩ := (KW.sl HX.out).at q hlt
        obtain ⟨b', ob', v', rfl, r0, hv'⟩ := (KW.sl HY.out).at q hlt
        by_cases hvv : v = v'
        · have HE2 : Hid (∀ i, i < q + 1 → T.getD i 0 = T'.getD i 0) := fun i h => by
            rcases Nat.lt_or_ge i q with h' | h'
            · exact HE.out i h'
            · obtain rfl : i = q := by omega
              rw [← hv.out, ← hv'.out, hvv]
          have tvv : (v != v') = false := by simp [hvv]
          clear hv hv' hvv HE
          go_upto_region 6 with fail
          go_quiet (fail)
          go_wp2
          go_roundw
          case rel => exact ⟨q + 1, by go_num, by omega, hD.trans ((Dr.refl _).drewN _), HE2.out⟩
          case measure => simp [intOf]; omega
        · have hgf : gg = false := by
            rw [← HG.out]
            refine decide_eq_false fun h => hvv ?_
            rw [hv.out, hv'.out, h]
          have tvv : (v != v') = true := by simp [hvv]
          subst hgf
          clear hv hv' hvv HE HG
          go_upto_region 6 with fail
          go_quiet (fail)
          go_wp2
          exact bodyPost_ret (v := .bool false) (by simp [results, Try.results21, go_sem]) rfl ⟨rfl, hD.trans ((Dr.refl _).drewN _)⟩
      · have hge : (n : Int) ≤ q := by omega
        have hgt : gg = true := by
          rw [← HG.out]
          refine decide_eq_true (take_eq (by omega) fun i hi => ?_)
          have h := HE.out i (by omega)
          rw [List.getD_eq_getElem?_getD, List.getD_eq_getElem?_getD, List.getElem?_eq_getElem hi, List.getElem?_eq_getElem (by omega)] at h
          rw [List.getElem?_eq_getElem hi, List.getElem?_eq_getElem (by omega)]
          simpa using h
        subst hgt
        clear HG HE
        go_wp2
        exact bodyPost_ret (v := .bool true) (by simp [results, Try.results21, go_sem]) rfl ⟨rfl, hD⟩
  · have hf : decide (T = T') = false := decide_eq_false fun h => hnm (by rw [← hn, ← hm, h])
    rw [hf]
    have tnm : ((n : Int) != m) = true := by simp; omega
    go_enter Try.func21, Try.ntmps21
    go_wp2
    exact bodyPost_ret (v := .bool false) (by simp [results, Try.results21, go_sem]) rfl ⟨rfl, Dr.refl _⟩
set_option maxHeartbeats 1000000 in
theorem rec_same (x y : Int) (a : Option Addr) (n c : Nat) (b : Option Addr) (m d : Nat) (zs ys : List Int) (w : World) (hx : Sl .u8 w a n c zs) (hy : Sl .u8 w b m d ys) (ix : IsB zs) (iy : IsB ys) :
    Calls Try.prog 19 #[.agg #[.int .u64 x, .slice a n c], .agg #[.int .u64 y, .slice b m d]] w fun e w' => e = .returned (.bool (decide (x = y ∧ zs = ys))) ∧ Kept w w' := by
  have K1 := kept_al w (.cells #[.int .u64 x, .slice a n c] 58)
  have h1 := heap_alloc_new w (.cells #[.int .u64 x, .slice a n c] 58)
  have K2 := kept_al (w.alloc (.cells #[.int .u64 x, .slice a n c] 58)) (.cells #[.int .u64 y, .slice b m d] 58)
  have h2 := two_new' w (.cells #[.int .u64 x, .slice a n c] 58) (.cells #[.int .u64 y, .slice b m d] 58)
  have h1' := K2.only.heap h1 (by simp)
  have HE := Lib.hid (bytes_equal a n c b m d zs ys _ ((K1.trans K2).sl hx) ((K1.trans K2).sl hy) ix iy)
  have KK := K1.trans K2
  obtain ⟨q0, q1⟩ := two_cells h1'
  obtain ⟨r0, r1⟩ := two_cells h2
  clear hx hy h1 h2 h1' K1 K2
  by_cases hxy : x = y
  · subst hxy
    have hd : decide (x = x ∧ zs = ys) = decide (zs = ys) := by simp
    rw [hd]
    clear hd
    generalize decide (zs = ys) = g at *
    go_enter Try.func19, Try.ntmps19
    go_upto_region 1 with fail
    generalize World.alloc (World.alloc w _) _ = X at *
    go_wp2_with (go_at_call 20; refine HE.out.mono ?_; rintro E V ⟨rfl, rfl⟩)
    exact bodyPost_ret (v := .bool g) (by simp [results, Try.results19, go_sem]) rfl ⟨rfl, KK⟩
  · have hd : decide (x = y ∧ zs = ys) = false := decide_eq_false fun h => hxy h.1
    rw [hd]
    have t1 : (x == y) = false := by simp [hxy]
    clear hd HE
    go_enter Try.func19, Try.ntmps19
    go_upto_region 1 with fail
    generalize World.alloc (World.alloc w _) _ = X at *
    go_wp2_with fail
    exact bodyPost_ret (v := .bool false) (by simp [results, Try.results19, go_sem]) rfl ⟨rfl, KK⟩
end Go.Proofs.Ytnnjflljlooifaa
