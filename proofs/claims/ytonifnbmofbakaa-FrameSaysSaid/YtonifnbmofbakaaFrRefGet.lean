/- The reference's GetRec. -/
import Derived.Test.YtonifnbmofbakaaFrRefPut
set_option linter.unusedVariables false
set_option linter.unusedSimpArgs false
namespace Go.Proofs.Ytonifnbmofbakaa
open Go.RowKit
set_option maxRecDepth 100000 in
set_option maxHeartbeats 2000000 in
theorem ref_get_small (a : Option Addr) (n c : Nat) (zs : List Int) (w : World) (hS : Sl .u8 w a n c zs) (hB : IsB zs) (hn2 : n ≤ 100000) (hbad : n < 4 ∨ 1024 < rdN zs 4 ∨ (n : Int) < 16 + rdN zs 4) :
    Calls Try.prog 14 #[.slice a n c] w fun e w' => e = .returned (.tuple #[rrecV 0 (strOf []), .int .i64 0, .int .i64 (if n < 4 then 3 else if 1024 < rdN zs 4 then 14 else 3)]) ∧ Kept w w' := by
  have K := kept_al w (.cells #[.int .u64 0, .string ⟨#[]⟩] 41)
  have hh := heap_alloc_new w (.cells #[.int .u64 0, .string ⟨#[]⟩] 41)
  have d0 := at_cell hh 0 _ rfl
  have d1 := at_cell hh 1 _ rfl
  have f0 := one_free hh 0
  have f1 := one_free hh 1
  have hnc := hS.2.1
  have hs : strOf [] = ⟨#[]⟩ := rfl
  rw [hs]
  unfold rrecV
  by_cases h4 : n < 4
  · have h4' : ¬ (4 ≤ (n : Int)) := by omega
    have h16 : (n : Int) < 16 := by omega
    rw [if_pos h4]
    clear hS hB hh hbad
    go_enter Try.func14, Try.ntmps14
    go_wp2
    exact bodyPost_ret (v := .tuple #[.agg #[.int .u64 0, .string ⟨#[]⟩], .int .i64 0, .int .i64 3]) (by simp [results, Try.results14, go_sem, d0, d1]) rfl ⟨rfl, K⟩
  · have h4' : 4 ≤ (n : Int) := by omega
    rw [if_neg h4]
    have x1 := fun W => run_cut_h elemB a n c .i64 4 (4 : Int) rfl (by omega) W
    have HR := Lib.hid (ref_value a 4 c (zs.take 4) (w.alloc (.cells #[.int .u64 0, .string ⟨#[]⟩] 41)) (sl_take (K.sl hS) 4 (by omega)) (isB_take hB 4) (by omega))
    rw [rdN_congr 4 (fun i hi => take_getD zs hi)] at HR
    have hbd := rdN_bd hB 4 (by omega)
    rw [show (2 : Int) ^ (8 * 4) = 4294967296 from rfl] at hbd
    obtain ⟨b0, b1⟩ := hbd
    clear hS hh hB
    generalize rdN zs 4 = N at *
    have hw : IntKind.i64.wrap N = N := by rw [IntKind.wrap_i64]; omega
    by_cases h1 : 1024 < N
    · have hd : decide (1024 < N) = true := decide_eq_true h1
      rw [if_pos h1]
      clear hbad
      go_enter Try.func14, Try.ntmps14
      go_wp2_with fail
      refine HR.out.mono ?_
      rintro e w' ⟨rfl, rfl⟩
      go_wp2
      exact bodyPost_ret (v := .tuple #[.agg #[.int .u64 0, .string ⟨#[]⟩], .int .i64 0, .int .i64 14]) (by simp [results, Try.results14, go_sem, d0, d1]) rfl ⟨rfl, K⟩
    · have hd : decide (1024 < N) = false := decide_eq_false h1
      have h2 : (n : Int) < 16 + N := by omega
      have hd2 : decide ((n : Int) < 16 + N) = true := decide_eq_true h2
      have h1' : N ≤ 1024 := by omega
      rw [if_neg h1]
      clear hbad
      by_cases h16 : (n : Int) < 16
      · go_enter Try.func14, Try.ntmps14
        go_wp2_with fail
        refine HR.out.mono ?_
        rintro e w' ⟨rfl, rfl⟩
        go_wp2
        exact bodyPost_ret (v := .tuple #[.agg #[.int .u64 0, .string ⟨#[]⟩], .int .i64 0, .int .i64 3]) (by simp [results, Try.results14, go_sem, d0, d1]) rfl ⟨rfl, K⟩
      · go_enter Try.func14, Try.ntmps14
        go_wp2_with fail
        refine HR.out.mono ?_
        rintro e w' ⟨rfl, rfl⟩
        go_wp2_with fail
        refine HR.out.mono ?_
        rintro e w' ⟨rfl, rfl⟩
        go_wp2
        exact bodyPost_ret (v := .tuple #[.agg #[.int .u64 0, .string ⟨#[]⟩], .int .i64 0, .int .i64 3]) (by simp [results, Try.results14, go_sem, d0, d1]) rfl ⟨rfl, K⟩
theorem only_set2 (w : World) (q : Nat) (u0 u1 : Value) : Only [q] w ((w.setCell ⟨q, 0, none⟩ u0).setCell ⟨q, 1, none⟩ u1) :=
  (((Only.refl [q] w).setCell (fun _ => by simp) u0).setCell (fun _ => by simp) u1)
theorem two_set {w : World} {p : Nat} {t : TypeId} {m : Nat × Nat} {v0 v1 : Value} (h : w.heap[p]? = some (.cells #[v0, v1] t m)) (u0 u1 : Value) :
    ((w.setCell ⟨p, 0, none⟩ u0).setCell ⟨p, 1, none⟩ u1).heap[p]? = some (.cells #[u0, u1] t m) := by
  have h1 := at_set h 0 u0
  have h2 := at_set h1 1 u1
  simpa using h2
set_option maxRecDepth 100000 in
set_option maxHeartbeats 4000000 in
theorem ref_get_whole (a : Option Addr) (n c N : Nat) (zs : List Int) (w : World) (hS : Sl .u8 w a n c zs) (hB : IsB zs) (hn2 : n ≤ 100000) (hN : rdN zs 4 = N) (hN2 : N ≤ 1024) (hlen : 16 + N ≤ n) :
    Calls Try.prog 14 #[.slice a n c] w fun e w' => e = .returned (if sumOf (zs.take 12 ++ (zs.take (16 + N)).drop 16) = rdN ((zs.take 16).drop 12) 4 then .tuple #[rrecV (rdN ((zs.take 12).drop 4) 8) (strOf ((zs.take (16 + N)).drop 16)), .int .i64 (16 + (N : Int)), .int .i64 0] else .tuple #[rrecV 0 (strOf []), .int .i64 0, .int .i64 2]) ∧ Kept w w' := by
  have K := kept_al w (.cells #[.int .u64 0, .string ⟨#[]⟩] 41)
  have hh := heap_alloc_new w (.cells #[.int .u64 0, .string ⟨#[]⟩] 41)
  have d0 := at_cell hh 0 _ rfl
  have d1 := at_cell hh 1 _ rfl
  have f0 := one_free hh 0
  have f1 := one_free hh 1
  have hnc := hS.2.1
  have h4 : 4 ≤ (n : Int) := by omega
  have h16 : ¬ ((n : Int) < 16) := by omega
  have hd : decide ((1024 : Int) < (N : Int)) = false := decide_eq_false (by omega)
  have hd2 : decide ((n : Int) < 16 + (N : Int)) = false := decide_eq_false (by omega)
  have x1 := fun W => run_cut_h elemB a n c .i64 4 (4 : Int) rfl (by omega) W
  have x2 := fun W => run_cut_h elemB a n c .i64 12 (12 : Int) rfl (by omega) W
  have x3 := fun W => run_cut_lh elemB a n c .i64 .i64 16 (16 + N) (16 : Int) (16 + (N : Int)) rfl (by push_cast; rfl) (by omega) (by omega) W
  have x4 := fun W => run_cut_lh elemB a n c .i64 .i64 12 16 (12 : Int) (16 : Int) rfl rfl (by omega) (by omega) W
  have x5 := fun W => run_cut_lh elemB a n c .i64 .i64 4 12 (4 : Int) (12 : Int) rfl rfl (by omega) (by omega) W
  rw [show (16 - 12 : Nat) = 4 from rfl] at x4
  rw [show (12 - 4 : Nat) = 8 from rfl] at x5
  rw [show 16 + N - 16 = N by omega] at x3
  have hw : IntKind.i64.wrap (N : Int) = N := by rw [IntKind.wrap_i64]; omega
  have hwN : IntKind.i64.wrap (16 + (N : Int)) = 16 + N := by rw [IntKind.wrap_i64]; omega
  have HR := Lib.hid (ref_value a 4 c (zs.take 4) (w.alloc (.cells #[.int .u64 0, .string ⟨#[]⟩] 41)) (sl_take (K.sl hS) 4 (by omega)) (isB_take hB 4) (by omega))
  rw [rdN_congr 4 (fun i hi => take_getD zs hi), hN] at HR
  have HSv := Lib.hid (fun V (k : Kept (w.alloc (.cells #[.int .u64 0, .string ⟨#[]⟩] 41)) V) => (k.sl (K.sl hS)))
  have HV4 := Lib.hid (fun V (k : Kept (w.alloc (.cells #[.int .u64 0, .string ⟨#[]⟩] 41)) V) => ref_value (cutA a c 12 1) 4 (c - 12) ((zs.take 16).drop 12) V (sl_cut (k.sl (K.sl hS)) 12 16 (by omega) (by omega)) (isB_drop (isB_take hB _) _) (by omega))
  have HV8 := Lib.hid (fun V (k : Kept (w.alloc (.cells #[.int .u64 0, .string ⟨#[]⟩] 41)) V) => ref_value (cutA a c 4 1) 8 (c - 4) ((zs.take 12).drop 4) V (sl_cut (k.sl (K.sl hS)) 4 12 (by omega) (by omega)) (isB_drop (isB_take hB _) _) (by omega))
  have HP := Lib.hid (fun V (k : Kept (w.alloc (.cells #[.int .u64 0, .string ⟨#[]⟩] 41)) V) => (sl_cut (k.sl (K.sl hS)) 16 (16 + N) (by omega) (by omega)))
  rw [show 16 + N - 16 = N by omega] at HP
  have HPw := Lib.hid (fun V (k : Kept w V) => (sl_cut (k.sl hS) 16 (16 + N) (by omega) (by omega)))
  rw [show 16 + N - 16 = N by omega] at HPw
  have H12 := Lib.hid (fun V (k : Kept (w.alloc (.cells #[.int .u64 0, .string ⟨#[]⟩] 41)) V) => (sl_take (k.sl (K.sl hS)) 12 (by omega)))
  have HSum := Lib.hid (fun x y V (hS : Sl .u8 V x (12 + N) y (zs.take 12 ++ (zs.take (16 + N)).drop 16)) => ref_sum x (12 + N) y _ V hS (isB_append (isB_take hB _) (isB_drop (isB_take hB _) _)))
  obtain ⟨k1, k2, k3⟩ := sumOf_good (zs.take 12 ++ (zs.take (16 + N)).drop 16)
  have hcc : Hid (bytesV (zs.take 12 ++ (zs.take (16 + N)).drop 16) = bytesV (zs.take 12) ++ bytesV ((zs.take (16 + N)).drop 16)) := bytesV_append _ _
  have HH := Lib.hid hh
  have hs0 : strOf [] = ⟨#[]⟩ := rfl
  rw [hs0]
  unfold rrecV
  generalize sumOf (zs.take 12 ++ (zs.take (16 + N)).drop 16) = s2 at *
  generalize rdN ((zs.take 16).drop 12) 4 = s3 at *
  generalize rdN ((zs.take 12).drop 4) 8 = at8 at *
  have hw2 : IntKind.u64.wrap s2 = s2 := by rw [IntKind.wrap_u64]; omega
  clear hS hB hh hN HSv
  generalize hX : w.alloc (.cells #[.int .u64 0, .string ⟨#[]⟩] 41) = X at *
  have hXs : w.heap.size < X.heap.size := by rw [← hX]; simp
  go_enter Try.func14, Try.ntmps14
  go_wp2_with fail
  refine HR.out.mono ?_
  rintro e w' ⟨rfl, rfl⟩
  go_wp2_with fail
  refine HR.out.mono ?_
  rintro e w' ⟨rfl, rfl⟩
  go_wp2_with fail
  refine HR.out.mono ?_
  rintro e w' ⟨rfl, rfl⟩
  go_wp2_with fail
  clear d0 d1 f0 f1 HR
  have hE : Hid (App ((X.alloc (.cells #[] 5)).drew) 5 1 (.slice (some ⟨X.heap.size, 0, none⟩) 0 0) 0 (some X.heap.size) []) := (Kept.refl _ |>.dr ⟨1, rfl⟩ : Kept _ (X.alloc (.cells #[] 5)).drew).only.app (app_empty X _) (by simp)
  have KD : Kept X (X.alloc (.cells #[] 5)).drew := (kept_al X _).dr ⟨1, rfl⟩
  go_region_held3 (fun _ => True) (exact trivial) (first | (refine step_app rfl (.tmp 39) (.tmp 41) 23 23 rfl elemB _ 0 _ _ rfl hE.out _ 12 _ rfl (src_sl Try.underlying23 (H12.out _ KD)) (by omega) (by unfold maxLen; omega) ?_; intro p4 c4 g4 V4 hA4 hO4 hG4; have HA4 := Lib.hid hA4; have hn4 : ∀ k, g4 = some k → X.heap.size ≤ k := (by intro k hk; rcases hG4 with h | h <;> rw [h] at hk <;> simp at hk <;> omega); replace KD := KD.onl hO4 (by intro i hi; simp at hi; omega); clear hA4 hO4 hG4 hE) | (refine step_app rfl (.tmp 42) (.tmp 43) 23 23 rfl elemB _ 12 _ _ rfl HA4.out _ N _ rfl (src_sl Try.underlying23 (HP.out _ KD)) (by omega) (by unfold maxLen; omega) ?_; intro p5 c5 g5 V5 hA5 hO5 hG5; have HS5 : Hid (Sl .u8 V5 p5 (12 + N) c5 (zs.take 12 ++ (zs.take (16 + N)).drop 16)) := (by have h := hA5; rw [List.nil_append] at h; unfold Hid; refine (app_sl (g := g5) ?_).1; rw [hcc.out]; exact h); replace KD := KD.onl hO5 (by intro i hi; exact hn4 i (by simpa using hi)); clear hA5 hO5 hG5 HA4 hn4) | (go_at_call 25; refine (HSum.out _ _ _ HS5.out).mono ?_; rintro e V6 ⟨rfl, dd⟩; replace KD := KD.dr dd; clear dd HS5) | (go_at_call 26; refine (HV4.out _ KD).mono ?_; rintro e w' ⟨rfl, rfl⟩))
  have hR := KD.only.heap HH.out (by simp)
  obtain ⟨bq, hq⟩ : ∃ bq, (s2 != s3) = bq := ⟨_, rfl⟩
  rw [hq]
  have HQ := Lib.hid hq
  clear hq
  cases bq
  · have heq : s2 = s3 := by have h := HQ.out; simpa using h
    have r0 := at_cell hR 0 _ rfl
    have r1 := at_cell hR 1 _ rfl
    have f0 := one_free hR 0
    have f1 := one_free hR 1
    have HRR := Lib.hid hR
    have hKs := KD.size
    have hstr := Lib.hid (fun V (k : Kept w V) => run_str (P := Try.prog) 23 9 5 Try.underlying23 Try.underlying5 Try.underlying9 (HPw.out V k))
    clear hR
    have KD6 := KD
    replace KD : Kept X V6.drew := KD.dr ⟨1, rfl⟩
    go_wp2_with fail
    go_region_held3 (fun V => (convert 23 9 (.slice (cutA a c 16 1) N (c - 16))).run Try.prog V = .ok (.string (strOf ((zs.take (16 + N)).drop 16))) V) (first | exact hstr.out _ (K.trans KD) | exact hstr.out _ ((K.trans KD).onl (only_set2 _ w.heap.size _ _) (by intro i hi; have := List.mem_singleton.1 hi; omega))) ((go_at_call 26; refine (HV8.out _ KD).mono ?_; rintro e w' ⟨rfl, rfl⟩))
    clear r0 r1 f0 f1 hstr
    have o2 := only_set2 V6 w.heap.size (.int .u64 at8) (.string (strOf ((zs.take (16 + N)).drop 16)))
    have hq2 := two_set (w := V6) HRR.out (.int .u64 at8) (.string (strOf ((zs.take (16 + N)).drop 16)))
    have d3 := (two_cells hq2).1
    have d4 := (two_cells hq2).2
    have KF : Kept w ((V6.setCell ⟨w.heap.size, 0, none⟩ (.int .u64 at8)).setCell ⟨w.heap.size, 1, none⟩ (.string (strOf ((zs.take (16 + N)).drop 16)))).drew := ((K.trans KD6).onl o2 (by intro i hi; have := List.mem_singleton.1 hi; omega)).dr ⟨1, rfl⟩
    clear hq2
    go_wp2
    exact bodyPost_ret (v := .tuple #[.agg #[.int .u64 at8, .string (strOf ((zs.take (16 + N)).drop 16))], .int .i64 (16 + (N : Int)), .int .i64 0]) (by simp [results, Try.results14, go_sem, d3, d4]) rfl ⟨by first | rfl | rw [if_pos heq], KF⟩
  · have hne : s2 ≠ s3 := by have h := HQ.out; simpa using h
    have r0 := at_cell hR 0 _ rfl
    have r1 := at_cell hR 1 _ rfl
    have f0 := one_free hR 0
    have f1 := one_free hR 1
    have hKs := KD.size
    have o2 := only_set2 V6 w.heap.size (.int .u64 0) (.string ⟨#[]⟩)
    have hq2 := two_set (w := V6) hR (.int .u64 0) (.string ⟨#[]⟩)
    have d3 := (two_cells hq2).1
    have d4 := (two_cells hq2).2
    have KF := (K.trans KD).onl o2 (by intro i hi; have := List.mem_singleton.1 hi; omega)
    clear hq2 hR
    go_wp2
    exact bodyPost_ret (v := .tuple #[.agg #[.int .u64 0, .string ⟨#[]⟩], .int .i64 0, .int .i64 2]) (by simp [results, Try.results14, go_sem, d3, d4]) rfl ⟨by first | rfl | rw [if_neg hne], KF⟩
/-- GetRec as one contract -/
theorem ref_get (a : Option Addr) (n c : Nat) (zs : List Int) (w : World) (hS : Sl .u8 w a n c zs) (hB : IsB zs) (hn2 : n ≤ 100000) :
    Calls Try.prog 14 #[.slice a n c] w fun e w' => e = .returned (.tuple #[rrecV (getR zs).1 (strOf (getR zs).2.1), .int .i64 ((getR zs).2.2.1 : Nat), .int .i64 (getR zs).2.2.2]) ∧ Kept w w' := by
  have hl := hS.1
  have hb := rdN_bd hB 4 (by omega)
  by_cases c1 : n < 4 ∨ 1024 < rdN zs 4 ∨ (n : Int) < 16 + rdN zs 4
  · have e : getR zs = (0, [], 0, if n < 4 then 3 else if 1024 < rdN zs 4 then 14 else 3) := by
      unfold getR
      rw [hl]
      split
      · rfl
      · split
        · rfl
        · rw [if_pos (by omega)]
    refine (ref_get_small a n c zs w hS hB hn2 c1).mono ?_
    rintro E w' ⟨rfl, K⟩
    rw [e]
    exact ⟨rfl, K⟩
  · obtain ⟨N, hN⟩ := Int.eq_ofNat_of_zero_le hb.1
    rw [hN] at c1
    refine (ref_get_whole a n c N zs w hS hB hn2 hN (by omega) (by omega)).mono ?_
    rintro E w' ⟨rfl, K⟩
    refine ⟨?_, K⟩
    by_cases c3 : sumOf (zs.take 12 ++ (zs.take (16 + N)).drop 16) = rdN ((zs.take 16).drop 12) 4
    · rw [if_pos c3, getR_yes N hN (by omega) (by omega) c3]
      rfl
    · have e : getR zs = (0, [], 0, 2) := by
        unfold getR
        rw [hN, if_neg (by omega), if_neg (by omega), if_neg (by omega), Int.toNat_natCast, if_neg c3]
      rw [if_neg c3, e]
      rfl
end Go.Proofs.Ytonifnbmofbakaa
