/- The reference's PutRec. -/
import Derived.Test.YtonifnbmofbakaaFrRef
import Derived.Test.YtonifnbmofbakaaStrs
import Derived.Deep.RegionHeld3
set_option linter.unusedVariables false
set_option linter.unusedSimpArgs false
namespace Go.Proofs.Ytonifnbmofbakaa
open Go.RowKit
def rrecV (at' : Int) (s : ByteArray) : Value := .agg #[.int .u64 at', .string s]
theorem src_str {zs : List Int} {n : Nat} (hB : IsB zs) (hn : zs.length = n) (W : World) : Src Try.prog 1 9 (.string (strOf zs)) n (zs.map (Value.int .u8)) W := by
  have h := Src.ofString (P := Try.prog) W Try.underlying9 (strOf zs)
  rwa [strOf_size, byteCells_eq, ofStr_strOf hB, hn] at h
set_option maxRecDepth 100000 in
set_option maxHeartbeats 1000000 in
theorem ref_put_no (at' : Int) (zs : List Int) (n : Nat) (w : World) (hl : zs.length = n) (hn : 1024 < n) (hn2 : n ≤ 4611686018427387904) :
    Calls Try.prog 13 #[rrecV at' (strOf zs)] w fun e w' => e = .returned (.tuple #[.slice none 0 0, .bool false]) ∧ Kept w w' := by
  have K := kept_al w (.cells #[.int .u64 at', .string (strOf zs)] 41)
  have d1 := (two_cells (heap_alloc_new w (.cells #[.int .u64 at', .string (strOf zs)] 41))).2
  have hs : (strOf zs).size = n := by rw [strOf_size, hl]
  have h4 : (1024 : Int) < n := by omega
  unfold rrecV
  generalize strOf zs = s at *
  go_enter Try.func13, Try.ntmps13
  go_wp2
  exact bodyPost_ret (v := .tuple #[.slice none 0 0, .bool false]) (by simp [results, Try.results13, go_sem]) rfl ⟨rfl, K⟩
set_option maxRecDepth 100000 in
set_option maxHeartbeats 4000000 in
theorem ref_put_ok (at' : Int) (zs : List Int) (n : Nat) (w : World) (hl : zs.length = n) (hB : IsB zs) (hn : n ≤ 1024) (a0 : 0 ≤ at') (a1 : at' ≤ 18446744073709551615) :
    Calls Try.prog 13 #[rrecV at' (strOf zs)] w fun e w' => ∃ a' c', e = .returned (.tuple #[.slice a' (16 + n) c', .bool true]) ∧ Sl .u8 w' a' (16 + n) c' (recB at' zs) ∧ Kept w w' := by
  have KW := kept_al w (.cells #[.int .u64 at', .string (strOf zs)] 41)
  obtain ⟨d0, d1⟩ := two_cells (heap_alloc_new w (.cells #[.int .u64 at', .string (strOf zs)] 41))
  have hs : (strOf zs).size = n := by rw [strOf_size, hl]
  have HSrc := Lib.hid (src_str hB hl)
  have HB := Lib.hid hB
  have h4 : ¬ ((1024 : Int) < n) := by omega
  have hdec : decide ((1024 : Int) < n) = false := decide_eq_false h4
  have hw1 : IntKind.u64.wrap (n : Int) = n := by rw [IntKind.wrap_u64]; omega
  have HHB : Hid (IsB (leB (n : Int) 4 ++ leB at' 8)) := isB_append (isB_leB _ _) (isB_leB _ _)
  obtain ⟨k1, k2, k3⟩ := sumOf_good (leB (n : Int) 4 ++ leB at' 8 ++ zs)
  have hRB : Hid (recB at' zs = leB (n : Int) 4 ++ leB at' 8 ++ leB (sumOf (leB (n : Int) 4 ++ leB at' 8 ++ zs)) 4 ++ zs) := (by unfold Hid recB headB; rw [hl])
  have HSum := Lib.hid (fun a c V (hS : Sl .u8 V a (12 + n) c (leB (n : Int) 4 ++ leB at' 8 ++ zs)) => ref_sum a (12 + n) c _ V hS (isB_append HHB.out HB.out))
  generalize sumOf (leB (n : Int) 4 ++ leB at' 8 ++ zs) = s2 at *
  have hw2 : IntKind.u64.wrap s2 = s2 := by rw [IntKind.wrap_u64]; omega
  unfold rrecV
  generalize strOf zs = s at *
  have hbs : w.heap.size + 1 ≤ (w.alloc (.cells #[.int .u64 at', .string s] 41)).heap.size := by simp
  generalize hX1 : w.alloc (.cells #[.int .u64 at', .string s] 41) = X at *
  have HC : Hid (∀ V, Kept X V → V.cell? ⟨w.heap.size, 0, none⟩ = some (.int .u64 at') ∧ V.cell? ⟨w.heap.size, 1, none⟩ = some (.string s)) := fun V k => ⟨k.cel d0, k.cel d1⟩
  clear hB
  go_enter Try.func13, Try.ntmps13
  go_wp2_with fail
  clear d0 d1
  have KD : Kept X X.drew := (Kept.refl _).dr ⟨1, rfl⟩
  have tok : True := trivial
  go_region_held3 (fun Z => Z.cell? ⟨w.heap.size, 0, none⟩ = some (.int .u64 at') ∧ Z.cell? ⟨w.heap.size, 1, none⟩ = some (.string s)) (exact HC.out _ KD) (first | (go_at_call 24; replace tok := tok; clear tok; refine (ref_low (n : Int) 4 _ (by omega) (by omega) (by omega) 4 rfl).mono ?_; rintro e V1 ⟨p1, c1, g1, rfl, hA1, J1, hg1⟩; have HA1 := Lib.hid hA1; have hn1 : ∀ k, g1 = some k → X.heap.size ≤ k := (by have := KD.size; intro k hk; have := hg1 k hk; omega); replace KD := KD.trans J1; clear hA1 J1 hg1) | (go_at_call 24; refine (ref_low at' 8 _ (by omega) (by omega) (by omega) 8 rfl).mono ?_; rintro e V2 ⟨p2, c2, g2, rfl, hA2, J2, hg2⟩; have HS2 := Lib.hid (app_sl hA2).1; replace HA1 := Lib.hid (J2.only.app HA1.out (by simp)); replace KD := KD.trans J2; clear hA2 J2 hg2) | (refine step_app rfl (.tmp 14) (.tmp 17) 23 23 rfl elemB _ 4 _ _ rfl HA1.out _ 8 _ rfl (src_sl Try.underlying23 HS2.out) (by omega) (by unfold maxLen; omega) ?_; intro p3 c3 g3 V3 hA3 hO3 hG3; have HA3 := Lib.hid hA3; have hn3 : ∀ k, g3 = some k → X.heap.size ≤ k := (by have := KD.size; intro k hk; rcases hG3 with h | h <;> rw [h] at hk <;> first | exact hn1 _ hk | (simp at hk; omega)); replace KD := KD.onl hO3 (by intro i hi; exact hn1 i (by simpa using hi)); clear hA3 hO3 hG3 HA1 HS2 hn1))
  replace HA3 : Hid (App V3 5 1 (.slice p3 12 c3) 12 g3 (bytesV (leB (n : Int) 4 ++ leB at' 8))) := by
    have h := HA3.out
    unfold Hid
    rw [bytesV_append]
    exact h
  have hl3 := HA3.out.lt
  have hE : Hid (App ((V3.alloc (.cells #[] 5)).drew) 5 1 (.slice (some ⟨V3.heap.size, 0, none⟩) 0 0) 0 (some V3.heap.size) []) := (Kept.refl _ |>.dr ⟨1, rfl⟩ : Kept _ (V3.alloc (.cells #[] 5)).drew).only.app (app_empty V3 _) (by simp)
  have KV : Kept V3 (V3.alloc (.cells #[] 5)).drew := (kept_al V3 _).dr ⟨1, rfl⟩
  have hKs := KD.size
  have HS3 := Lib.hid (KV.sl (app_sl HA3.out).1)
  replace HA3 := Lib.hid (KV.only.app HA3.out (by simp))
  have KD0 : Kept X V3.drew := KD.dr ⟨1, rfl⟩
  replace KD := KD.trans KV
  go_wp2_with fail
  go_region_held3 (fun Z => Z.cell? ⟨w.heap.size, 0, none⟩ = some (.int .u64 at') ∧ Z.cell? ⟨w.heap.size, 1, none⟩ = some (.string s)) (first | exact HC.out _ KD | exact HC.out _ KD0) (first | (refine step_app rfl (.tmp 19) (.tmp 20) 23 23 rfl elemB _ 0 _ _ rfl hE.out _ 12 _ rfl (src_sl Try.underlying23 HS3.out) (by omega) (by unfold maxLen; omega) ?_; intro p4 c4 g4 V4 hA4 hO4 hG4; have HA4 := Lib.hid hA4; have hn4 : ∀ k, g4 = some k → V3.heap.size ≤ k := (by intro k hk; rcases hG4 with h | h <;> rw [h] at hk <;> simp at hk <;> omega); replace KD := KD.onl hO4 (by intro i hi; simp at hi; omega); replace HA3 := Lib.hid (hO4.app HA3.out (by intro k hk hm; have := hl3 k hk; simp at hm; omega)); clear hA4 hO4 hG4 hE HS3) | (refine step_app rfl (.tmp 21) (.tmp 23) 23 9 rfl elemB _ 12 _ _ rfl HA4.out _ n _ rfl (HSrc.out _) (by omega) (by unfold maxLen; omega) ?_; intro p5 c5 g5 V5 hA5 hO5 hG5; have HS5 : Hid (Sl .u8 V5 p5 (12 + n) c5 (leB (n : Int) 4 ++ leB at' 8 ++ zs)) := (by have h := hA5; rw [List.nil_append] at h; unfold Hid; refine (app_sl (g := g5) ?_).1; rw [bytesV_append]; exact h); replace KD := KD.onl hO5 (by intro i hi; have := hn4 i (by simpa using hi); omega); replace HA3 := Lib.hid (hO5.app HA3.out (by intro k hk hm; have h1 := hl3 k hk; have h2 := hn4 k (by simpa using hm); omega)); clear hA5 hO5 hG5 HA4 hn4) | (go_at_call 25; refine (HSum.out _ _ _ HS5.out).mono ?_; rintro e V6 ⟨rfl, dd⟩; replace KD := KD.dr dd; replace HA3 := Lib.hid ((Kept.refl _ |>.dr dd : Kept V5 V6).only.app HA3.out (by simp)); clear dd HS5))
  have hKs6 := KD.size
  have KV6 : Kept V6 V6.drew := (Kept.refl _).dr ⟨1, rfl⟩
  replace HA3 := Lib.hid (KV6.only.app HA3.out (by simp))
  replace KD := KD.trans KV6
  have hl36 := HA3.out.lt
  go_wp2_with fail
  go_region_held3 (fun Z => Z.cell? ⟨w.heap.size, 0, none⟩ = some (.int .u64 at') ∧ Z.cell? ⟨w.heap.size, 1, none⟩ = some (.string s)) (exact HC.out _ KD) (first | (go_at_call 24; refine (ref_low s2 4 _ (by omega) (by omega) (by omega) 4 rfl).mono ?_; rintro e V7 ⟨p7, c7, g7, rfl, hA7, J7, hg7⟩; have HS7 := Lib.hid (app_sl hA7).1; replace HA3 := Lib.hid (J7.only.app HA3.out (by simp)); replace KD := KD.trans J7; clear hA7 J7 hg7) | (refine step_app rfl (.tmp 26) (.tmp 29) 23 23 rfl elemB _ 12 _ _ rfl HA3.out _ 4 _ rfl (src_sl Try.underlying23 HS7.out) (by omega) (by unfold maxLen; omega) ?_; intro p8 c8 g8 V8 hA8 hO8 hG8; have HA8 := Lib.hid hA8; have hn8 : ∀ k, g8 = some k → X.heap.size ≤ k := (by have := KD.size; intro k hk; rcases hG8 with h | h <;> rw [h] at hk <;> first | exact hn3 _ hk | (simp at hk; omega)); replace KD := KD.onl hO8 (by intro i hi; exact hn3 i (by simpa using hi)); clear hA8 hO8 hG8 HA3 HS7) | (refine step_app rfl (.tmp 30) (.tmp 32) 23 9 rfl elemB _ (12 + 4) _ _ rfl HA8.out _ n _ rfl (HSrc.out _) (by omega) (by unfold maxLen; omega) ?_; intro p9 c9 g9 V9 hA9 hO9 hG9; have HS9 : Hid (Sl .u8 V9 p9 (12 + 4 + n) c9 (leB (n : Int) 4 ++ leB at' 8 ++ leB s2 4 ++ zs)) := (by have h := hA9; unfold Hid; refine (app_sl (g := g9) ?_).1; rw [bytesV_append, bytesV_append]; exact h); replace KD := KD.onl hO9 (by intro i hi; exact hn8 i (by simpa using hi)); clear hA9 hO9 hG9 HA8 hn8))
  go_wp2_with fail
  have HS9 := HS9.out
  rw [← hRB.out, show 12 + 4 + n = 16 + n by omega] at HS9
  rw [show 12 + 4 + n = 16 + n by omega]
  exact bodyPost_ret (v := .tuple #[.slice p9 (16 + n) c9, .bool true]) (by simp [results, Try.results13, go_sem]) rfl ⟨p9, c9, rfl, HS9, KW.trans KD⟩
end Go.Proofs.Ytonifnbmofbakaa
