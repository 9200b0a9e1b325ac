/- Put. -/
import Derived.Test.YtonifnbmofbakaaFrCat
import Derived.Test.YtonifnbmofbakaaFrGet3
import Derived.Deep.RegionHeld3
set_option linter.unusedVariables false
set_option linter.unusedSimpArgs false
namespace Go.Proofs.Ytonifnbmofbakaa
open Go.RowKit
theorem fr_number_at (a : Option Addr) (m c : Nat) (g : Option Nat) (xs : List Int) (v : Int) (n : Nat) (w : World) (hA : App w 5 1 (.slice a m c) m g (bytesV xs)) (hm : m ≤ 5000) (hn : n ≤ 8) (v0 : 0 ≤ v) (v1 : v ≤ 18446744073709551615) (kI : Int) (hk : kI = n) (M : Nat) (hM : M = m + n) :
    Calls Try.prog 18 #[.slice a m c, .int .u64 v, .int .i64 kI] w fun e w' => ∃ a' c' g', e = .returned (.slice a' M c') ∧ App w' 5 1 (.slice a' M c') M g' (bytesV (xs ++ leB v n)) ∧ Only g.toList w w' ∧ (g' = g ∨ ∃ k, g' = some k ∧ w.heap.size ≤ k) := by
  subst hk hM
  exact fr_number a m c g xs v n w hA hm hn v0 v1
/-- a record's head, ahead of its sum -/
def headB (at' : Int) (n : Nat) : List Int := leB n 4 ++ leB at' 8
/-- a record's bytes -/
def recB (at' : Int) (zs : List Int) : List Int := headB at' zs.length ++ leB (sumOf (headB at' zs.length ++ zs)) 4 ++ zs
theorem isB_leB (v : Int) : ∀ k, IsB (leB v k)
  | 0 => fun i => by simp [leB]
  | k + 1 => fun i => by
    rw [leB, List.getD_eq_getElem?_getD, List.getElem?_append]
    split
    · have := isB_leB v k i; rwa [List.getD_eq_getElem?_getD] at this
    · rcases Nat.eq_zero_or_pos (i - (leB v k).length) with h | h
      · rw [h]; simp; omega
      · rw [List.getElem?_eq_none (by simp; omega)]; simp
set_option maxRecDepth 100000 in
set_option maxHeartbeats 2000000 in
/-- too much -/
theorem fr_put_size (b : Value) (a : Option Addr) (n c : Nat) (at' : Int) (w : World) (hn : 1024 < n) (hn2 : n ≤ 4611686018427387904) :
    Calls Try.prog 10 #[b, recV at' a n c] w fun e w' => e = .returned (.tuple #[.slice none 0 0, .int .i64 14]) ∧ Kept w w' := by
  have K := (((Only.refl [] w).alloc (.cells #[.int .u64 at', .slice a n c] 30))).kept
  have hh := heap_alloc_new w (.cells #[.int .u64 at', .slice a n c] 30)
  have d1 := at_cell hh 1 _ rfl
  have h4 : (1024 : Int) < n := by omega
  clear hh
  unfold recV
  go_enter Try.func10, Try.ntmps10
  go_wp2
  exact bodyPost_ret (v := .tuple #[.slice none 0 0, .int .i64 14]) (by simp [results, Try.results10, go_sem]) rfl ⟨rfl, K⟩
theorem kept_al (w : World) (o : Obj) : Kept w (w.alloc o) := ((Only.refl [] w).alloc o).kept
def pick3 {α : Type} (x y z : α) : Nat → α
  | 0 => x
  | 1 => y
  | _ => z
set_option maxRecDepth 100000 in
set_option maxHeartbeats 4000000 in
theorem fr_put_ok (b : Option Addr) (m d : Nat) (xs : List Int) (a : Option Addr) (n c : Nat) (zs : List Int) (at' : Int) (w : World) (hX : Sl .u8 w b m d xs) (hS : Sl .u8 w a n c zs) (hB : IsB zs) (hm : m ≤ 5000) (hn : n ≤ 1024) (a0 : 0 ≤ at') (a1 : at' ≤ 18446744073709551615) :
    Calls Try.prog 10 #[.slice b m d, recV at' a n c] w fun e w' => ∃ a' c' g, e = .returned (.tuple #[.slice a' (m + 16 + n) c', .int .i64 0]) ∧ App w' 5 1 (.slice a' (m + 16 + n) c') (m + 16 + n) g (bytesV (xs ++ recB at' zs)) ∧ Kept w w' ∧ (∀ k, g = some k → w.heap.size ≤ k) := by
  have KW := (((Only.refl [] w).alloc (.cells #[.int .u64 at', .slice a n c] 30))).kept
  have hh := heap_alloc_new w (.cells #[.int .u64 at', .slice a n c] 30)
  have d0 := at_cell hh 0 _ rfl
  have d1 := at_cell hh 1 _ rfl
  have h4 : ¬ ((1024 : Int) < n) := by omega
  have hdec : decide ((1024 : Int) < n) = false := decide_eq_false h4
  have hl := hS.1
  have hw1 : IntKind.u64.wrap (n : Int) = n := by rw [IntKind.wrap_u64]; omega
  have HX := Lib.hid (KW.sl hX)
  have HS := Lib.hid (KW.sl hS)
  have HB := Lib.hid hB
  have hbs : w.heap.size + 1 ≤ (w.alloc (.cells #[.int .u64 at', .slice a n c] 30)).heap.size := by simp
  generalize hX1 : w.alloc (.cells #[.int .u64 at', .slice a n c] 30) = X at *
  have HC : Hid (∀ V, Kept X V → V.cell? ⟨w.heap.size, 0, none⟩ = some (.int .u64 at') ∧ V.cell? ⟨w.heap.size, 1, none⟩ = some (.slice a n c)) := fun V k => ⟨k.cel d0, k.cel d1⟩
  clear hh hX hS hB
  unfold recV
  go_enter Try.func10, Try.ntmps10
  go_wp2_with fail
  have KD : Kept X X.drew := (Kept.refl _).dr ⟨1, rfl⟩
  have tok : True := trivial
  go_region_held3 (fun Z => Z.cell? ⟨w.heap.size, 0, none⟩ = some (.int .u64 at') ∧ Z.cell? ⟨w.heap.size, 1, none⟩ = some (.slice a n c)) (exact HC.out _ KD) (first | (go_at_call 18; replace tok := tok; clear tok; refine (fr_number_at none 0 0 none [] (n : Int) 4 _ (app_nil _ _ _) (by omega) (by omega) (by omega) (by omega) 4 rfl 4 rfl).mono ?_; rintro e V ⟨p1, c1, g1, rfl, hA1, J1, hg1⟩; have HA1 := Lib.hid hA1; have hn1 : ∀ k, g1 = some k → X.heap.size ≤ k := (by have := KD.size; intro k hk; rcases hg1 with h | ⟨k', h, h'⟩ <;> rw [h] at hk <;> simp at hk <;> omega); replace KD := KD.onl J1 (by intro i hi; simp at hi); clear hA1 J1 hg1) | (go_at_call 18; refine (fr_number_at p1 4 c1 g1 (leB n 4) at' 8 _ HA1.out (by omega) (by omega) (by omega) (by omega) 8 rfl 12 rfl).mono ?_; rintro e V ⟨p2, c2, g2, rfl, hA2, J2, hg2⟩; have HA2 := Lib.hid hA2; have hn2 : ∀ k, g2 = some k → X.heap.size ≤ k := (by have := KD.size; intro k hk; rcases hg2 with h | ⟨k', h, h'⟩ <;> rw [h] at hk <;> first | exact hn1 _ hk | (simp at hk; omega)); replace KD := KD.onl J2 (by intro i hi; have := hn1 i (by simpa using hi); omega); clear hA2 J2 hg2 HA1 hn1))
  have c0 := (HC.out _ KD).1
  have c1 := (HC.out _ KD).2
  have HSV := Lib.hid (KD.sl HS.out)
  have HP := Lib.hid (app_sl HA2.out).1
  have HHB : Hid (IsB (leB (n : Int) 4 ++ leB at' 8)) := isB_append (isB_leB _ _) (isB_leB _ _)
  have HD1 := Lib.hid (fun k => sum_of p2 12 c2 (leB (n : Int) 4 ++ leB at' 8) (V.drewN k) (((Kept.refl _).dr ((Dr.refl _).drewN k)).sl HP.out) HHB.out)
  obtain ⟨g1, g2', g3⟩ := sumOf_good (leB (n : Int) 4 ++ leB at' 8)
  have HD2 := Lib.hid (fun k => sum_on_yes (sumOf (leB (n : Int) 4 ++ leB at' 8)) a n c zs (V.drewN k) g2' g3 g1 (((Kept.refl _).dr ((Dr.refl _).drewN k)).sl HSV.out) HB.out)
  rw [onV_sumOf] at HD2
  obtain ⟨k1, k2, k3⟩ := sumOf_good (leB (n : Int) 4 ++ leB at' 8 ++ zs)
  have hRB : Hid (recB at' zs = leB (n : Int) 4 ++ leB at' 8 ++ leB (sumOf (leB (n : Int) 4 ++ leB at' 8 ++ zs)) 4 ++ zs) := (by unfold Hid recB headB; rw [hl])
  generalize sumOf (leB (n : Int) 4 ++ leB at' 8 ++ zs) = s2 at *
  generalize sumOf (leB (n : Int) 4 ++ leB at' 8) = s1 at *
  have hw2 : IntKind.u64.wrap s2 = s2 := by rw [IntKind.wrap_u64]; omega
  clear d0 d1
  go_wp2_with fail
  go_quiet ((first | (go_at_call 20; exact Calls.quiet_of_same (unflip (HD1.out _))) | (go_at_call 19; exact Calls.quiet_of_same (unflip (HD2.out _)))))
  clear c0 c1
  go_wp2_with fail
  clear HD1 HD2
  generalize hY : World.drewN V _ = Y
  have KY : Kept V Y := hY ▸ (Kept.refl _).dr ((Dr.refl _).drewN _)
  have HAY := Lib.hid (KY.only.app HA2.out (by simp))
  replace KD := KD.trans KY
  clear hY KY HA2 HP HSV
  replace KD := KD.trans ((Kept.refl Y).dr ⟨1, rfl⟩ : Kept Y Y.drew)
  have HXD := Lib.hid (fun W (k : Kept X W) => k.sl HX.out)
  have HSD := Lib.hid (fun W (k : Kept X W) => k.sl HS.out)
  have HAD := Lib.hid (((Kept.refl Y).dr ⟨1, rfl⟩ : Kept Y Y.drew).only.app HAY.out (by simp))
  go_region_held3 (fun Z => Z.cell? ⟨w.heap.size, 0, none⟩ = some (.int .u64 at') ∧ Z.cell? ⟨w.heap.size, 1, none⟩ = some (.slice a n c)) (first | exact HC.out _ KD | exact HC.out _ (KD.trans (kept_al _ _))) (first | (go_at_call 18; refine (fr_number_at p2 12 c2 g2 (leB n 4 ++ leB at' 8) s2 4 _ HAD.out (by omega) (by omega) (by omega) (by omega) 4 rfl 16 rfl).mono ?_; rintro e V3 ⟨p3, c3, g3', rfl, hA3, J3, hg3⟩; have HP3 := Lib.hid (app_sl hA3).1; replace KD := KD.onl J3 (by intro i hi; have := hn2 i (by simpa using hi); omega); clear hA3 J3 hg3) | (go_at_call 21; refine (fr_concat V3.heap.size 3 (pick3 b p3 a) (pick3 m 16 n) (pick3 d c3 c) (pick3 xs (leB n 4 ++ leB at' 8 ++ leB s2 4) zs) _ (by omega) (by intro j hj; have : j = 0 ∨ j = 1 ∨ j = 2 := (by omega); rcases this with rfl | rfl | rfl; exact ⟨at_cell (heap_alloc_new V3 _) 0 _ rfl, (kept_al V3 _).sl (HXD.out _ KD)⟩; exact ⟨at_cell (heap_alloc_new V3 _) 1 _ rfl, (kept_al V3 _).sl HP3.out⟩; exact ⟨at_cell (heap_alloc_new V3 _) 2 _ rfl, (kept_al V3 _).sl (HSD.out _ KD)⟩) (by simp [catN, pick3]; omega) (by simp)).mono ?_; rintro e V4 ⟨p4, c4, g4, rfl, hA4, J4, hg4⟩; have HA4 := Lib.hid hA4; have hs4 := KD.size; have hg4' : ∀ k, g4 = some k → w.heap.size ≤ k := (by intro k hk; have := hg4 k hk; simp at this; omega); replace KD := (KD.trans (kept_al _ _)).trans J4; clear hA4 J4 hg4))
  go_wp2_with fail
  have hcn : catN (pick3 m 16 n) 3 = m + 16 + n := by simp [catN, pick3]
  have hcz : catZ (pick3 xs (leB (n : Int) 4 ++ leB at' 8 ++ leB s2 4) zs) 3 = xs ++ recB at' zs := by rw [hRB.out]; simp [catZ, pick3]
  have hA4 := HA4.out
  rw [hcn, hcz] at hA4
  rw [hcn]
  exact bodyPost_ret (v := .tuple #[.slice p4 (m + 16 + n) c4, .int .i64 0]) (by simp [results, Try.results10, go_sem]) rfl ⟨p4, c4, g4, rfl, hA4, KW.trans KD, hg4'⟩
end Go.Proofs.Ytonifnbmofbakaa
