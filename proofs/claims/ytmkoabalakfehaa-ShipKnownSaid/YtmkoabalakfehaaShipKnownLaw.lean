/- ShipKnown: the walk. -/
import Derived.Test.YtmkoabalakfehaaShipKnownM
import Derived.Deep.RegionHeld3
import Derived.Deep.Cut
import Derived.Deep.CutRange
set_option linter.unusedVariables false
set_option linter.unusedSimpArgs false
namespace Go.Proofs.Ytmkoabalakfehaa
open Go.RowKit
set_option maxRecDepth 100000 in
set_option maxHeartbeats 16000000 in
theorem shipKnown_law (w : World) : Calls Try.prog 4 #[] w fun e w' => e = .returned (.bool true) ∧ Kept w w' := by
  go_enter Try.func4, Try.ntmps4
  go_wp2_with fail
  refine (awake23 _).mono ?_
  rintro e w1 ⟨rfl, K⟩
  go_wp2_with fail
  refine (ship_new 2 1 0 _).mono ?_
  rintro E v0 ⟨rfl, kv⟩
  rw [show newS 2 1 0 = ⟨0, 0, 0, 0⟩ by rfl, show newE 2 1 0 = 1 by rfl]
  unfold SV.v
  dsimp only
  replace K := (K.trans kv).trans (kept_al v0 (.cells #[.int .i64 0, .int .i64 0, .int .i64 0, .int .i64 0] 29))
  clear kv
  go_wp2_with fail
  generalize World.alloc v0 _ = w2 at *
  refine (ship_new 0 0 0 _).mono ?_
  rintro E v1 ⟨rfl, kv⟩
  rw [show newS 0 0 0 = ⟨0, 0, 0, 0⟩ by rfl, show newE 0 0 0 = 1 by rfl]
  unfold SV.v
  dsimp only
  replace K := (K.trans kv).trans (kept_al v1 (.cells #[.int .i64 0, .int .i64 0, .int .i64 0, .int .i64 0] 29))
  clear kv
  go_wp2_with fail
  generalize World.alloc v1 _ = w3 at *
  refine (ship_new 0 1 (-1) _).mono ?_
  rintro E v2 ⟨rfl, kv⟩
  rw [show newS 0 1 (-1) = ⟨0, 0, 0, 0⟩ by rfl, show newE 0 1 (-1) = 1 by rfl]
  unfold SV.v
  dsimp only
  replace K := (K.trans kv).trans (kept_al v2 (.cells #[.int .i64 0, .int .i64 0, .int .i64 0, .int .i64 0] 29))
  clear kv
  go_wp2_with fail
  generalize World.alloc v2 _ = w4 at *
  refine (ship_new 0 3 6 _).mono ?_
  rintro E v3 ⟨rfl, kv⟩
  rw [show newS 0 3 6 = ⟨0, 3, 6, 0⟩ by rfl, show newE 0 3 6 = 0 by rfl]
  unfold SV.v
  dsimp only
  replace K := (K.trans kv).trans (kept_al v3 (.cells #[.int .i64 0, .int .i64 3, .int .i64 6, .int .i64 0] 29))
  have hb7 := heap_alloc_new v3 (.cells #[.int .i64 0, .int .i64 3, .int .i64 6, .int .i64 0] 29)
  clear kv
  go_upto_region 7 with fail
  generalize World.alloc v3 _ = w5 at *
  obtain ⟨p7, hp7⟩ : ∃ p, v3.heap.size = p := ⟨_, rfl⟩
  rw [hp7] at hb7 ⊢
  clear hp7
  obtain ⟨d0, d1, d2, d3⟩ := four_cells hb7
  have HC : Hid (∀ Z, Kept w5 Z → Z.cell? ⟨p7, 0, none⟩ = some (.int .i64 0) ∧ Z.cell? ⟨p7, 1, none⟩ = some (.int .i64 3) ∧ Z.cell? ⟨p7, 2, none⟩ = some (.int .i64 6) ∧ Z.cell? ⟨p7, 3, none⟩ = some (.int .i64 0)) := fun Z k => ⟨k.cel d0, k.cel d1, k.cel d2, k.cel d3⟩
  clear d0 d1 d2 d3 hb7
  have gN0 : ∀ (V : World) (a b c d : Value), (V.alloc (.cells #[a, b, c, d] 29)).cell? ⟨V.heap.size, 0, none⟩ = some a := fun V a b c d => (four_cells (heap_alloc_new V _)).1
  have gN1 : ∀ (V : World) (a b c d : Value), (V.alloc (.cells #[a, b, c, d] 29)).cell? ⟨V.heap.size, 1, none⟩ = some b := fun V a b c d => (four_cells (heap_alloc_new V _)).2.1
  have gN2 : ∀ (V : World) (a b c d : Value), (V.alloc (.cells #[a, b, c, d] 29)).cell? ⟨V.heap.size, 2, none⟩ = some c := fun V a b c d => (four_cells (heap_alloc_new V _)).2.2.1
  have gN3 : ∀ (V : World) (a b c d : Value), (V.alloc (.cells #[a, b, c, d] 29)).cell? ⟨V.heap.size, 3, none⟩ = some d := fun V a b c d => (four_cells (heap_alloc_new V _)).2.2.2
  have gF : ∀ (V : World) (a b c d : Value) (j : Nat), (V.alloc (.cells #[a, b, c, d] 29)).frozen? ⟨V.heap.size, j, none⟩ = false := fun V a b c d j => one_free (heap_alloc_new V _) j
  have ht0 : takeS ⟨0, 3, 6, 0⟩ (decide (GoodT [17592186044416, 52776558133252] 6)) (goodM ⟨3, 1, 0, 3, 0, 0, none, 0, 0, none, 2, 2, 8⟩ [] [17592186044416, 35184372088835]) 6 ⟨3, 1, 0, 3, 0, 0, none, 0, 0, none, 2, 2, 8⟩ (meetI [17592186044416, 52776558133252] 6 [17592186044416, 35184372088835] 8) = (⟨0, 3, 3, 0⟩, 0) := by decide +kernel
  have HT := Lib.hid (fun V a lp hS (hL : Sl .u64 V (some ⟨lp, 0, none⟩) 2 2 [17592186044416, 35184372088835]) => sh_take_lit ⟨3, 1, 0, 3, 0, 0, none, 0, 0, some ⟨lp, 0, none⟩, 2, 2, 8⟩ [] [17592186044416, 35184372088835] ⟨0, 3, 3, 0⟩ 0 ht0 V a hS (slM_0 V) hL (isW_of_mem (by decide)) (by show 0 ≤ 100; omega))
  clear ht0
  unfold SV.v MV.cs at HT
  dsimp only at HT
  have tok : Hid True := trivial
  go_cut [9, 10] from 46 to 56 (fun p e wx => e = .int .i64 0 ∧ Kept w5 wx ∧ ∃ q, p = .pointer (some ⟨q, 0, none⟩) ∧ wx.cell? ⟨q, 0, none⟩ = some (.int .i64 0) ∧ wx.cell? ⟨q, 1, none⟩ = some (.int .i64 3) ∧ wx.cell? ⟨q, 2, none⟩ = some (.int .i64 3) ∧ wx.cell? ⟨q, 3, none⟩ = some (.int .i64 0))
  case first =>
    have gD0 : ∀ (a b c d : Value), (World.alloc w5.drew (.cells #[a, b, c, d] 29)).cell? ⟨w5.heap.size, 0, none⟩ = some a := fun a b c d => (four_cells (heap_alloc_new _ _)).1
    have gD1 : ∀ (a b c d : Value), (World.alloc w5.drew (.cells #[a, b, c, d] 29)).cell? ⟨w5.heap.size, 1, none⟩ = some b := fun a b c d => (four_cells (heap_alloc_new _ _)).2.1
    have gD2 : ∀ (a b c d : Value), (World.alloc w5.drew (.cells #[a, b, c, d] 29)).cell? ⟨w5.heap.size, 2, none⟩ = some c := fun a b c d => (four_cells (heap_alloc_new _ _)).2.2.1
    have gD3 : ∀ (a b c d : Value), (World.alloc w5.drew (.cells #[a, b, c, d] 29)).cell? ⟨w5.heap.size, 3, none⟩ = some d := fun a b c d => (four_cells (heap_alloc_new _ _)).2.2.2
    have gDF : ∀ (a b c d : Value) (j : Nat), (World.alloc w5.drew (.cells #[a, b, c, d] 29)).frozen? ⟨w5.heap.size, j, none⟩ = false := fun a b c d j => one_free (heap_alloc_new w5.drew _) j
    have gA0 : ∀ (V : World) (x : Obj) (a b c d : Value), ((V.alloc x).alloc (.cells #[a, b, c, d] 29)).cell? ⟨V.heap.size + 1, 0, none⟩ = some a := fun V x a b c d => (four_cells (new_at _ (by simp))).1
    have gB0 : ∀ (V : World) (x : Obj) (a b c d : Value), ((V.alloc (.cells #[a, b, c, d] 29)).alloc x).cell? ⟨V.heap.size, 0, none⟩ = some a := fun V x a b c d => (kept_al _ _).cel (four_cells (heap_alloc_new V _)).1
    have gA1 : ∀ (V : World) (x : Obj) (a b c d : Value), ((V.alloc x).alloc (.cells #[a, b, c, d] 29)).cell? ⟨V.heap.size + 1, 1, none⟩ = some b := fun V x a b c d => (four_cells (new_at _ (by simp))).2.1
    have gB1 : ∀ (V : World) (x : Obj) (a b c d : Value), ((V.alloc (.cells #[a, b, c, d] 29)).alloc x).cell? ⟨V.heap.size, 1, none⟩ = some b := fun V x a b c d => (kept_al _ _).cel (four_cells (heap_alloc_new V _)).2.1
    have gA2 : ∀ (V : World) (x : Obj) (a b c d : Value), ((V.alloc x).alloc (.cells #[a, b, c, d] 29)).cell? ⟨V.heap.size + 1, 2, none⟩ = some c := fun V x a b c d => (four_cells (new_at _ (by simp))).2.2.1
    have gB2 : ∀ (V : World) (x : Obj) (a b c d : Value), ((V.alloc (.cells #[a, b, c, d] 29)).alloc x).cell? ⟨V.heap.size, 2, none⟩ = some c := fun V x a b c d => (kept_al _ _).cel (four_cells (heap_alloc_new V _)).2.2.1
    have gA3 : ∀ (V : World) (x : Obj) (a b c d : Value), ((V.alloc x).alloc (.cells #[a, b, c, d] 29)).cell? ⟨V.heap.size + 1, 3, none⟩ = some d := fun V x a b c d => (four_cells (new_at _ (by simp))).2.2.2
    have gB3 : ∀ (V : World) (x : Obj) (a b c d : Value), ((V.alloc (.cells #[a, b, c, d] 29)).alloc x).cell? ⟨V.heap.size, 3, none⟩ = some d := fun V x a b c d => (kept_al _ _).cel (four_cells (heap_alloc_new V _)).2.2.2
    have gAF : ∀ (V : World) (x : Obj) (a b c d : Value) (j : Nat), ((V.alloc x).alloc (.cells #[a, b, c, d] 29)).frozen? ⟨V.heap.size + 1, j, none⟩ = false := fun V x a b c d j => one_free (new_at _ (by simp)) j
    have gBF : ∀ (V : World) (x : Obj) (a b c d : Value) (j : Nat), ((V.alloc (.cells #[a, b, c, d] 29)).alloc x).frozen? ⟨V.heap.size, j, none⟩ = false := fun V x a b c d j => one_free ((kept_al _ _).only.heap (heap_alloc_new V _) (by simp)) j
    have KD : Kept w5 w5.drew := (Kept.refl _).dr ⟨1, rfl⟩
    have hdr : ∀ (V : World) (p : Addr), V.drew.cell? p = V.cell? p := fun _ _ => rfl
    have hN0 : w5.heap.size ≠ p7 := World.new_ne w5 ⟨p7, 0, none⟩ (HC.out _ (Kept.refl _)).1
    go_region_held3 (fun Z => Z.cell? ⟨p7, 0, none⟩ = some (.int .i64 0) ∧ Z.cell? ⟨p7, 1, none⟩ = some (.int .i64 3) ∧ Z.cell? ⟨p7, 2, none⟩ = some (.int .i64 6) ∧ Z.cell? ⟨p7, 3, none⟩ = some (.int .i64 0)) ((obtain ⟨s0, s1, s2, s3⟩ := HC.out _ KD; obtain ⟨t0, t1, t2, t3⟩ := HC.out _ (Kept.refl _); first | simp only [s0, s1, s2, s3, t0, t1, t2, t3, hdr, World.cell?_alloc_some, World.cell?_setCell_far, Option.isSome_some, ne_eq, not_false_eq_true, and_self, hN0, hN1, hN2] | simp only [s0, s1, s2, s3, t0, t1, t2, t3, hdr, World.cell?_alloc_some, World.cell?_setCell_far, Option.isSome_some, ne_eq, not_false_eq_true, and_self, hN0])) (first | (go_at_call 12; refine (sh_table _).mono ?_; rintro e V1 ⟨ta, rfl, hS, J⟩; have KE : Kept w5 V1 := (by first | exact KD.trans J | exact (KD.trans (kept_al _ _)).trans J | exact ((KD.trans (kept_al _ _)).trans (kept_al _ _)).trans J); have cJ := J.cq; have fJ := J.fq; have zJ := J.size; have HSt := Lib.hid hS; have hz1 := KE.size; clear KD J hS; have KD := KE; clear KE; have hN1 : V1.heap.size ≠ p7 := World.new_ne V1 ⟨p7, 0, none⟩ (HC.out _ KD).1; have hN2 : V1.heap.size + 1 ≠ p7 := (by have := World.block_lt_of_cell? V1 _ (HC.out _ KD).1; simp at this; omega); (first | (have hq1 : w5.heap.size < V1.heap.size := by (simp at zJ; omega)) | skip); clear zJ) | (go_at_call 13; have tok2 := tok; clear tok; refine (sh_at 1 0 17592186044416 _ (by omega) (by omega) (by omega) (by omega) (by omega)).mono ?_; rintro e w' ⟨rfl, rfl⟩) | (go_at_call 13; refine (sh_at 2 3 35184372088835 _ (by omega) (by omega) (by omega) (by omega) (by omega)).mono ?_; rintro e w' ⟨rfl, rfl⟩) | (go_at_call 11; refine (HT.out _ _ _ (by first | exact (kept_al _ _).sl HSt.out | exact ((kept_al _ _).trans (kept_al _ _)).sl HSt.out) (by first | exact sl_lit .u64 _ 41 (0, 0) [17592186044416, 35184372088835] 2 rfl (by unfold maxLen; omega) | exact (kept_al _ _).sl (sl_lit .u64 _ 41 (0, 0) [17592186044416, 35184372088835] 2 rfl (by unfold maxLen; omega)) | (have hl := sl_lit .u64 (V1.alloc (.cells #[.int .i64 0, .int .i64 0, .int .i64 0, .int .i64 0] 29)) 41 (0, 0) [17592186044416, 35184372088835] 2 rfl (by unfold maxLen; omega); simpa using hl))).mono ?_; rintro e V2 ⟨rfl, J⟩; have KE : Kept w5 V2 := (by first | exact KD.trans J | exact (KD.trans (kept_al _ _)).trans J | exact ((KD.trans (kept_al _ _)).trans (kept_al _ _)).trans J); have cK := J.cq; have fK := J.fq; have zK := J.size; clear KD J; have KD := KE; clear KE; (first | (have hq2 : w5.heap.size < V2.heap.size := by (simp at zK; omega)) | skip); (first | (have hq3 : V1.heap.size + 1 < V2.heap.size := by (simp at zK; omega)) | skip); clear zK))
    all_goals (first | (go_wp2_with fail; done) | skip)
    all_goals (first | go_meet | (go_wp2_with fail; go_meet))
    · exact ⟨rfl, KD.trans (kept_al V2 _), V2.heap.size, rfl, four_cells (heap_alloc_new V2 _)⟩
    · exact ⟨rfl, KD.onl (only_set4 _ _ _ _ _ _) (by intro i hi; have := List.mem_singleton.1 hi; omega), _, rfl, set4_cells ((cK _ 0 (by simp <;> omega)).trans (gA0 V1 _ _ _ _ _)) ((cK _ 1 (by simp <;> omega)).trans (gA1 V1 _ _ _ _ _)) ((cK _ 2 (by simp <;> omega)).trans (gA2 V1 _ _ _ _ _)) ((cK _ 3 (by simp <;> omega)).trans (gA3 V1 _ _ _ _ _)) _ _ _ _⟩
    · exact ⟨rfl, KD.onl (only_set4 _ _ _ _ _ _) (by intro i hi; have := List.mem_singleton.1 hi; omega), _, rfl, set4_cells ((cK _ 0 (by simp <;> omega)).trans (gB0 V1 _ _ _ _ _)) ((cK _ 1 (by simp <;> omega)).trans (gB1 V1 _ _ _ _ _)) ((cK _ 2 (by simp <;> omega)).trans (gB2 V1 _ _ _ _ _)) ((cK _ 3 (by simp <;> omega)).trans (gB3 V1 _ _ _ _ _)) _ _ _ _⟩
    · exact ⟨rfl, KD.onl (only_set4 _ _ _ _ _ _) (by intro i hi; have := List.mem_singleton.1 hi; omega), _, rfl, set4_cells ((cK _ 0 (by simp <;> omega)).trans (gB0 V1 _ _ _ _ _)) ((cK _ 1 (by simp <;> omega)).trans (gB1 V1 _ _ _ _ _)) ((cK _ 2 (by simp <;> omega)).trans (gB2 V1 _ _ _ _ _)) ((cK _ 3 (by simp <;> omega)).trans (gB3 V1 _ _ _ _ _)) _ _ _ _⟩
    · exact ⟨rfl, KD.onl (only_set4 _ _ _ _ _ _) (by intro i hi; have := List.mem_singleton.1 hi; omega), _, rfl, set4_cells ((cK _ 0 (by simp <;> omega)).trans (gB0 V1 _ _ _ _ _)) ((cK _ 1 (by simp <;> omega)).trans (gB1 V1 _ _ _ _ _)) ((cK _ 2 (by simp <;> omega)).trans (gB2 V1 _ _ _ _ _)) ((cK _ 3 (by simp <;> omega)).trans (gB3 V1 _ _ _ _ _)) _ _ _ _⟩
    · exact ⟨rfl, KD.onl (only_set4 _ _ _ _ _ _) (by intro i hi; have := List.mem_singleton.1 hi; omega), _, rfl, set4_cells ((cK _ 0 (by simp <;> omega)).trans (((kept_al V1 _).cq _ 0 hq1).trans ((cJ _ 0 (by simp)).trans (gD0 _ _ _ _)))) ((cK _ 1 (by simp <;> omega)).trans (((kept_al V1 _).cq _ 1 hq1).trans ((cJ _ 1 (by simp)).trans (gD1 _ _ _ _)))) ((cK _ 2 (by simp <;> omega)).trans (((kept_al V1 _).cq _ 2 hq1).trans ((cJ _ 2 (by simp)).trans (gD2 _ _ _ _)))) ((cK _ 3 (by simp <;> omega)).trans (((kept_al V1 _).cq _ 3 hq1).trans ((cJ _ 3 (by simp)).trans (gD3 _ _ _ _)))) _ _ _ _⟩
  case rest =>
    obtain ⟨rfl, kk, q, rfl, e0, e1, e2, e3⟩ := hcut
    clear HT tok
    generalize wc = w6 at *
    replace HC : Hid (∀ Z, Kept w6 Z → Z.cell? ⟨p7, 0, none⟩ = some (.int .i64 0) ∧ Z.cell? ⟨p7, 1, none⟩ = some (.int .i64 3) ∧ Z.cell? ⟨p7, 2, none⟩ = some (.int .i64 6) ∧ Z.cell? ⟨p7, 3, none⟩ = some (.int .i64 0)) := fun Z k => HC.out Z (kk.trans k)
    replace K := K.trans kk
    have HD : Hid (∀ Z, Kept w6 Z → Z.cell? ⟨q, 0, none⟩ = some (.int .i64 0) ∧ Z.cell? ⟨q, 1, none⟩ = some (.int .i64 3) ∧ Z.cell? ⟨q, 2, none⟩ = some (.int .i64 3) ∧ Z.cell? ⟨q, 3, none⟩ = some (.int .i64 0)) := fun Z k => ⟨k.cel e0, k.cel e1, k.cel e2, k.cel e3⟩
    clear kk e0 e1 e2 e3
    have HT := Lib.hid (fun V a hS => sh_take_lit ⟨2, 1, 0, 2, 5, 0, none, 0, 0, none, 0, 0, 0⟩ [] [] ⟨0, 0, 0, 0⟩ 8 (by decide +kernel) V a hS (slM_0 V) (sl_nil _ _) (fun i => by simp) (by decide))
    unfold SV.v MV.cs at HT
    dsimp only at HT
    obtain ⟨d0, d1, d2, d3⟩ := HC.out _ (Kept.refl _)
    go_upto_region 8 with fail
    clear d0 d1 d2 d3
    go_cut [11, 12] from 57 to 63 (fun p e wx => e = .int .i64 8 ∧ Kept w6 wx)
    case first =>
      have gD0 : ∀ (a b c d : Value), (World.alloc w6.drew (.cells #[a, b, c, d] 29)).cell? ⟨w6.heap.size, 0, none⟩ = some a := fun a b c d => (four_cells (heap_alloc_new _ _)).1
      have gD1 : ∀ (a b c d : Value), (World.alloc w6.drew (.cells #[a, b, c, d] 29)).cell? ⟨w6.heap.size, 1, none⟩ = some b := fun a b c d => (four_cells (heap_alloc_new _ _)).2.1
      have gD2 : ∀ (a b c d : Value), (World.alloc w6.drew (.cells #[a, b, c, d] 29)).cell? ⟨w6.heap.size, 2, none⟩ = some c := fun a b c d => (four_cells (heap_alloc_new _ _)).2.2.1
      have gD3 : ∀ (a b c d : Value), (World.alloc w6.drew (.cells #[a, b, c, d] 29)).cell? ⟨w6.heap.size, 3, none⟩ = some d := fun a b c d => (four_cells (heap_alloc_new _ _)).2.2.2
      have gDF : ∀ (a b c d : Value) (j : Nat), (World.alloc w6.drew (.cells #[a, b, c, d] 29)).frozen? ⟨w6.heap.size, j, none⟩ = false := fun a b c d j => one_free (heap_alloc_new w6.drew _) j
      have KD : Kept w6 w6.drew := (Kept.refl _).dr ⟨1, rfl⟩
      have hdr : ∀ (V : World) (p : Addr), V.drew.cell? p = V.cell? p := fun _ _ => rfl
      have hN0 : w6.heap.size ≠ p7 := World.new_ne w6 ⟨p7, 0, none⟩ (HC.out _ (Kept.refl _)).1
      go_region_held3 (fun Z => Z.cell? ⟨p7, 0, none⟩ = some (.int .i64 0) ∧ Z.cell? ⟨p7, 1, none⟩ = some (.int .i64 3) ∧ Z.cell? ⟨p7, 2, none⟩ = some (.int .i64 6) ∧ Z.cell? ⟨p7, 3, none⟩ = some (.int .i64 0)) ((obtain ⟨s0, s1, s2, s3⟩ := HC.out _ KD; obtain ⟨t0, t1, t2, t3⟩ := HC.out _ (Kept.refl _); first | simp only [s0, s1, s2, s3, t0, t1, t2, t3, hdr, World.cell?_alloc_some, World.cell?_setCell_far, Option.isSome_some, ne_eq, not_false_eq_true, and_self, hN0, hN1] | simp only [s0, s1, s2, s3, t0, t1, t2, t3, hdr, World.cell?_alloc_some, World.cell?_setCell_far, Option.isSome_some, ne_eq, not_false_eq_true, and_self, hN0])) (first | (go_at_call 12; refine (sh_table _).mono ?_; rintro e V1 ⟨ta, rfl, hS, J⟩; have KE : Kept w6 V1 := (by first | exact KD.trans J | exact (KD.trans (kept_al _ _)).trans J | exact ((KD.trans (kept_al _ _)).trans (kept_al _ _)).trans J); have cJ := J.cq; have fJ := J.fq; have zJ := J.size; have HSt := Lib.hid hS; have hz1 := KE.size; clear KD J hS; have KD := KE; clear KE; have hN1 : V1.heap.size ≠ p7 := World.new_ne V1 ⟨p7, 0, none⟩ (HC.out _ KD).1; (first | (have hq1 : w6.heap.size < V1.heap.size := by (simp at zJ; omega)) | skip); clear zJ) | (go_at_call 11; refine (HT.out _ _ (by first | exact HSt.out | exact (kept_al _ _).sl HSt.out)).mono ?_; rintro e V2 ⟨rfl, J⟩; have KE : Kept w6 V2 := (by first | exact KD.trans J | exact (KD.trans (kept_al _ _)).trans J | exact ((KD.trans (kept_al _ _)).trans (kept_al _ _)).trans J); have cK := J.cq; have fK := J.fq; have zK := J.size; have hz2 := KE.size; clear KD J; have KD := KE; clear KE; (first | (have hq2 : w6.heap.size < V2.heap.size := by (simp at zK; omega)) | skip); clear zK))
      all_goals (first | (go_wp2_with fail; done) | skip)
      all_goals (first | go_meet | (go_wp2_with fail; go_meet))
      · exact ⟨rfl, KD.trans (kept_al V2 _)⟩
      · exact ⟨rfl, KD.onl (only_set4 _ _ _ _ _ _) (by intro i hi; have := List.mem_singleton.1 hi; omega)⟩
      · exact ⟨rfl, KD.onl (only_set4 _ _ _ _ _ _) (by intro i hi; have := List.mem_singleton.1 hi; omega)⟩
    case rest =>
      obtain ⟨rfl, kk⟩ := hcut
      clear HT
      generalize wc = w7 at *
      replace HC : Hid (∀ Z, Kept w7 Z → Z.cell? ⟨p7, 0, none⟩ = some (.int .i64 0) ∧ Z.cell? ⟨p7, 1, none⟩ = some (.int .i64 3) ∧ Z.cell? ⟨p7, 2, none⟩ = some (.int .i64 6) ∧ Z.cell? ⟨p7, 3, none⟩ = some (.int .i64 0)) := fun Z k => HC.out Z (kk.trans k)
      replace HD : Hid (∀ Z, Kept w7 Z → Z.cell? ⟨q, 0, none⟩ = some (.int .i64 0) ∧ Z.cell? ⟨q, 1, none⟩ = some (.int .i64 3) ∧ Z.cell? ⟨q, 2, none⟩ = some (.int .i64 3) ∧ Z.cell? ⟨q, 3, none⟩ = some (.int .i64 0)) := fun Z k => HD.out Z (kk.trans k)
      replace K := K.trans kk
      clear kk
      have HT := Lib.hid (fun V a hS => sh_take_lit ⟨2, 1, 0, 3, 7, 0, none, 0, 0, none, 0, 0, 0⟩ [] [] ⟨0, 0, 0, 0⟩ 1 (by decide +kernel) V a hS (slM_0 V) (sl_nil _ _) (fun i => by simp) (by decide))
      unfold SV.v MV.cs at HT
      dsimp only at HT
      obtain ⟨d0, d1, d2, d3⟩ := HC.out _ (Kept.refl _)
      go_upto_region 9 with fail
      clear d0 d1 d2 d3
      go_cut [13, 14] from 64 to 70 (fun p e wx => e = .int .i64 1 ∧ Kept w7 wx)
      case first =>
        have gD0 : ∀ (a b c d : Value), (World.alloc w7.drew (.cells #[a, b, c, d] 29)).cell? ⟨w7.heap.size, 0, none⟩ = some a := fun a b c d => (four_cells (heap_alloc_new _ _)).1
        have gD1 : ∀ (a b c d : Value), (World.alloc w7.drew (.cells #[a, b, c, d] 29)).cell? ⟨w7.heap.size, 1, none⟩ = some b := fun a b c d => (four_cells (heap_alloc_new _ _)).2.1
        have gD2 : ∀ (a b c d : Value), (World.alloc w7.drew (.cells #[a, b, c, d] 29)).cell? ⟨w7.heap.size, 2, none⟩ = some c := fun a b c d => (four_cells (heap_alloc_new _ _)).2.2.1
        have gD3 : ∀ (a b c d : Value), (World.alloc w7.drew (.cells #[a, b, c, d] 29)).cell? ⟨w7.heap.size, 3, none⟩ = some d := fun a b c d => (four_cells (heap_alloc_new _ _)).2.2.2
        have gDF : ∀ (a b c d : Value) (j : Nat), (World.alloc w7.drew (.cells #[a, b, c, d] 29)).frozen? ⟨w7.heap.size, j, none⟩ = false := fun a b c d j => one_free (heap_alloc_new w7.drew _) j
        have KD : Kept w7 w7.drew := (Kept.refl _).dr ⟨1, rfl⟩
        have hdr : ∀ (V : World) (p : Addr), V.drew.cell? p = V.cell? p := fun _ _ => rfl
        have hN0 : w7.heap.size ≠ p7 := World.new_ne w7 ⟨p7, 0, none⟩ (HC.out _ (Kept.refl _)).1
        go_region_held3 (fun Z => Z.cell? ⟨p7, 0, none⟩ = some (.int .i64 0) ∧ Z.cell? ⟨p7, 1, none⟩ = some (.int .i64 3) ∧ Z.cell? ⟨p7, 2, none⟩ = some (.int .i64 6) ∧ Z.cell? ⟨p7, 3, none⟩ = some (.int .i64 0)) ((obtain ⟨s0, s1, s2, s3⟩ := HC.out _ KD; obtain ⟨t0, t1, t2, t3⟩ := HC.out _ (Kept.refl _); first | simp only [s0, s1, s2, s3, t0, t1, t2, t3, hdr, World.cell?_alloc_some, World.cell?_setCell_far, Option.isSome_some, ne_eq, not_false_eq_true, and_self, hN0, hN1] | simp only [s0, s1, s2, s3, t0, t1, t2, t3, hdr, World.cell?_alloc_some, World.cell?_setCell_far, Option.isSome_some, ne_eq, not_false_eq_true, and_self, hN0])) (first | (go_at_call 12; refine (sh_table _).mono ?_; rintro e V1 ⟨ta, rfl, hS, J⟩; have KE : Kept w7 V1 := (by first | exact KD.trans J | exact (KD.trans (kept_al _ _)).trans J | exact ((KD.trans (kept_al _ _)).trans (kept_al _ _)).trans J); have cJ := J.cq; have fJ := J.fq; have zJ := J.size; have HSt := Lib.hid hS; have hz1 := KE.size; clear KD J hS; have KD := KE; clear KE; have hN1 : V1.heap.size ≠ p7 := World.new_ne V1 ⟨p7, 0, none⟩ (HC.out _ KD).1; (first | (have hq1 : w7.heap.size < V1.heap.size := by (simp at zJ; omega)) | skip); clear zJ) | (go_at_call 11; refine (HT.out _ _ (by first | exact HSt.out | exact (kept_al _ _).sl HSt.out)).mono ?_; rintro e V2 ⟨rfl, J⟩; have KE : Kept w7 V2 := (by first | exact KD.trans J | exact (KD.trans (kept_al _ _)).trans J | exact ((KD.trans (kept_al _ _)).trans (kept_al _ _)).trans J); have cK := J.cq; have fK := J.fq; have zK := J.size; have hz2 := KE.size; clear KD J; have KD := KE; clear KE; (first | (have hq2 : w7.heap.size < V2.heap.size := by (simp at zK; omega)) | skip); clear zK))
        all_goals (first | (go_wp2_with fail; done) | skip)
        all_goals (first | go_meet | (go_wp2_with fail; go_meet))
        · exact ⟨rfl, KD.trans (kept_al V2 _)⟩
        · exact ⟨rfl, KD.onl (only_set4 _ _ _ _ _ _) (by intro i hi; have := List.mem_singleton.1 hi; omega)⟩
        · exact ⟨rfl, KD.onl (only_set4 _ _ _ _ _ _) (by intro i hi; have := List.mem_singleton.1 hi; omega)⟩
      case rest =>
        obtain ⟨rfl, kk⟩ := hcut
        clear HT
        generalize wc = w8 at *
        replace HC : Hid (∀ Z, Kept w8 Z → Z.cell? ⟨p7, 0, none⟩ = some (.int .i64 0) ∧ Z.cell? ⟨p7, 1, none⟩ = some (.int .i64 3) ∧ Z.cell? ⟨p7, 2, none⟩ = some (.int .i64 6) ∧ Z.cell? ⟨p7, 3, none⟩ = some (.int .i64 0)) := fun Z k => HC.out Z (kk.trans k)
        replace HD : Hid (∀ Z, Kept w8 Z → Z.cell? ⟨q, 0, none⟩ = some (.int .i64 0) ∧ Z.cell? ⟨q, 1, none⟩ = some (.int .i64 3) ∧ Z.cell? ⟨q, 2, none⟩ = some (.int .i64 3) ∧ Z.cell? ⟨q, 3, none⟩ = some (.int .i64 0)) := fun Z k => HD.out Z (kk.trans k)
        replace K := K.trans kk
        clear kk
        have HT := Lib.hid (fun V a hS => sh_take_lit ⟨2, 0, 1, 3, 5, 0, none, 0, 0, none, 0, 0, 0⟩ [] [] ⟨0, 0, 0, 0⟩ 1 (by decide +kernel) V a hS (slM_0 V) (sl_nil _ _) (fun i => by simp) (by decide))
        unfold SV.v MV.cs at HT
        dsimp only at HT
        obtain ⟨d0, d1, d2, d3⟩ := HC.out _ (Kept.refl _)
        go_upto_region 10 with fail
        clear d0 d1 d2 d3
        go_cut [15, 16] from 71 to 77 (fun p e wx => e = .int .i64 1 ∧ Kept w8 wx)
        case first =>
          have gD0 : ∀ (a b c d : Value), (World.alloc w8.drew (.cells #[a, b, c, d] 29)).cell? ⟨w8.heap.size, 0, none⟩ = some a := fun a b c d => (four_cells (heap_alloc_new _ _)).1
          have gD1 : ∀ (a b c d : Value), (World.alloc w8.drew (.cells #[a, b, c, d] 29)).cell? ⟨w8.heap.size, 1, none⟩ = some b := fun a b c d => (four_cells (heap_alloc_new _ _)).2.1
          have gD2 : ∀ (a b c d : Value), (World.alloc w8.drew (.cells #[a, b, c, d] 29)).cell? ⟨w8.heap.size, 2, none⟩ = some c := fun a b c d => (four_cells (heap_alloc_new _ _)).2.2.1
          have gD3 : ∀ (a b c d : Value), (World.alloc w8.drew (.cells #[a, b, c, d] 29)).cell? ⟨w8.heap.size, 3, none⟩ = some d := fun a b c d => (four_cells (heap_alloc_new _ _)).2.2.2
          have gDF : ∀ (a b c d : Value) (j : Nat), (World.alloc w8.drew (.cells #[a, b, c, d] 29)).frozen? ⟨w8.heap.size, j, none⟩ = false := fun a b c d j => one_free (heap_alloc_new w8.drew _) j
          have KD : Kept w8 w8.drew := (Kept.refl _).dr ⟨1, rfl⟩
          have hdr : ∀ (V : World) (p : Addr), V.drew.cell? p = V.cell? p := fun _ _ => rfl
          have hN0 : w8.heap.size ≠ p7 := World.new_ne w8 ⟨p7, 0, none⟩ (HC.out _ (Kept.refl _)).1
          go_region_held3 (fun Z => Z.cell? ⟨p7, 0, none⟩ = some (.int .i64 0) ∧ Z.cell? ⟨p7, 1, none⟩ = some (.int .i64 3) ∧ Z.cell? ⟨p7, 2, none⟩ = some (.int .i64 6) ∧ Z.cell? ⟨p7, 3, none⟩ = some (.int .i64 0)) ((obtain ⟨s0, s1, s2, s3⟩ := HC.out _ KD; obtain ⟨t0, t1, t2, t3⟩ := HC.out _ (Kept.refl _); first | simp only [s0, s1, s2, s3, t0, t1, t2, t3, hdr, World.cell?_alloc_some, World.cell?_setCell_far, Option.isSome_some, ne_eq, not_false_eq_true, and_self, hN0, hN1] | simp only [s0, s1, s2, s3, t0, t1, t2, t3, hdr, World.cell?_alloc_some, World.cell?_setCell_far, Option.isSome_some, ne_eq, not_false_eq_true, and_self, hN0])) (first | (go_at_call 12; refine (sh_table _).mono ?_; rintro e V1 ⟨ta, rfl, hS, J⟩; have KE : Kept w8 V1 := (by first | exact KD.trans J | exact (KD.trans (kept_al _ _)).trans J | exact ((KD.trans (kept_al _ _)).trans (kept_al _ _)).trans J); have cJ := J.cq; have fJ := J.fq; have zJ := J.size; have HSt := Lib.hid hS; have hz1 := KE.size; clear KD J hS; have KD := KE; clear KE; have hN1 : V1.heap.size ≠ p7 := World.new_ne V1 ⟨p7, 0, none⟩ (HC.out _ KD).1; (first | (have hq1 : w8.heap.size < V1.heap.size := by (simp at zJ; omega)) | skip); clear zJ) | (go_at_call 11; refine (HT.out _ _ (by first | exact HSt.out | exact (kept_al _ _).sl HSt.out)).mono ?_; rintro e V2 ⟨rfl, J⟩; have KE : Kept w8 V2 := (by first | exact KD.trans J | exact (KD.trans (kept_al _ _)).trans J | exact ((KD.trans (kept_al _ _)).trans (kept_al _ _)).trans J); have cK := J.cq; have fK := J.fq; have zK := J.size; have hz2 := KE.size; clear KD J; have KD := KE; clear KE; (first | (have hq2 : w8.heap.size < V2.heap.size := by (simp at zK; omega)) | skip); clear zK))
          all_goals (first | (go_wp2_with fail; done) | skip)
          all_goals (first | go_meet | (go_wp2_with fail; go_meet))
          · exact ⟨rfl, KD.trans (kept_al V2 _)⟩
          · exact ⟨rfl, KD.onl (only_set4 _ _ _ _ _ _) (by intro i hi; have := List.mem_singleton.1 hi; omega)⟩
          · exact ⟨rfl, KD.onl (only_set4 _ _ _ _ _ _) (by intro i hi; have := List.mem_singleton.1 hi; omega)⟩
        case rest =>
          obtain ⟨rfl, kk⟩ := hcut
          clear HT
          generalize wc = w9 at *
          replace HC : Hid (∀ Z, Kept w9 Z → Z.cell? ⟨p7, 0, none⟩ = some (.int .i64 0) ∧ Z.cell? ⟨p7, 1, none⟩ = some (.int .i64 3) ∧ Z.cell? ⟨p7, 2, none⟩ = some (.int .i64 6) ∧ Z.cell? ⟨p7, 3, none⟩ = some (.int .i64 0)) := fun Z k => HC.out Z (kk.trans k)
          replace HD : Hid (∀ Z, Kept w9 Z → Z.cell? ⟨q, 0, none⟩ = some (.int .i64 0) ∧ Z.cell? ⟨q, 1, none⟩ = some (.int .i64 3) ∧ Z.cell? ⟨q, 2, none⟩ = some (.int .i64 3) ∧ Z.cell? ⟨q, 3, none⟩ = some (.int .i64 0)) := fun Z k => HD.out Z (kk.trans k)
          replace K := K.trans kk
          clear kk
          have HT := Lib.hid (fun V a hS => sh_take_lit ⟨1, 1, 0, 3, 0, 0, none, 0, 0, none, 0, 0, 0⟩ [] [] ⟨0, 0, 0, 0⟩ 1 (by decide +kernel) V a hS (slM_0 V) (sl_nil _ _) (fun i => by simp) (by decide))
          unfold SV.v MV.cs at HT
          dsimp only at HT
          obtain ⟨d0, d1, d2, d3⟩ := HC.out _ (Kept.refl _)
          go_upto_region 11 with fail
          clear d0 d1 d2 d3
          go_cut [17, 18] from 78 to 84 (fun p e wx => e = .int .i64 1 ∧ Kept w9 wx)
          case first =>
            have gD0 : ∀ (a b c d : Value), (World.alloc w9.drew (.cells #[a, b, c, d] 29)).cell? ⟨w9.heap.size, 0, none⟩ = some a := fun a b c d => (four_cells (heap_alloc_new _ _)).1
            have gD1 : ∀ (a b c d : Value), (World.alloc w9.drew (.cells #[a, b, c, d] 29)).cell? ⟨w9.heap.size, 1, none⟩ = some b := fun a b c d => (four_cells (heap_alloc_new _ _)).2.1
            have gD2 : ∀ (a b c d : Value), (World.alloc w9.drew (.cells #[a, b, c, d] 29)).cell? ⟨w9.heap.size, 2, none⟩ = some c := fun a b c d => (four_cells (heap_alloc_new _ _)).2.2.1
            have gD3 : ∀ (a b c d : Value), (World.alloc w9.drew (.cells #[a, b, c, d] 29)).cell? ⟨w9.heap.size, 3, none⟩ = some d := fun a b c d => (four_cells (heap_alloc_new _ _)).2.2.2
            have gDF : ∀ (a b c d : Value) (j : Nat), (World.alloc w9.drew (.cells #[a, b, c, d] 29)).frozen? ⟨w9.heap.size, j, none⟩ = false := fun a b c d j => one_free (heap_alloc_new w9.drew _) j
            have KD : Kept w9 w9.drew := (Kept.refl _).dr ⟨1, rfl⟩
            have hdr : ∀ (V : World) (p : Addr), V.drew.cell? p = V.cell? p := fun _ _ => rfl
            have hN0 : w9.heap.size ≠ p7 := World.new_ne w9 ⟨p7, 0, none⟩ (HC.out _ (Kept.refl _)).1
            go_region_held3 (fun Z => Z.cell? ⟨p7, 0, none⟩ = some (.int .i64 0) ∧ Z.cell? ⟨p7, 1, none⟩ = some (.int .i64 3) ∧ Z.cell? ⟨p7, 2, none⟩ = some (.int .i64 6) ∧ Z.cell? ⟨p7, 3, none⟩ = some (.int .i64 0)) ((obtain ⟨s0, s1, s2, s3⟩ := HC.out _ KD; obtain ⟨t0, t1, t2, t3⟩ := HC.out _ (Kept.refl _); first | simp only [s0, s1, s2, s3, t0, t1, t2, t3, hdr, World.cell?_alloc_some, World.cell?_setCell_far, Option.isSome_some, ne_eq, not_false_eq_true, and_self, hN0, hN1] | simp only [s0, s1, s2, s3, t0, t1, t2, t3, hdr, World.cell?_alloc_some, World.cell?_setCell_far, Option.isSome_some, ne_eq, not_false_eq_true, and_self, hN0])) (first | (go_at_call 12; refine (sh_table _).mono ?_; rintro e V1 ⟨ta, rfl, hS, J⟩; have KE : Kept w9 V1 := (by first | exact KD.trans J | exact (KD.trans (kept_al _ _)).trans J | exact ((KD.trans (kept_al _ _)).trans (kept_al _ _)).trans J); have cJ := J.cq; have fJ := J.fq; have zJ := J.size; have HSt := Lib.hid hS; have hz1 := KE.size; clear KD J hS; have KD := KE; clear KE; have hN1 : V1.heap.size ≠ p7 := World.new_ne V1 ⟨p7, 0, none⟩ (HC.out _ KD).1; (first | (have hq1 : w9.heap.size < V1.heap.size := by (simp at zJ; omega)) | skip); clear zJ) | (go_at_call 11; refine (HT.out _ _ (by first | exact HSt.out | exact (kept_al _ _).sl HSt.out)).mono ?_; rintro e V2 ⟨rfl, J⟩; have KE : Kept w9 V2 := (by first | exact KD.trans J | exact (KD.trans (kept_al _ _)).trans J | exact ((KD.trans (kept_al _ _)).trans (kept_al _ _)).trans J); have cK := J.cq; have fK := J.fq; have zK := J.size; have hz2 := KE.size; clear KD J; have KD := KE; clear KE; (first | (have hq2 : w9.heap.size < V2.heap.size := by (simp at zK; omega)) | skip); clear zK))
            all_goals (first | (go_wp2_with fail; done) | skip)
            all_goals (first | go_meet | (go_wp2_with fail; go_meet))
            · exact ⟨rfl, KD.trans (kept_al V2 _)⟩
            · exact ⟨rfl, KD.onl (only_set4 _ _ _ _ _ _) (by intro i hi; have := List.mem_singleton.1 hi; omega)⟩
            · exact ⟨rfl, KD.onl (only_set4 _ _ _ _ _ _) (by intro i hi; have := List.mem_singleton.1 hi; omega)⟩
          case rest =>
            obtain ⟨rfl, kk⟩ := hcut
            clear HT
            generalize wc = w10 at *
            replace HC : Hid (∀ Z, Kept w10 Z → Z.cell? ⟨p7, 0, none⟩ = some (.int .i64 0) ∧ Z.cell? ⟨p7, 1, none⟩ = some (.int .i64 3) ∧ Z.cell? ⟨p7, 2, none⟩ = some (.int .i64 6) ∧ Z.cell? ⟨p7, 3, none⟩ = some (.int .i64 0)) := fun Z k => HC.out Z (kk.trans k)
            replace HD : Hid (∀ Z, Kept w10 Z → Z.cell? ⟨q, 0, none⟩ = some (.int .i64 0) ∧ Z.cell? ⟨q, 1, none⟩ = some (.int .i64 3) ∧ Z.cell? ⟨q, 2, none⟩ = some (.int .i64 3) ∧ Z.cell? ⟨q, 3, none⟩ = some (.int .i64 0)) := fun Z k => HD.out Z (kk.trans k)
            replace K := K.trans kk
            clear kk
            have HT := Lib.hid (fun V a hS => sh_take_lit ⟨0, 0, 0, 0, 0, 0, none, 0, 0, none, 0, 0, 0⟩ [] [] ⟨0, 0, 0, 0⟩ 1 (by decide +kernel) V a hS (slM_0 V) (sl_nil _ _) (fun i => by simp) (by decide))
            unfold SV.v MV.cs at HT
            dsimp only at HT
            obtain ⟨d0, d1, d2, d3⟩ := HC.out _ (Kept.refl _)
            go_upto_region 12 with fail
            clear d0 d1 d2 d3
            go_cut [19, 20] from 85 to 91 (fun p e wx => e = .int .i64 1 ∧ Kept w10 wx)
            case first =>
              have gD0 : ∀ (a b c d : Value), (World.alloc w10.drew (.cells #[a, b, c, d] 29)).cell? ⟨w10.heap.size, 0, none⟩ = some a := fun a b c d => (four_cells (heap_alloc_new _ _)).1
              have gD1 : ∀ (a b c d : Value), (World.alloc w10.drew (.cells #[a, b, c, d] 29)).cell? ⟨w10.heap.size, 1, none⟩ = some b := fun a b c d => (four_cells (heap_alloc_new _ _)).2.1
              have gD2 : ∀ (a b c d : Value), (World.alloc w10.drew (.cells #[a, b, c, d] 29)).cell? ⟨w10.heap.size, 2, none⟩ = some c := fun a b c d => (four_cells (heap_alloc_new _ _)).2.2.1
              have gD3 : ∀ (a b c d : Value), (World.alloc w10.drew (.cells #[a, b, c, d] 29)).cell? ⟨w10.heap.size, 3, none⟩ = some d := fun a b c d => (four_cells (heap_alloc_new _ _)).2.2.2
              have gDF : ∀ (a b c d : Value) (j : Nat), (World.alloc w10.drew (.cells #[a, b, c, d] 29)).frozen? ⟨w10.heap.size, j, none⟩ = false := fun a b c d j => one_free (heap_alloc_new w10.drew _) j
              have KD : Kept w10 w10.drew := (Kept.refl _).dr ⟨1, rfl⟩
              have hdr : ∀ (V : World) (p : Addr), V.drew.cell? p = V.cell? p := fun _ _ => rfl
              have hN0 : w10.heap.size ≠ p7 := World.new_ne w10 ⟨p7, 0, none⟩ (HC.out _ (Kept.refl _)).1
              go_region_held3 (fun Z => Z.cell? ⟨p7, 0, none⟩ = some (.int .i64 0) ∧ Z.cell? ⟨p7, 1, none⟩ = some (.int .i64 3) ∧ Z.cell? ⟨p7, 2, none⟩ = some (.int .i64 6) ∧ Z.cell? ⟨p7, 3, none⟩ = some (.int .i64 0)) ((obtain ⟨s0, s1, s2, s3⟩ := HC.out _ KD; obtain ⟨t0, t1, t2, t3⟩ := HC.out _ (Kept.refl _); first | simp only [s0, s1, s2, s3, t0, t1, t2, t3, hdr, World.cell?_alloc_some, World.cell?_setCell_far, Option.isSome_some, ne_eq, not_false_eq_true, and_self, hN0, hN1] | simp only [s0, s1, s2, s3, t0, t1, t2, t3, hdr, World.cell?_alloc_some, World.cell?_setCell_far, Option.isSome_some, ne_eq, not_false_eq_true, and_self, hN0])) (first | (go_at_call 12; refine (sh_table _).mono ?_; rintro e V1 ⟨ta, rfl, hS, J⟩; have KE : Kept w10 V1 := (by first | exact KD.trans J | exact (KD.trans (kept_al _ _)).trans J | exact ((KD.trans (kept_al _ _)).trans (kept_al _ _)).trans J); have cJ := J.cq; have fJ := J.fq; have zJ := J.size; have HSt := Lib.hid hS; have hz1 := KE.size; clear KD J hS; have KD := KE; clear KE; have hN1 : V1.heap.size ≠ p7 := World.new_ne V1 ⟨p7, 0, none⟩ (HC.out _ KD).1; (first | (have hq1 : w10.heap.size < V1.heap.size := by (simp at zJ; omega)) | skip); clear zJ) | (go_at_call 11; refine (HT.out _ _ (by first | exact HSt.out | exact (kept_al _ _).sl HSt.out)).mono ?_; rintro e V2 ⟨rfl, J⟩; have KE : Kept w10 V2 := (by first | exact KD.trans J | exact (KD.trans (kept_al _ _)).trans J | exact ((KD.trans (kept_al _ _)).trans (kept_al _ _)).trans J); have cK := J.cq; have fK := J.fq; have zK := J.size; have hz2 := KE.size; clear KD J; have KD := KE; clear KE; (first | (have hq2 : w10.heap.size < V2.heap.size := by (simp at zK; omega)) | skip); clear zK))
              all_goals (first | (go_wp2_with fail; done) | skip)
              all_goals (first | go_meet | (go_wp2_with fail; go_meet))
              · exact ⟨rfl, KD.trans (kept_al V2 _)⟩
              · exact ⟨rfl, KD.onl (only_set4 _ _ _ _ _ _) (by intro i hi; have := List.mem_singleton.1 hi; omega)⟩
              · exact ⟨rfl, KD.onl (only_set4 _ _ _ _ _ _) (by intro i hi; have := List.mem_singleton.1 hi; omega)⟩
            case rest =>
              obtain ⟨rfl, kk⟩ := hcut
              clear HT
              generalize wc = w11 at *
              replace HC : Hid (∀ Z, Kept w11 Z → Z.cell? ⟨p7, 0, none⟩ = some (.int .i64 0) ∧ Z.cell? ⟨p7, 1, none⟩ = some (.int .i64 3) ∧ Z.cell? ⟨p7, 2, none⟩ = some (.int .i64 6) ∧ Z.cell? ⟨p7, 3, none⟩ = some (.int .i64 0)) := fun Z k => HC.out Z (kk.trans k)
              replace HD : Hid (∀ Z, Kept w11 Z → Z.cell? ⟨q, 0, none⟩ = some (.int .i64 0) ∧ Z.cell? ⟨q, 1, none⟩ = some (.int .i64 3) ∧ Z.cell? ⟨q, 2, none⟩ = some (.int .i64 3) ∧ Z.cell? ⟨q, 3, none⟩ = some (.int .i64 0)) := fun Z k => HD.out Z (kk.trans k)
              replace K := K.trans kk
              clear kk
              go_wp2_with fail
              refine (sh_at 1 2 17592186044418 _ (by omega) (by omega) (by omega) (by omega) (by omega)).mono ?_
              rintro E w' ⟨rfl, rfl⟩
              go_wp2_with fail
              refine (sh_at 1 3 17592186044419 _ (by omega) (by omega) (by omega) (by omega) (by omega)).mono ?_
              rintro E w' ⟨rfl, rfl⟩
              go_wp2_with fail
              refine (sh_at 3 4 52776558133252 _ (by omega) (by omega) (by omega) (by omega) (by omega)).mono ?_
              rintro E w' ⟨rfl, rfl⟩
              go_wp2_with fail
              refine (sh_at 3 5 52776558133253 _ (by omega) (by omega) (by omega) (by omega) (by omega)).mono ?_
              rintro E w' ⟨rfl, rfl⟩
              go_upto_region 14 with fail
              have HL : Hid (∀ Z, Kept (w11.alloc (.cells #[.int .u64 17592186044418, .slice none 0 0, .int .u64 17592186044419, .slice none 0 0, .int .u64 52776558133252, .slice none 0 0, .int .u64 52776558133253, .slice none 0 0] 45)) Z → SlQ Z (some ⟨w11.heap.size, 0, none⟩) 4 4 [⟨17592186044418, none, 0, 0⟩, ⟨17592186044419, none, 0, 0⟩, ⟨52776558133252, none, 0, 0⟩, ⟨52776558133253, none, 0, 0⟩]) := fun Z k => (slQ_four w11 17592186044418 17592186044419 52776558133252 52776558133253 (by decide) (by decide) (by decide) (by decide)).kept k
              have kk := kept_al w11 (.cells #[.int .u64 17592186044418, .slice none 0 0, .int .u64 17592186044419, .slice none 0 0, .int .u64 52776558133252, .slice none 0 0, .int .u64 52776558133253, .slice none 0 0] 45)
              generalize World.alloc w11 _ = w12 at *
              obtain ⟨pl, hpl⟩ : ∃ p, w11.heap.size = p := ⟨_, rfl⟩
              rw [hpl] at HL ⊢
              clear hpl
              replace HC : Hid (∀ Z, Kept w12 Z → Z.cell? ⟨p7, 0, none⟩ = some (.int .i64 0) ∧ Z.cell? ⟨p7, 1, none⟩ = some (.int .i64 3) ∧ Z.cell? ⟨p7, 2, none⟩ = some (.int .i64 6) ∧ Z.cell? ⟨p7, 3, none⟩ = some (.int .i64 0)) := fun Z k => HC.out Z (kk.trans k)
              replace HD : Hid (∀ Z, Kept w12 Z → Z.cell? ⟨q, 0, none⟩ = some (.int .i64 0) ∧ Z.cell? ⟨q, 1, none⟩ = some (.int .i64 3) ∧ Z.cell? ⟨q, 2, none⟩ = some (.int .i64 3) ∧ Z.cell? ⟨q, 3, none⟩ = some (.int .i64 0)) := fun Z k => HD.out Z (kk.trans k)
              replace K := K.trans kk
              clear kk
              have gM0 : ∀ (V : World) (a0 a1 a2 a3 a4 a5 a6 a7 a8 : Value), (V.alloc (.cells #[a0, a1, a2, a3, a4, a5, a6, a7, a8] 36)).cell? ⟨V.heap.size, 0, none⟩ = some a0 := fun V a0 a1 a2 a3 a4 a5 a6 a7 a8 => (nine_cells (heap_alloc_new V _)).1
              have gM1 : ∀ (V : World) (a0 a1 a2 a3 a4 a5 a6 a7 a8 : Value), (V.alloc (.cells #[a0, a1, a2, a3, a4, a5, a6, a7, a8] 36)).cell? ⟨V.heap.size, 1, none⟩ = some a1 := fun V a0 a1 a2 a3 a4 a5 a6 a7 a8 => (nine_cells (heap_alloc_new V _)).2.1
              have gM2 : ∀ (V : World) (a0 a1 a2 a3 a4 a5 a6 a7 a8 : Value), (V.alloc (.cells #[a0, a1, a2, a3, a4, a5, a6, a7, a8] 36)).cell? ⟨V.heap.size, 2, none⟩ = some a2 := fun V a0 a1 a2 a3 a4 a5 a6 a7 a8 => (nine_cells (heap_alloc_new V _)).2.2.1
              have gM3 : ∀ (V : World) (a0 a1 a2 a3 a4 a5 a6 a7 a8 : Value), (V.alloc (.cells #[a0, a1, a2, a3, a4, a5, a6, a7, a8] 36)).cell? ⟨V.heap.size, 3, none⟩ = some a3 := fun V a0 a1 a2 a3 a4 a5 a6 a7 a8 => (nine_cells (heap_alloc_new V _)).2.2.2.1
              have gM4 : ∀ (V : World) (a0 a1 a2 a3 a4 a5 a6 a7 a8 : Value), (V.alloc (.cells #[a0, a1, a2, a3, a4, a5, a6, a7, a8] 36)).cell? ⟨V.heap.size, 4, none⟩ = some a4 := fun V a0 a1 a2 a3 a4 a5 a6 a7 a8 => (nine_cells (heap_alloc_new V _)).2.2.2.2.1
              have gM5 : ∀ (V : World) (a0 a1 a2 a3 a4 a5 a6 a7 a8 : Value), (V.alloc (.cells #[a0, a1, a2, a3, a4, a5, a6, a7, a8] 36)).cell? ⟨V.heap.size, 5, none⟩ = some a5 := fun V a0 a1 a2 a3 a4 a5 a6 a7 a8 => (nine_cells (heap_alloc_new V _)).2.2.2.2.2.1
              have gM6 : ∀ (V : World) (a0 a1 a2 a3 a4 a5 a6 a7 a8 : Value), (V.alloc (.cells #[a0, a1, a2, a3, a4, a5, a6, a7, a8] 36)).cell? ⟨V.heap.size, 6, none⟩ = some a6 := fun V a0 a1 a2 a3 a4 a5 a6 a7 a8 => (nine_cells (heap_alloc_new V _)).2.2.2.2.2.2.1
              have gM7 : ∀ (V : World) (a0 a1 a2 a3 a4 a5 a6 a7 a8 : Value), (V.alloc (.cells #[a0, a1, a2, a3, a4, a5, a6, a7, a8] 36)).cell? ⟨V.heap.size, 7, none⟩ = some a7 := fun V a0 a1 a2 a3 a4 a5 a6 a7 a8 => (nine_cells (heap_alloc_new V _)).2.2.2.2.2.2.2.1
              have gM8 : ∀ (V : World) (a0 a1 a2 a3 a4 a5 a6 a7 a8 : Value), (V.alloc (.cells #[a0, a1, a2, a3, a4, a5, a6, a7, a8] 36)).cell? ⟨V.heap.size, 8, none⟩ = some a8 := fun V a0 a1 a2 a3 a4 a5 a6 a7 a8 => (nine_cells (heap_alloc_new V _)).2.2.2.2.2.2.2.2
              have gMF : ∀ (V : World) (a0 a1 a2 a3 a4 a5 a6 a7 a8 : Value) (j : Nat), (V.alloc (.cells #[a0, a1, a2, a3, a4, a5, a6, a7, a8] 36)).frozen? ⟨V.heap.size, j, none⟩ = false := fun V a0 a1 a2 a3 a4 a5 a6 a7 a8 j => one_free (heap_alloc_new V _) j
              have HT := Lib.hid (fun V a hS hQ => sh_make_lit ⟨0, 3, 3, 0⟩ [17592186044416, 52776558133252] 6 a 2 2 [⟨17592186044418, none, 0, 0⟩, ⟨17592186044419, none, 0, 0⟩, ⟨52776558133252, none, 0, 0⟩, ⟨52776558133253, none, 0, 0⟩] 3 1 3 (by decide +kernel) (by decide +kernel) (by decide +kernel) (by decide +kernel) rfl (some ⟨pl, 0, none⟩) 4 4 V hS (isW_of_mem (by decide)) hQ (by decide))
              unfold SV.v at HT
              dsimp only at HT
              go_cut [22, 23] from 101 to 107 (fun p e wx => e = .int .i64 0 ∧ Kept w12 wx ∧ ∃ q a6 c6, p = .pointer (some ⟨q, 0, none⟩) ∧ wx.cell? ⟨q, 0, none⟩ = some (.int .i64 1) ∧ wx.cell? ⟨q, 1, none⟩ = some (.int .i64 0) ∧ wx.cell? ⟨q, 2, none⟩ = some (.int .i64 1) ∧ wx.cell? ⟨q, 3, none⟩ = some (.int .i64 3) ∧ wx.cell? ⟨q, 4, none⟩ = some (.int .i64 3) ∧ wx.cell? ⟨q, 5, none⟩ = some (.int .i64 1) ∧ wx.cell? ⟨q, 6, none⟩ = some (.slice a6 3 c6))
              case first =>
                have gE0 : ∀ (a0 a1 a2 a3 a4 a5 a6 a7 a8 : Value), (World.alloc w12.drew (.cells #[a0, a1, a2, a3, a4, a5, a6, a7, a8] 36)).cell? ⟨w12.heap.size, 0, none⟩ = some a0 := fun a0 a1 a2 a3 a4 a5 a6 a7 a8 => (nine_cells (heap_alloc_new _ _)).1
                have gE1 : ∀ (a0 a1 a2 a3 a4 a5 a6 a7 a8 : Value), (World.alloc w12.drew (.cells #[a0, a1, a2, a3, a4, a5, a6, a7, a8] 36)).cell? ⟨w12.heap.size, 1, none⟩ = some a1 := fun a0 a1 a2 a3 a4 a5 a6 a7 a8 => (nine_cells (heap_alloc_new _ _)).2.1
                have gE2 : ∀ (a0 a1 a2 a3 a4 a5 a6 a7 a8 : Value), (World.alloc w12.drew (.cells #[a0, a1, a2, a3, a4, a5, a6, a7, a8] 36)).cell? ⟨w12.heap.size, 2, none⟩ = some a2 := fun a0 a1 a2 a3 a4 a5 a6 a7 a8 => (nine_cells (heap_alloc_new _ _)).2.2.1
                have gE3 : ∀ (a0 a1 a2 a3 a4 a5 a6 a7 a8 : Value), (World.alloc w12.drew (.cells #[a0, a1, a2, a3, a4, a5, a6, a7, a8] 36)).cell? ⟨w12.heap.size, 3, none⟩ = some a3 := fun a0 a1 a2 a3 a4 a5 a6 a7 a8 => (nine_cells (heap_alloc_new _ _)).2.2.2.1
                have gE4 : ∀ (a0 a1 a2 a3 a4 a5 a6 a7 a8 : Value), (World.alloc w12.drew (.cells #[a0, a1, a2, a3, a4, a5, a6, a7, a8] 36)).cell? ⟨w12.heap.size, 4, none⟩ = some a4 := fun a0 a1 a2 a3 a4 a5 a6 a7 a8 => (nine_cells (heap_alloc_new _ _)).2.2.2.2.1
                have gE5 : ∀ (a0 a1 a2 a3 a4 a5 a6 a7 a8 : Value), (World.alloc w12.drew (.cells #[a0, a1, a2, a3, a4, a5, a6, a7, a8] 36)).cell? ⟨w12.heap.size, 5, none⟩ = some a5 := fun a0 a1 a2 a3 a4 a5 a6 a7 a8 => (nine_cells (heap_alloc_new _ _)).2.2.2.2.2.1
                have gE6 : ∀ (a0 a1 a2 a3 a4 a5 a6 a7 a8 : Value), (World.alloc w12.drew (.cells #[a0, a1, a2, a3, a4, a5, a6, a7, a8] 36)).cell? ⟨w12.heap.size, 6, none⟩ = some a6 := fun a0 a1 a2 a3 a4 a5 a6 a7 a8 => (nine_cells (heap_alloc_new _ _)).2.2.2.2.2.2.1
                have gE7 : ∀ (a0 a1 a2 a3 a4 a5 a6 a7 a8 : Value), (World.alloc w12.drew (.cells #[a0, a1, a2, a3, a4, a5, a6, a7, a8] 36)).cell? ⟨w12.heap.size, 7, none⟩ = some a7 := fun a0 a1 a2 a3 a4 a5 a6 a7 a8 => (nine_cells (heap_alloc_new _ _)).2.2.2.2.2.2.2.1
                have gE8 : ∀ (a0 a1 a2 a3 a4 a5 a6 a7 a8 : Value), (World.alloc w12.drew (.cells #[a0, a1, a2, a3, a4, a5, a6, a7, a8] 36)).cell? ⟨w12.heap.size, 8, none⟩ = some a8 := fun a0 a1 a2 a3 a4 a5 a6 a7 a8 => (nine_cells (heap_alloc_new _ _)).2.2.2.2.2.2.2.2
                have gEF : ∀ (a0 a1 a2 a3 a4 a5 a6 a7 a8 : Value) (j : Nat), (World.alloc w12.drew (.cells #[a0, a1, a2, a3, a4, a5, a6, a7, a8] 36)).frozen? ⟨w12.heap.size, j, none⟩ = false := fun a0 a1 a2 a3 a4 a5 a6 a7 a8 j => one_free (heap_alloc_new w12.drew _) j
                have KD : Kept w12 w12.drew := (Kept.refl _).dr ⟨1, rfl⟩
                have hdr : ∀ (V : World) (p : Addr), V.drew.cell? p = V.cell? p := fun _ _ => rfl
                have hN0 : w12.heap.size ≠ q := World.new_ne w12 ⟨q, 0, none⟩ (HD.out _ (Kept.refl _)).1
                go_region_held3 (fun Z => Z.cell? ⟨q, 0, none⟩ = some (.int .i64 0) ∧ Z.cell? ⟨q, 1, none⟩ = some (.int .i64 3) ∧ Z.cell? ⟨q, 2, none⟩ = some (.int .i64 3) ∧ Z.cell? ⟨q, 3, none⟩ = some (.int .i64 0)) ((obtain ⟨s0, s1, s2, s3⟩ := HD.out _ KD; obtain ⟨t0, t1, t2, t3⟩ := HD.out _ (Kept.refl _); first | simp only [s0, s1, s2, s3, t0, t1, t2, t3, hdr, World.cell?_alloc_some, World.cell?_setCell_far, Option.isSome_some, ne_eq, not_false_eq_true, and_self, hN0, hN1] | simp only [s0, s1, s2, s3, t0, t1, t2, t3, hdr, World.cell?_alloc_some, World.cell?_setCell_far, Option.isSome_some, ne_eq, not_false_eq_true, and_self, hN0])) (first | (go_at_call 12; refine (sh_table _).mono ?_; rintro e V1 ⟨ta, rfl, hS, J⟩; have KE : Kept w12 V1 := (by first | exact KD.trans J | exact (KD.trans (kept_al _ _)).trans J | exact ((KD.trans (kept_al _ _)).trans (kept_al _ _)).trans J); have cJ := J.cq; have fJ := J.fq; have zJ := J.size; have HSt := Lib.hid hS; have hz1 := KE.size; have HJ1 := Lib.hid J; clear KD J hS; have KD := KE; clear KE; have hN1 : V1.heap.size ≠ q := World.new_ne V1 ⟨q, 0, none⟩ (HD.out _ KD).1; (first | (have hq1 : w12.heap.size < V1.heap.size := by (simp at zJ; omega)) | skip); clear zJ) | (go_at_call 14; refine (HT.out _ _ (by first | exact HSt.out | exact (kept_al _ _).sl HSt.out) (by first | exact HL.out _ KD | exact HL.out _ (KD.trans (kept_al _ _)))).mono ?_; rintro e V2 ⟨a6, c6, rfl, J⟩; have KE : Kept w12 V2 := (by first | exact KD.trans J | exact (KD.trans (kept_al _ _)).trans J | exact ((KD.trans (kept_al _ _)).trans (kept_al _ _)).trans J); have cK := J.cq; have fK := J.fq; have zK := J.size; have hz2 := KE.size; have HJ2 := Lib.hid J; clear KD J; have KD := KE; clear KE; (first | (have hq2 : w12.heap.size < V2.heap.size := by (simp at zK; omega)) | skip); clear zK))
                all_goals (first | (go_wp2_with fail; done) | skip)
                all_goals (first | go_meet | (go_wp2_with fail; go_meet))
                · have h := nine_cells (heap_alloc_new V2 (.cells #[.int .i64 1, .int .i64 0, .int .i64 1, .int .i64 3, .int .i64 3, .int .i64 1, .slice a6 3 c6, .slice none 0 0, .int .i64 0] 36))
                  exact ⟨rfl, KD.trans (kept_al V2 _), _, _, _, rfl, ⟨h.1, h.2.1, h.2.2.1, h.2.2.2.1, h.2.2.2.2.1, h.2.2.2.2.2.1, h.2.2.2.2.2.2.1⟩⟩
                · have h := nine_cells (nine_set (HJ2.out.only.heap (heap_alloc_new V1 (.cells #[.int .i64 0, .int .i64 0, .int .i64 0, .int .i64 0, .int .i64 0, .int .i64 0, .slice none 0 0, .slice none 0 0, .int .i64 0] 36)) (by simp)) (.int .i64 1) (.int .i64 0) (.int .i64 1) (.int .i64 3) (.int .i64 3) (.int .i64 1) (.slice a6 3 c6) (.slice none 0 0) (.int .i64 0))
                  exact ⟨rfl, KD.onl (only_set9 _ _ _ _ _ _ _ _ _ _ _) (by intro i hi; have := List.mem_singleton.1 hi; (first | omega | (subst this; exact Nat.le_refl _))), _, _, _, rfl, ⟨h.1, h.2.1, h.2.2.1, h.2.2.2.1, h.2.2.2.2.1, h.2.2.2.2.2.1, h.2.2.2.2.2.2.1⟩⟩
                · have h := nine_cells (nine_set (HJ2.out.only.heap (HJ1.out.only.heap (heap_alloc_new w12.drew (.cells #[.int .i64 0, .int .i64 0, .int .i64 0, .int .i64 0, .int .i64 0, .int .i64 0, .slice none 0 0, .slice none 0 0, .int .i64 0] 36)) (by simp)) (by simp)) (.int .i64 1) (.int .i64 0) (.int .i64 1) (.int .i64 3) (.int .i64 3) (.int .i64 1) (.slice a6 3 c6) (.slice none 0 0) (.int .i64 0))
                  exact ⟨rfl, KD.onl (only_set9 _ _ _ _ _ _ _ _ _ _ _) (by intro i hi; have := List.mem_singleton.1 hi; (first | omega | (subst this; exact Nat.le_refl _))), _, _, _, rfl, ⟨h.1, h.2.1, h.2.2.1, h.2.2.2.1, h.2.2.2.2.1, h.2.2.2.2.2.1, h.2.2.2.2.2.2.1⟩⟩
              case rest =>
                obtain ⟨rfl, kk, q22, aHM, cHM, rfl, e0, e1, e2, e3, e4, e5, e6⟩ := hcut
                clear HT
                generalize wc = w13 at *
                replace HC : Hid (∀ Z, Kept w13 Z → Z.cell? ⟨p7, 0, none⟩ = some (.int .i64 0) ∧ Z.cell? ⟨p7, 1, none⟩ = some (.int .i64 3) ∧ Z.cell? ⟨p7, 2, none⟩ = some (.int .i64 6) ∧ Z.cell? ⟨p7, 3, none⟩ = some (.int .i64 0)) := fun Z k => HC.out Z (kk.trans k)
                replace HD : Hid (∀ Z, Kept w13 Z → Z.cell? ⟨q, 0, none⟩ = some (.int .i64 0) ∧ Z.cell? ⟨q, 1, none⟩ = some (.int .i64 3) ∧ Z.cell? ⟨q, 2, none⟩ = some (.int .i64 3) ∧ Z.cell? ⟨q, 3, none⟩ = some (.int .i64 0)) := fun Z k => HD.out Z (kk.trans k)
                replace HL : Hid (∀ Z, Kept w13 Z → SlQ Z (some ⟨pl, 0, none⟩) 4 4 [⟨17592186044418, none, 0, 0⟩, ⟨17592186044419, none, 0, 0⟩, ⟨52776558133252, none, 0, 0⟩, ⟨52776558133253, none, 0, 0⟩]) := fun Z k => HL.out Z (kk.trans k)
                replace K := K.trans kk
                have HM : Hid (∀ Z, Kept w13 Z → Z.cell? ⟨q22, 0, none⟩ = some (.int .i64 1) ∧ Z.cell? ⟨q22, 1, none⟩ = some (.int .i64 0) ∧ Z.cell? ⟨q22, 2, none⟩ = some (.int .i64 1) ∧ Z.cell? ⟨q22, 3, none⟩ = some (.int .i64 3) ∧ Z.cell? ⟨q22, 4, none⟩ = some (.int .i64 3) ∧ Z.cell? ⟨q22, 5, none⟩ = some (.int .i64 1) ∧ Z.cell? ⟨q22, 6, none⟩ = some (.slice aHM 3 cHM)) := fun Z k => ⟨k.cel e0, k.cel e1, k.cel e2, k.cel e3, k.cel e4, k.cel e5, k.cel e6⟩
                clear kk e0 e1 e2 e3 e4 e5 e6
                go_upto_region 15 with fail
                have HT := Lib.hid (fun V a hS hQ => sh_make_lit ⟨0, 3, 6, 0⟩ [17592186044416, 52776558133252] 6 a 2 2 [⟨17592186044418, none, 0, 0⟩, ⟨17592186044419, none, 0, 0⟩, ⟨52776558133252, none, 0, 0⟩, ⟨52776558133253, none, 0, 0⟩] 6 3 0 (by decide +kernel) (by decide +kernel) (by decide +kernel) (by decide +kernel) rfl (some ⟨pl, 0, none⟩) 4 4 V hS (isW_of_mem (by decide)) hQ (by decide))
                unfold SV.v at HT
                dsimp only at HT
                go_cut [24, 25] from 108 to 114 (fun p e wx => e = .int .i64 0 ∧ Kept w13 wx ∧ ∃ q a6 c6, p = .pointer (some ⟨q, 0, none⟩) ∧ wx.cell? ⟨q, 0, none⟩ = some (.int .i64 1) ∧ wx.cell? ⟨q, 1, none⟩ = some (.int .i64 0) ∧ wx.cell? ⟨q, 2, none⟩ = some (.int .i64 1) ∧ wx.cell? ⟨q, 3, none⟩ = some (.int .i64 3) ∧ wx.cell? ⟨q, 4, none⟩ = some (.int .i64 6) ∧ wx.cell? ⟨q, 5, none⟩ = some (.int .i64 3) ∧ wx.cell? ⟨q, 6, none⟩ = some (.slice a6 0 c6))
                case first =>
                  have gE0 : ∀ (a0 a1 a2 a3 a4 a5 a6 a7 a8 : Value), (World.alloc w13.drew (.cells #[a0, a1, a2, a3, a4, a5, a6, a7, a8] 36)).cell? ⟨w13.heap.size, 0, none⟩ = some a0 := fun a0 a1 a2 a3 a4 a5 a6 a7 a8 => (nine_cells (heap_alloc_new _ _)).1
                  have gE1 : ∀ (a0 a1 a2 a3 a4 a5 a6 a7 a8 : Value), (World.alloc w13.drew (.cells #[a0, a1, a2, a3, a4, a5, a6, a7, a8] 36)).cell? ⟨w13.heap.size, 1, none⟩ = some a1 := fun a0 a1 a2 a3 a4 a5 a6 a7 a8 => (nine_cells (heap_alloc_new _ _)).2.1
                  have gE2 : ∀ (a0 a1 a2 a3 a4 a5 a6 a7 a8 : Value), (World.alloc w13.drew (.cells #[a0, a1, a2, a3, a4, a5, a6, a7, a8] 36)).cell? ⟨w13.heap.size, 2, none⟩ = some a2 := fun a0 a1 a2 a3 a4 a5 a6 a7 a8 => (nine_cells (heap_alloc_new _ _)).2.2.1
                  have gE3 : ∀ (a0 a1 a2 a3 a4 a5 a6 a7 a8 : Value), (World.alloc w13.drew (.cells #[a0, a1, a2, a3, a4, a5, a6, a7, a8] 36)).cell? ⟨w13.heap.size, 3, none⟩ = some a3 := fun a0 a1 a2 a3 a4 a5 a6 a7 a8 => (nine_cells (heap_alloc_new _ _)).2.2.2.1
                  have gE4 : ∀ (a0 a1 a2 a3 a4 a5 a6 a7 a8 : Value), (World.alloc w13.drew (.cells #[a0, a1, a2, a3, a4, a5, a6, a7, a8] 36)).cell? ⟨w13.heap.size, 4, none⟩ = some a4 := fun a0 a1 a2 a3 a4 a5 a6 a7 a8 => (nine_cells (heap_alloc_new _ _)).2.2.2.2.1
                  have gE5 : ∀ (a0 a1 a2 a3 a4 a5 a6 a7 a8 : Value), (World.alloc w13.drew (.cells #[a0, a1, a2, a3, a4, a5, a6, a7, a8] 36)).cell? ⟨w13.heap.size, 5, none⟩ = some a5 := fun a0 a1 a2 a3 a4 a5 a6 a7 a8 => (nine_cells (heap_alloc_new _ _)).2.2.2.2.2.1
                  have gE6 : ∀ (a0 a1 a2 a3 a4 a5 a6 a7 a8 : Value), (World.alloc w13.drew (.cells #[a0, a1, a2, a3, a4, a5, a6, a7, a8] 36)).cell? ⟨w13.heap.size, 6, none⟩ = some a6 := fun a0 a1 a2 a3 a4 a5 a6 a7 a8 => (nine_cells (heap_alloc_new _ _)).2.2.2.2.2.2.1
                  have gE7 : ∀ (a0 a1 a2 a3 a4 a5 a6 a7 a8 : Value), (World.alloc w13.drew (.cells #[a0, a1, a2, a3, a4, a5, a6, a7, a8] 36)).cell? ⟨w13.heap.size, 7, none⟩ = some a7 := fun a0 a1 a2 a3 a4 a5 a6 a7 a8 => (nine_cells (heap_alloc_new _ _)).2.2.2.2.2.2.2.1
                  have gE8 : ∀ (a0 a1 a2 a3 a4 a5 a6 a7 a8 : Value), (World.alloc w13.drew (.cells #[a0, a1, a2, a3, a4, a5, a6, a7, a8] 36)).cell? ⟨w13.heap.size, 8, none⟩ = some a8 := fun a0 a1 a2 a3 a4 a5 a6 a7 a8 => (nine_cells (heap_alloc_new _ _)).2.2.2.2.2.2.2.2
                  have gEF : ∀ (a0 a1 a2 a3 a4 a5 a6 a7 a8 : Value) (j : Nat), (World.alloc w13.drew (.cells #[a0, a1, a2, a3, a4, a5, a6, a7, a8] 36)).frozen? ⟨w13.heap.size, j, none⟩ = false := fun a0 a1 a2 a3 a4 a5 a6 a7 a8 j => one_free (heap_alloc_new w13.drew _) j
                  have KD : Kept w13 w13.drew := (Kept.refl _).dr ⟨1, rfl⟩
                  have hdr : ∀ (V : World) (p : Addr), V.drew.cell? p = V.cell? p := fun _ _ => rfl
                  have hN0 : w13.heap.size ≠ p7 := World.new_ne w13 ⟨p7, 0, none⟩ (HC.out _ (Kept.refl _)).1
                  go_region_held3 (fun Z => Z.cell? ⟨p7, 0, none⟩ = some (.int .i64 0) ∧ Z.cell? ⟨p7, 1, none⟩ = some (.int .i64 3) ∧ Z.cell? ⟨p7, 2, none⟩ = some (.int .i64 6) ∧ Z.cell? ⟨p7, 3, none⟩ = some (.int .i64 0)) ((obtain ⟨s0, s1, s2, s3⟩ := HC.out _ KD; obtain ⟨t0, t1, t2, t3⟩ := HC.out _ (Kept.refl _); first | simp only [s0, s1, s2, s3, t0, t1, t2, t3, hdr, World.cell?_alloc_some, World.cell?_setCell_far, Option.isSome_some, ne_eq, not_false_eq_true, and_self, hN0, hN1] | simp only [s0, s1, s2, s3, t0, t1, t2, t3, hdr, World.cell?_alloc_some, World.cell?_setCell_far, Option.isSome_some, ne_eq, not_false_eq_true, and_self, hN0])) (first | (go_at_call 12; refine (sh_table _).mono ?_; rintro e V1 ⟨ta, rfl, hS, J⟩; have KE : Kept w13 V1 := (by first | exact KD.trans J | exact (KD.trans (kept_al _ _)).trans J | exact ((KD.trans (kept_al _ _)).trans (kept_al _ _)).trans J); have cJ := J.cq; have fJ := J.fq; have zJ := J.size; have HSt := Lib.hid hS; have hz1 := KE.size; have HJ1 := Lib.hid J; clear KD J hS; have KD := KE; clear KE; have hN1 : V1.heap.size ≠ p7 := World.new_ne V1 ⟨p7, 0, none⟩ (HC.out _ KD).1; (first | (have hq1 : w13.heap.size < V1.heap.size := by (simp at zJ; omega)) | skip); clear zJ) | (go_at_call 14; refine (HT.out _ _ (by first | exact HSt.out | exact (kept_al _ _).sl HSt.out) (by first | exact HL.out _ KD | exact HL.out _ (KD.trans (kept_al _ _)))).mono ?_; rintro e V2 ⟨a6, c6, rfl, J⟩; have KE : Kept w13 V2 := (by first | exact KD.trans J | exact (KD.trans (kept_al _ _)).trans J | exact ((KD.trans (kept_al _ _)).trans (kept_al _ _)).trans J); have cK := J.cq; have fK := J.fq; have zK := J.size; have hz2 := KE.size; have HJ2 := Lib.hid J; clear KD J; have KD := KE; clear KE; (first | (have hq2 : w13.heap.size < V2.heap.size := by (simp at zK; omega)) | skip); clear zK))
                  all_goals (first | (go_wp2_with fail; done) | skip)
                  all_goals (first | go_meet | (go_wp2_with fail; go_meet))
                  · have h := nine_cells (heap_alloc_new V2 (.cells #[.int .i64 1, .int .i64 0, .int .i64 1, .int .i64 3, .int .i64 6, .int .i64 3, .slice a6 0 c6, .slice none 0 0, .int .i64 0] 36))
                    exact ⟨rfl, KD.trans (kept_al V2 _), _, _, _, rfl, ⟨h.1, h.2.1, h.2.2.1, h.2.2.2.1, h.2.2.2.2.1, h.2.2.2.2.2.1, h.2.2.2.2.2.2.1⟩⟩
                  · have h := nine_cells (nine_set (HJ2.out.only.heap (heap_alloc_new V1 (.cells #[.int .i64 0, .int .i64 0, .int .i64 0, .int .i64 0, .int .i64 0, .int .i64 0, .slice none 0 0, .slice none 0 0, .int .i64 0] 36)) (by simp)) (.int .i64 1) (.int .i64 0) (.int .i64 1) (.int .i64 3) (.int .i64 6) (.int .i64 3) (.slice a6 0 c6) (.slice none 0 0) (.int .i64 0))
                    exact ⟨rfl, KD.onl (only_set9 _ _ _ _ _ _ _ _ _ _ _) (by intro i hi; have := List.mem_singleton.1 hi; (first | omega | (subst this; exact Nat.le_refl _))), _, _, _, rfl, ⟨h.1, h.2.1, h.2.2.1, h.2.2.2.1, h.2.2.2.2.1, h.2.2.2.2.2.1, h.2.2.2.2.2.2.1⟩⟩
                  · have h := nine_cells (nine_set (HJ2.out.only.heap (HJ1.out.only.heap (heap_alloc_new w13.drew (.cells #[.int .i64 0, .int .i64 0, .int .i64 0, .int .i64 0, .int .i64 0, .int .i64 0, .slice none 0 0, .slice none 0 0, .int .i64 0] 36)) (by simp)) (by simp)) (.int .i64 1) (.int .i64 0) (.int .i64 1) (.int .i64 3) (.int .i64 6) (.int .i64 3) (.slice a6 0 c6) (.slice none 0 0) (.int .i64 0))
                    exact ⟨rfl, KD.onl (only_set9 _ _ _ _ _ _ _ _ _ _ _) (by intro i hi; have := List.mem_singleton.1 hi; (first | omega | (subst this; exact Nat.le_refl _))), _, _, _, rfl, ⟨h.1, h.2.1, h.2.2.1, h.2.2.2.1, h.2.2.2.2.1, h.2.2.2.2.2.1, h.2.2.2.2.2.2.1⟩⟩
                case rest =>
                  obtain ⟨rfl, kk, q24, aHN, cHN, rfl, e0, e1, e2, e3, e4, e5, e6⟩ := hcut
                  clear HT
                  generalize wc = w14 at *
                  replace HC : Hid (∀ Z, Kept w14 Z → Z.cell? ⟨p7, 0, none⟩ = some (.int .i64 0) ∧ Z.cell? ⟨p7, 1, none⟩ = some (.int .i64 3) ∧ Z.cell? ⟨p7, 2, none⟩ = some (.int .i64 6) ∧ Z.cell? ⟨p7, 3, none⟩ = some (.int .i64 0)) := fun Z k => HC.out Z (kk.trans k)
                  replace HD : Hid (∀ Z, Kept w14 Z → Z.cell? ⟨q, 0, none⟩ = some (.int .i64 0) ∧ Z.cell? ⟨q, 1, none⟩ = some (.int .i64 3) ∧ Z.cell? ⟨q, 2, none⟩ = some (.int .i64 3) ∧ Z.cell? ⟨q, 3, none⟩ = some (.int .i64 0)) := fun Z k => HD.out Z (kk.trans k)
                  replace HL : Hid (∀ Z, Kept w14 Z → SlQ Z (some ⟨pl, 0, none⟩) 4 4 [⟨17592186044418, none, 0, 0⟩, ⟨17592186044419, none, 0, 0⟩, ⟨52776558133252, none, 0, 0⟩, ⟨52776558133253, none, 0, 0⟩]) := fun Z k => HL.out Z (kk.trans k)
                  replace HM : Hid (∀ Z, Kept w14 Z → Z.cell? ⟨q22, 0, none⟩ = some (.int .i64 1) ∧ Z.cell? ⟨q22, 1, none⟩ = some (.int .i64 0) ∧ Z.cell? ⟨q22, 2, none⟩ = some (.int .i64 1) ∧ Z.cell? ⟨q22, 3, none⟩ = some (.int .i64 3) ∧ Z.cell? ⟨q22, 4, none⟩ = some (.int .i64 3) ∧ Z.cell? ⟨q22, 5, none⟩ = some (.int .i64 1) ∧ Z.cell? ⟨q22, 6, none⟩ = some (.slice aHM 3 cHM)) := fun Z k => HM.out Z (kk.trans k)
                  replace K := K.trans kk
                  have HN : Hid (∀ Z, Kept w14 Z → Z.cell? ⟨q24, 0, none⟩ = some (.int .i64 1) ∧ Z.cell? ⟨q24, 1, none⟩ = some (.int .i64 0) ∧ Z.cell? ⟨q24, 2, none⟩ = some (.int .i64 1) ∧ Z.cell? ⟨q24, 3, none⟩ = some (.int .i64 3) ∧ Z.cell? ⟨q24, 4, none⟩ = some (.int .i64 6) ∧ Z.cell? ⟨q24, 5, none⟩ = some (.int .i64 3) ∧ Z.cell? ⟨q24, 6, none⟩ = some (.slice aHN 0 cHN)) := fun Z k => ⟨k.cel e0, k.cel e1, k.cel e2, k.cel e3, k.cel e4, k.cel e5, k.cel e6⟩
                  clear kk e0 e1 e2 e3 e4 e5 e6
                  clear gN0 gN1 gN2 gN3 gF gM0 gM1 gM2 gM3 gM4 gM5 gM6 gM7 gM8 gMF
                  have HT := Lib.hid (fun V (kk : Kept w14 V) => ship_make ⟨0, 3, 6, 0⟩ none 0 0 [] (-1) (some ⟨pl, 0, none⟩) 4 4 [⟨17592186044418, none, 0, 0⟩, ⟨17592186044419, none, 0, 0⟩, ⟨52776558133252, none, 0, 0⟩, ⟨52776558133253, none, 0, 0⟩] V (sl_nil _ _) (fun i => by simp) (HL.out V kk) (by decide))
                  obtain ⟨d0, d1, d2, d3⟩ := HC.out _ (Kept.refl _)
                  go_wp2_with fail
                  refine (HT.out _ (Kept.refl _)).mono ?_
                  rintro E v15 ⟨a15, c15, rfl, _, J⟩
                  clear HT d0 d1 d2 d3
                  have hng : ¬ (GoodT [] (-1) ∧ okM ⟨0, 3, 6, 0⟩ [] (-1) [⟨17592186044418, none, 0, 0⟩, ⟨17592186044419, none, 0, 0⟩, ⟨52776558133252, none, 0, 0⟩, ⟨52776558133253, none, 0, 0⟩] = true) := fun h => absurd h.1 (by decide)
                  unfold makeM makeE
                  rw [if_neg hng, if_neg hng]
                  unfold zeroM MV.cs
                  dsimp only
                  clear hng
                  have kk := J.trans (kept_al v15 (.cells #[.int .i64 0, .int .i64 0, .int .i64 0, .int .i64 0, .int .i64 0, .int .i64 0, .slice none 0 0, .slice none 0 0, .int .i64 0] 36))
                  clear J
                  obtain ⟨xc0, xc1, xc2, xc3⟩ := HC.out _ (kk)
                  obtain ⟨xd0, xd1, xd2, xd3⟩ := HD.out _ (kk)
                  obtain ⟨xm0, xm1, xm2, xm3, xm4, xm5, xm6⟩ := HM.out _ (kk)
                  obtain ⟨xn0, xn1, xn2, xn3, xn4, xn5, xn6⟩ := HN.out _ (kk)
                  go_wp2_with fail
                  refine (ship_solo ⟨0, 3, 6, 0⟩ 9 _).mono ?_
                  rintro E v16 ⟨rfl, J⟩
                  obtain ⟨y0, y1, y2, y3⟩ := HC.out v16 (kk.trans J)
                  go_wp2_with fail
                  refine (ship_done ⟨0, 3, 6, 0⟩ 9 _).mono ?_
                  rintro E v17 ⟨rfl, J2⟩
                  rw [show min (9 : Int) (SV.mk 0 3 6 0).ak = 0 by decide]
                  go_wp2_with fail
                  exact bodyPost_ret (v := .bool true) (by simp [results, Try.results4, go_sem]) rfl ⟨rfl, ((K.trans kk).trans J).trans J2⟩
end Go.Proofs.Ytmkoabalakfehaa
