/- msg.Get of no bytes: no message. -/
import Derived.Test.YtpojncpblkklgaaMsGet2
import Derived.Deep.CutRange
set_option linter.unusedVariables false
set_option linter.unusedSimpArgs false
namespace Go.Proofs.Ytpojncpblkklgaa
open Go.RowKit
theorem nilU (b : Bool) : stU ([], b) = (0, [], true) := by cases b <;> rfl
theorem nilSmall {p : Nat} {w : World} {b : Bool} (m : Int) (h0 : 0 ≤ m) (h1 : m ≤ 1000) (hI : InAt w 61 p [] b) :
    Calls Try.prog 23 #[.pointer (some ⟨p, 0, none⟩), .int .u64 m] w fun e w' => e = .returned (.int .i64 0) ∧ InAt w' 61 p [] true ∧ Only [p] w w' := by
  have h := in_Small p ([], b) m w h0 (by omega) hI
  have e : stSmall m ([], b) = (0, [], true) := by unfold stSmall; rw [nilU]; simp
  rwa [e] at h
theorem nilP {p : Nat} {w : World} {b : Bool} (hI : InAt w 61 p [] b) :
    Calls Try.prog 24 #[.pointer (some ⟨p, 0, none⟩)] w fun e w' => e = .returned (.int .i64 0) ∧ InAt w' 61 p [] true ∧ Only [p] w w' := by
  have h := msg_place p ([], b) w hI
  rwa [nilU] at h
theorem nilE {p : Nat} {w : World} (hI : InAt w 61 p [] true) :
    Calls Try.prog 27 #[.pointer (some ⟨p, 0, none⟩)] w fun e w' => e = .returned (.bool false) ∧ w = w' := in_End p ([], true) w hI
/-- the state of a reading that fails -/
structure GN (w Z : World) (q4 q5 : Nat) (cs : Array Value) : Prop where
  inb : InAt Z 61 q4 [] true
  box : Z.heap[q5]? = some (.cells cs 29 (0, 0))
  res : Z.heap[w.heap.size]? = some (.cells #[.int .i64 0, .int .i64 0, .int .i64 0, .int .i64 0, .int .i64 0, .int .i64 0, .slice none 0 0, .slice none 0 0, .int .i64 0] 29 (0, 0))
  kept : Kept w Z
theorem GN.read {w Z Z' : World} {q4 q5 : Nat} {cs : Array Value} (h : GN w Z q4 q5 cs) (hI : InAt Z' 61 q4 [] true) (ho : Only [q4] Z Z') (h1 : w.heap.size < q4) (h2 : q4 < q5) : GN w Z' q4 q5 cs :=
  ⟨hI, ho.heap h.box (by simp; omega), ho.heap h.res (by simp; omega), h.kept.onl ho (by intro i hi; simp at hi; omega)⟩
theorem Only.inN {S : List Nat} {w w' : World} {t : TypeId} {p : Nat} {bad : Bool} (h : Only S w w') (hI : InAt w t p [] bad) (hp : p ∉ S) : InAt w' t p [] bad := by
  obtain ⟨a, n, c, hh, hS, hi, hB⟩ := hI
  have hn : n = 0 := hS.1.symm
  subst hn
  exact ⟨a, 0, c, h.heap hh hp, ⟨rfl, hS.2.1, hS.2.2.1, fun i hi => by omega⟩, hi, hB⟩
theorem GN.set {w Z : World} {q4 q5 : Nat} {cs : Array Value} (h : GN w Z q4 q5 cs) (j : Nat) (u : Value) (h1 : w.heap.size < q4) (h2 : q4 < q5) : GN w (Z.setCell ⟨q5, j, none⟩ u) q4 q5 (cs.setIfInBounds j u) := by
  have ho : Only [q5] Z (Z.setCell ⟨q5, j, none⟩ u) := (Only.refl [q5] Z).setCell (fun _ => by simp) u
  exact ⟨ho.inN h.inb (by simp; omega), at_set h.box j u, ho.heap h.res (by simp; omega), h.kept.onl ho (by intro i hi; simp at hi; omega)⟩
set_option maxRecDepth 100000 in
set_option maxHeartbeats 4000000 in
theorem msg_get_nil (w : World) :
    Calls Try.prog 10 #[.slice none 0 0] w fun e w' => e = .returned (.tuple #[.agg #[.int .i64 0, .int .i64 0, .int .i64 0, .int .i64 0, .int .i64 0, .int .i64 0, .slice none 0 0, .slice none 0 0, .int .i64 0], .int .i64 2]) ∧ Kept w w' := by
  go_enter Try.func10, Try.ntmps10
  go_upto_region 1 with fail
  have hres := heap_alloc_new w (.cells #[.int .i64 0, .int .i64 0, .int .i64 0, .int .i64 0, .int .i64 0, .int .i64 0, .slice none 0 0, .slice none 0 0, .int .i64 0] 29)
  have K1 := kept_al w (.cells #[.int .i64 0, .int .i64 0, .int .i64 0, .int .i64 0, .int .i64 0, .int .i64 0, .slice none 0 0, .slice none 0 0, .int .i64 0] 29)
  have hs1 : (w.alloc (.cells #[.int .i64 0, .int .i64 0, .int .i64 0, .int .i64 0, .int .i64 0, .int .i64 0, .slice none 0 0, .slice none 0 0, .int .i64 0] 29)).heap.size = w.heap.size + 1 := by simp
  generalize World.alloc w _ = W1 at *
  go_upto_region 2 with (go_at_call 22; refine (ms_clone none 0 0 [] _ (sl_nil _ _) (by omega)).mono ?_; rintro E V ⟨a', c', g', rfl, hA, KV, hfr⟩)
  obtain ⟨q4, X2, hbl4, hq4, hI, hr2, K2, hX2⟩ : ∃ (q4 : Nat) (X2 : World), w.heap.size < q4 ∧ q4 = V.heap.size ∧ InAt X2 61 q4 [] false ∧ X2.heap[w.heap.size]? = some (.cells #[.int .i64 0, .int .i64 0, .int .i64 0, .int .i64 0, .int .i64 0, .int .i64 0, .slice none 0 0, .slice none 0 0, .int .i64 0] 29 (0, 0)) ∧ Kept w X2 ∧ X2 = V.alloc (.cells #[.slice a' 0 c', .bool false] 61) := by
    obtain ⟨hsl, hblk⟩ := app_sl hA
    refine ⟨V.heap.size, _, by have := KV.size; omega, rfl, ⟨a', 0, c', heap_alloc_new V _, (kept_al V _).sl hsl, fun x hx hm => ?_, isB_of_mem (by simp)⟩, (kept_al V _).only.heap (KV.only.heap hres (by simp)) (by simp), K1.trans (KV.trans (kept_al V _)), rfl⟩
    have := hA.lt x.block (hblk x hx)
    simp at hm
    omega
  rw [← hX2, ← hq4]
  have hsz2 : q4 < X2.heap.size := by obtain ⟨_, _, _, hh, _⟩ := hI; exact lt_heap hh
  clear hA KV hfr hres K1 hs1 hX2 hq4
  have HI := Lib.hid hI
  have HO := Lib.hid (Only.refl [q4] X2)
  clear hI
  go_upto_region 3 with (go_at_call 23; refine (nilSmall _ (by omega) (by omega) HI.out).mono ?_; rintro E V ⟨rfl, hI, ho⟩; replace HI := Lib.hid hI; replace HO := Lib.hid (HO.out.trans ho); clear hI ho)
  obtain ⟨q5, Z, hq5, hZ, GZ⟩ : ∃ (q5 : Nat) (Z : World), q4 < q5 ∧ (q5 = V.heap.size ∧ Z = V.alloc (.cells #[.int .i64 0, .int .i64 0, .int .i64 0, .int .i64 0, .int .i64 0, .int .i64 0, .slice none 0 0, .slice none 0 0, .int .i64 0] 29)) ∧ Hid (GN w Z q4 q5 #[.int .i64 0, .int .i64 0, .int .i64 0, .int .i64 0, .int .i64 0, .int .i64 0, .slice none 0 0, .slice none 0 0, .int .i64 0]) := by
    refine ⟨V.heap.size, _, Nat.lt_of_lt_of_le hsz2 HO.out.size, ⟨rfl, rfl⟩, ?_⟩
    have h2 := HO.out.heap hr2 (by simp; omega)
    exact ⟨(kept_al V _).only.inN HI.out (by simp), heap_alloc_new V _, (kept_al V _).only.heap h2 (by simp), (K2.onl HO.out (by intro i hi; simp at hi; omega)).trans (kept_al V _)⟩
  obtain ⟨hZ1, hZ2⟩ := hZ
  rw [← hZ2, ← hZ1]
  clear HI HO hZ1 hZ2 hr2 K2
  obtain ⟨q0, q1, q2, q3, q4', q5', q6, q7, q8⟩ := nine_cells GZ.out.box
  have z0 := one_free GZ.out.box
  go_upto_region 4 with fail
  clear q0 q1 q2 q3 q4' q5' q6 q7 q8 z0
  obtain ⟨Z4, hZ4, G4⟩ : ∃ Z4, Z4 = Z.setCell ⟨q5, 2, none⟩ (.int .i64 1) ∧ Hid (GN w Z4 q4 q5 #[.int .i64 0, .int .i64 0, .int .i64 1, .int .i64 0, .int .i64 0, .int .i64 0, .slice none 0 0, .slice none 0 0, .int .i64 0]) :=
    ⟨_, rfl, GZ.out.set 2 _ hbl4 hq5⟩
  rw [← hZ4]
  clear hZ4 GZ
  obtain ⟨q0, q1, q2, q3, q4', q5', q6, q7, q8⟩ := nine_cells G4.out.box
  have z0 := one_free G4.out.box
  go_upto_region 5 with (go_at_call 24; refine (nilP G4.out.inb).mono ?_; clear q0 q1 q2 q3 q4' q5' q6 q7 q8 z0; rintro E V4 ⟨rfl, hI, ho⟩; replace G4 := Lib.hid (G4.out.read hI ho hbl4 hq5); clear hI ho; obtain ⟨q0, q1, q2, q3, q4', q5', q6, q7, q8⟩ := nine_cells G4.out.box; have z0 := one_free G4.out.box)
  clear q0 q1 q2 q3 q4' q5' q6 q7 q8 z0
  obtain ⟨Z5, hZ5, G5⟩ : ∃ Z5, Z5 = ((V4.setCell ⟨q5, 3, none⟩ (.int .i64 0)).setCell ⟨q5, 4, none⟩ (.int .i64 0)).setCell ⟨q5, 5, none⟩ (.int .i64 0) ∧ Hid (GN w Z5 q4 q5 #[.int .i64 0, .int .i64 0, .int .i64 1, .int .i64 0, .int .i64 0, .int .i64 0, .slice none 0 0, .slice none 0 0, .int .i64 0]) :=
    ⟨_, rfl, ((G4.out.set 3 (.int .i64 0) hbl4 hq5).set 4 (.int .i64 0) hbl4 hq5).set 5 (.int .i64 0) hbl4 hq5⟩
  rw [← hZ5]
  clear hZ5 G4
  go_wp2_with (go_at_call 23; refine (nilSmall _ (by omega) (by omega) G5.out.inb).mono ?_; rintro E V5 ⟨rfl, hI, ho⟩; replace G5 := Lib.hid (G5.out.read hI ho hbl4 hq5); clear hI ho)
  go_loopw [24] (fun i wr => i = .int .i64 0 ∧ Hid (GN w wr q4 q5 #[.int .i64 0, .int .i64 0, .int .i64 1, .int .i64 0, .int .i64 0, .int .i64 0, .slice none 0 0, .slice none 0 0, .int .i64 0])) (fun _ _ => 0)
  case atStart => exact ⟨rfl, G5⟩
  case round =>
    obtain ⟨rfl, G6⟩ := hrel
    go_wp2_with (go_at_call 23; refine (nilSmall _ (by omega) (by omega) G6.out.inb).mono ?_; rintro E V6 ⟨rfl, hI, ho⟩; replace G6 := Lib.hid (G6.out.read hI ho hbl4 hq5); clear hI ho)
    go_loopw [38] (fun i wr => i = .int .i64 0 ∧ Hid (GN w wr q4 q5 #[.int .i64 0, .int .i64 0, .int .i64 1, .int .i64 0, .int .i64 0, .int .i64 0, .slice none 0 0, .slice none 0 0, .int .i64 0])) (fun _ _ => 0)
    case atStart => exact ⟨rfl, G6⟩
    case round =>
      obtain ⟨rfl, G7⟩ := hrel
      obtain ⟨q0, q1, q2, q3, q4', q5', q6, q7, q8⟩ := nine_cells G7.out.box
      have z0 := one_free G7.out.box
      go_upto_region 15 with (go_at_call 24; refine (nilP G7.out.inb).mono ?_; clear q0 q1 q2 q3 q4' q5' q6 q7 q8 z0; rintro E V8 ⟨rfl, hI, ho⟩; replace G7 := Lib.hid (G7.out.read hI ho hbl4 hq5); clear hI ho; obtain ⟨q0, q1, q2, q3, q4', q5', q6, q7, q8⟩ := nine_cells G7.out.box; have z0 := one_free G7.out.box)
      clear q0 q1 q2 q3 q4' q5' q6 q7 q8 z0
      obtain ⟨Z8, hZ8, G8⟩ : ∃ Z8, Z8 = V8.setCell ⟨q5, 8, none⟩ (.int .i64 0) ∧ Hid (GN w Z8 q4 q5 #[.int .i64 0, .int .i64 0, .int .i64 1, .int .i64 0, .int .i64 0, .int .i64 0, .slice none 0 0, .slice none 0 0, .int .i64 0]) :=
        ⟨_, rfl, G7.out.set 8 (.int .i64 0) hbl4 hq5⟩
      rw [← hZ8]
      clear hZ8 G7
      obtain ⟨x0, x1, x2, x3, x4, x5, x6, x7, x8⟩ := nine_cells G8.out.res
      have y0 := one_free G8.out.res
      have d := nine_set G8.out.res (.int .i64 0) (.int .i64 0) (.int .i64 0) (.int .i64 0) (.int .i64 0) (.int .i64 0) (.slice none 0 0) (.slice none 0 0) (.int .i64 0)
      have O := only_set9 Z8 w.heap.size (.int .i64 0) (.int .i64 0) (.int .i64 0) (.int .i64 0) (.int .i64 0) (.int .i64 0) (.slice none 0 0) (.slice none 0 0) (.int .i64 0)
      have KE := G8.out.kept.onl O (by intro i hi; simp at hi; omega)
      go_wp2_with (go_at_call 27; refine (nilE G8.out.inb).mono ?_; rintro E V ⟨rfl, rfl⟩)
      clear x0 x1 x2 x3 x4 x5 x6 x7 x8
      obtain ⟨d0, d1, d2, d3, d4, d5, d6, d7, d8⟩ := nine_cells d
      generalize World.setCell (World.setCell (World.setCell (World.setCell (World.setCell (World.setCell (World.setCell (World.setCell (World.setCell Z8 _ _) _ _) _ _) _ _) _ _) _ _) _ _) _ _) _ _ = V9 at *
      exact bodyPost_ret (v := .tuple #[.agg #[.int .i64 0, .int .i64 0, .int .i64 0, .int .i64 0, .int .i64 0, .int .i64 0, .slice none 0 0, .slice none 0 0, .int .i64 0], .int .i64 2]) (by simp [results, Try.results10, go_sem, d0, d1, d2, d3, d4, d5, d6, d7, d8]) rfl ⟨rfl, KE⟩
end Go.Proofs.Ytpojncpblkklgaa
