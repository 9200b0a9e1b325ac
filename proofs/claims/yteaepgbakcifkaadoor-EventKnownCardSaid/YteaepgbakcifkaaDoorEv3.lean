/- Events: only. -/
import Derived.Test.YteaepgbakcifkaaDoorEv2
set_option linter.unusedVariables false
set_option linter.unusedSimpArgs false
namespace Go.Proofs.YteaepgbakcifkaaDoor
open Go.RowKit
theorem new_at {w : World} {q : Nat} (x : Obj) (hq : q = w.heap.size) : (w.alloc x).heap[q]? = some x := by subst hq; exact heap_alloc_new w x
/-- the cells of an event's block -/
theorem ev_cells {w : World} {p : Nat} {x : EV} (h : w.heap[p]? = some (evO x)) :
    w.cell? ⟨p, 0, none⟩ = some (.int .i64 x.k) ∧ w.cell? ⟨p, 1, none⟩ = some (.int .i64 x.r) ∧ w.cell? ⟨p, 2, none⟩ = some (.int .i64 x.t) ∧ w.cell? ⟨p, 3, none⟩ = some (.int .i64 x.y) ∧ w.cell? ⟨p, 4, none⟩ = some (.int .i64 x.n) ∧ w.cell? ⟨p, 5, none⟩ = some (.string x.nm) ∧ w.cell? ⟨p, 6, none⟩ = some (.string x.ky) ∧ w.cell? ⟨p, 7, none⟩ = some (.string x.dt) :=
  ⟨at_cell h 0 _ rfl, at_cell h 1 _ rfl, at_cell h 2 _ rfl, at_cell h 3 _ rfl, at_cell h 4 _ rfl, at_cell h 5 _ rfl, at_cell h 6 _ rfl, at_cell h 7 _ rfl⟩
theorem ev_set {w : World} {p : Nat} {x y : EV} (h : w.heap[p]? = some (evO x)) (j : Nat) (v : Value) (hv : (#[.int .i64 x.k, .int .i64 x.r, .int .i64 x.t, .int .i64 x.y, .int .i64 x.n, .string x.nm, .string x.ky, .string x.dt] : Array Value).setIfInBounds j v = #[.int .i64 y.k, .int .i64 y.r, .int .i64 y.t, .int .i64 y.y, .int .i64 y.n, .string y.nm, .string y.ky, .string y.dt]) :
    (w.setCell ⟨p, j, none⟩ v).heap[p]? = some (evO y) := by
  rw [at_set h j v, hv]
theorem ev_set8 {w : World} {p : Nat} {x : EV} (h : w.heap[p]? = some (evO x)) (y : EV) :
    ((((((((w.setCell ⟨p, 0, none⟩ (.int .i64 y.k)).setCell ⟨p, 1, none⟩ (.int .i64 y.r)).setCell ⟨p, 2, none⟩ (.int .i64 y.t)).setCell ⟨p, 3, none⟩ (.int .i64 y.y)).setCell ⟨p, 4, none⟩ (.int .i64 y.n)).setCell ⟨p, 5, none⟩ (.string y.nm)).setCell ⟨p, 6, none⟩ (.string y.ky)).setCell ⟨p, 7, none⟩ (.string y.dt)).heap[p]? = some (evO y) := by
  have h0 := ev_set (y := { x with k := y.k }) h 0 (.int .i64 y.k) rfl
  have h1 := ev_set (y := { x with k := y.k, r := y.r }) h0 1 (.int .i64 y.r) rfl
  have h2 := ev_set (y := { x with k := y.k, r := y.r, t := y.t }) h1 2 (.int .i64 y.t) rfl
  have h3 := ev_set (y := { x with k := y.k, r := y.r, t := y.t, y := y.y }) h2 3 (.int .i64 y.y) rfl
  have h4 := ev_set (y := { x with k := y.k, r := y.r, t := y.t, y := y.y, n := y.n }) h3 4 (.int .i64 y.n) rfl
  have h5 := ev_set (y := { x with k := y.k, r := y.r, t := y.t, y := y.y, n := y.n, nm := y.nm }) h4 5 (.string y.nm) rfl
  have h6 := ev_set (y := { x with k := y.k, r := y.r, t := y.t, y := y.y, n := y.n, nm := y.nm, ky := y.ky }) h5 6 (.string y.ky) rfl
  exact ev_set (y := y) h6 7 (.string y.dt) rfl
/-- only's loop: e at q, the answer's cell at q + 1, what is gathered at q + 2, the iterator at q + 3 -/
structure OnW (w wr : World) (e x : EV) (s : ByteArray) (pos : Nat) : Prop where
  a : wr.heap[w.heap.size]? = some (evO e)
  b : wr.heap[w.heap.size + 1]? = some (evO (kindE 0))
  c : wr.heap[w.heap.size + 1 + 1]? = some (evO x)
  d : wr.heap[w.heap.size + 1 + 1 + 1]? = some (.stringIter s pos)
  k : Kept w wr
theorem OnW.iter {w wr : World} {e x : EV} {s : ByteArray} {pos : Nat} (h : OnW w wr e x s pos) (p : Nat) : OnW w (wr.iterAt (w.heap.size + 1 + 1 + 1) s p) e x s p :=
  ⟨(Lib.iterAt_other wr _ _ s p (by omega)).trans h.a, (Lib.iterAt_other wr _ _ s p (by omega)).trans h.b, (Lib.iterAt_other wr _ _ s p (by omega)).trans h.c, Lib.iterAt_heap wr _ s pos p h.d, Lib.below_iterAt h.k (by omega) s p⟩
theorem OnW.set {w wr : World} {e x y : EV} {s : ByteArray} {pos : Nat} (h : OnW w wr e x s pos) (j : Nat) (v : Value) (hv : (#[.int .i64 x.k, .int .i64 x.r, .int .i64 x.t, .int .i64 x.y, .int .i64 x.n, .string x.nm, .string x.ky, .string x.dt] : Array Value).setIfInBounds j v = #[.int .i64 y.k, .int .i64 y.r, .int .i64 y.t, .int .i64 y.y, .int .i64 y.n, .string y.nm, .string y.ky, .string y.dt]) :
    OnW w (wr.setCell ⟨w.heap.size + 1 + 1, j, none⟩ v) e y s pos :=
  ⟨(Below.heap_setCell _ _ _ _ (by simp <;> omega)).trans h.a, (Below.heap_setCell _ _ _ _ (by simp <;> omega)).trans h.b, ev_set h.c j v hv, (Below.heap_setCell _ _ _ _ (by simp <;> omega)).trans h.d, Below.setCell h.k (by show w.heap.size ≤ w.heap.size + 1 + 1; omega) v⟩
set_option maxRecDepth 100000 in
set_option maxHeartbeats 4000000 in
theorem ev_only (e : EV) (l : List UInt8) (hl : ∀ c ∈ l, ltr c) (w : World) : Calls Tryd.prog 18 #[evV e, .string ⟨l.toArray⟩] w fun E w' => E = .returned (evV (onlyE e l)) ∧ Kept w w' := by
  have hsz : (⟨l.toArray⟩ : ByteArray).size = l.length := by show l.toArray.size = _; simp
  obtain ⟨s, hs⟩ : ∃ s : ByteArray, (⟨l.toArray⟩ : ByteArray) = s := ⟨_, rfl⟩
  have HG := Lib.hid (fun (pos : Nat) (hp : pos < s.size) => (by
    subst hs
    rw [hsz] at hp
    have hc : (⟨l.toArray⟩ : ByteArray)[pos] = l[pos]'hp := by
      show l.toArray[pos] = _
      simp
    refine ⟨l[pos]'hp, hl _ (List.getElem_mem _), hc, ?_⟩
    unfold onlyE
    rw [List.take_succ_eq_append_getElem hp, List.foldl_append]
    rfl : ∃ c, ltr c ∧ s[pos]'hp = c ∧ onlyE e (l.take (pos + 1)) = setF e (onlyE e (l.take pos)) c))
  have HL := Lib.hid (show onlyE e (l.take s.size) = onlyE e l by rw [← hs, hsz, List.take_of_length_le (Nat.le_refl _)])
  rw [hs]
  clear hsz hl
  go_enter Tryd.func18, Tryd.ntmps18
  go_wp2_with fail
  have HS : Hid (OnW w ((((w.alloc (evO e)).alloc (evO (kindE 0))).alloc (evO (kindE e.k))).iter s 0) e (kindE e.k) s 0) := by
    unfold Hid
    refine ⟨?_, ?_, ?_, ?_, ?_⟩
    · rw [show ((((w.alloc (evO e)).alloc (evO (kindE 0))).alloc (evO (kindE e.k))).iter s 0).heap[w.heap.size]? = _ from Below.heap_alloc _ _ _ (by simp <;> omega), Below.heap_alloc _ _ _ (by simp <;> omega), Below.heap_alloc _ _ _ (by simp <;> omega)]
      exact heap_alloc_new w _
    · rw [show ((((w.alloc (evO e)).alloc (evO (kindE 0))).alloc (evO (kindE e.k))).iter s 0).heap[w.heap.size + 1]? = _ from Below.heap_alloc _ _ _ (by simp <;> omega), Below.heap_alloc _ _ _ (by simp <;> omega)]
      exact new_at _ (by simp <;> omega)
    · rw [show ((((w.alloc (evO e)).alloc (evO (kindE 0))).alloc (evO (kindE e.k))).iter s 0).heap[w.heap.size + 1 + 1]? = _ from Below.heap_alloc _ _ _ (by simp <;> omega)]
      exact new_at _ (by simp <;> omega)
    · exact new_at _ (by simp <;> omega)
    · exact Below.alloc (Below.alloc (Below.alloc (Below.alloc (Below.refl _ _) (by simp <;> omega) _) (by simp <;> omega) _) (by simp <;> omega) _) (by simp <;> omega) _
  go_loopg [] s.size (fun gf wx => ∃ pos : Nat, Hid (OnW w wx e (onlyE e (l.take pos)) s pos) ∧ pos + gf = s.size)
  case atStart => exact ⟨0, HS, by omega⟩
  case round =>
    obtain ⟨pos, HO, hfu⟩ := hrel
    clear HS
    have hOd := HO.out.d
    by_cases hps : pos < s.size
    · obtain ⟨g', rfl⟩ : ∃ g', gk = g' + 1 := ⟨gk - 1, by omega⟩
      obtain ⟨c, hc, hcs, hnext⟩ := HG.out pos hps
      have hasc : (s[pos]'hps).toNat < 128 := by rw [hcs]; rcases hc with rfl | rfl | rfl | rfl | rfl | rfl | rfl <;> decide
      have hnx : ∀ ty, (Instr.next (.pointer (some ⟨w.heap.size + 1 + 1 + 1, 0, none⟩)) true ty).run Tryd.prog wr = _ := fun ty => Lib.run_next_ascii_at wr _ s pos ty hOd hps hasc
      rw [hcs] at hnx
      have HO2 := Lib.hid (HO.out.iter (pos + 1))
      obtain ⟨W, hWd⟩ : ∃ W, wr.iterAt (w.heap.size + 1 + 1 + 1) s (pos + 1) = W := ⟨_, rfl⟩
      rw [hWd] at hnx HO2
      obtain ⟨a0, a1, a2, a3, a4, a5, a6, a7⟩ := ev_cells HO2.out.a
      have fz : ∀ j, W.frozen? ⟨w.heap.size + 1 + 1, j, none⟩ = false := fun j => one_free HO2.out.c j
      have HN := Lib.hid hnext
      clear hOd hasc hcs hnext hWd HG HO
      generalize onlyE e (l.take pos) = x at *
      obtain ⟨c0, c1, c2, c3, c4, c5, c6, c7⟩ := ev_cells HO2.out.c
      rcases hc with rfl | rfl | rfl | rfl | rfl | rfl | rfl
      · have HO3 := Lib.hid (HO2.out.set (y := { x with r := e.r }) 1 (.int .i64 e.r) rfl)
        go_wp2_with fail
        go_roundg g'
        case measure => omega
        case rel => exact ⟨pos + 1, by rw [HN.out]; exact HO3, by omega⟩
      · have HO3 := Lib.hid (HO2.out.set (y := { x with t := e.t }) 2 (.int .i64 e.t) rfl)
        go_wp2_with fail
        go_roundg g'
        case measure => omega
        case rel => exact ⟨pos + 1, by rw [HN.out]; exact HO3, by omega⟩
      · have HO3 := Lib.hid (HO2.out.set (y := { x with y := e.y }) 3 (.int .i64 e.y) rfl)
        go_wp2_with fail
        go_roundg g'
        case measure => omega
        case rel => exact ⟨pos + 1, by rw [HN.out]; exact HO3, by omega⟩
      · have HO3 := Lib.hid (HO2.out.set (y := { x with n := e.n }) 4 (.int .i64 e.n) rfl)
        go_wp2_with fail
        go_roundg g'
        case measure => omega
        case rel => exact ⟨pos + 1, by rw [HN.out]; exact HO3, by omega⟩
      · have HO3 := Lib.hid (HO2.out.set (y := { x with nm := e.nm }) 5 (.string e.nm) rfl)
        go_wp2_with fail
        go_roundg g'
        case measure => omega
        case rel => exact ⟨pos + 1, by rw [HN.out]; exact HO3, by omega⟩
      · have HO3 := Lib.hid (HO2.out.set (y := { x with ky := e.ky }) 6 (.string e.ky) rfl)
        go_wp2_with fail
        go_roundg g'
        case measure => omega
        case rel => exact ⟨pos + 1, by rw [HN.out]; exact HO3, by omega⟩
      · have HO3 := Lib.hid (HO2.out.set (y := { x with dt := e.dt }) 7 (.string e.dt) rfl)
        go_wp2_with fail
        go_roundg g'
        case measure => omega
        case rel => exact ⟨pos + 1, by rw [HN.out]; exact HO3, by omega⟩
    · have hz : ¬ pos < s.size := hps
      obtain rfl : pos = s.size := by omega
      have hnx : ∀ ty, (Instr.next (.pointer (some ⟨w.heap.size + 1 + 1 + 1, 0, none⟩)) true ty).run Tryd.prog wr = _ := fun ty => Lib.run_next_end_at wr _ s s.size ty hOd hz
      have hx := HL.out
      have HO2 := Lib.hid HO.out
      have fz : ∀ j, wr.frozen? ⟨w.heap.size + 1, j, none⟩ = false := fun j => one_free HO2.out.b j
      clear hOd HG HO
      rw [hx] at HO2
      clear hx HL
      generalize hq : onlyE e l = x at HO2
      have HX := Lib.hid hq
      clear hq
      obtain ⟨c0, c1, c2, c3, c4, c5, c6, c7⟩ := ev_cells HO2.out.c
      obtain ⟨b0, b1, b2, b3, b4, b5, b6, b7⟩ := ev_cells HO2.out.b
      have hfin := ev_set8 HO2.out.b x
      have KF : Kept w ((((((((wr.setCell ⟨w.heap.size + 1, 0, none⟩ (.int .i64 x.k)).setCell ⟨w.heap.size + 1, 1, none⟩ (.int .i64 x.r)).setCell ⟨w.heap.size + 1, 2, none⟩ (.int .i64 x.t)).setCell ⟨w.heap.size + 1, 3, none⟩ (.int .i64 x.y)).setCell ⟨w.heap.size + 1, 4, none⟩ (.int .i64 x.n)).setCell ⟨w.heap.size + 1, 5, none⟩ (.string x.nm)).setCell ⟨w.heap.size + 1, 6, none⟩ (.string x.ky)).setCell ⟨w.heap.size + 1, 7, none⟩ (.string x.dt)) := by
        unfold Kept
        repeat (refine Below.setCell ?_ (by show w.heap.size ≤ w.heap.size + 1; omega) _)
        exact HO2.out.k
      have KF2 := Lib.hid KF
      have HF2 := Lib.hid hfin
      clear KF hfin
      go_wp2_with fail
      have KF := KF2.out
      have hfin := HF2.out
      clear KF2 HF2
      generalize (((((((wr.setCell ⟨w.heap.size + 1, 0, none⟩ (.int .i64 x.k)).setCell ⟨w.heap.size + 1, 1, none⟩ (.int .i64 x.r)).setCell ⟨w.heap.size + 1, 2, none⟩ (.int .i64 x.t)).setCell ⟨w.heap.size + 1, 3, none⟩ (.int .i64 x.y)).setCell ⟨w.heap.size + 1, 4, none⟩ (.int .i64 x.n)).setCell ⟨w.heap.size + 1, 5, none⟩ (.string x.nm)).setCell ⟨w.heap.size + 1, 6, none⟩ (.string x.ky)).setCell ⟨w.heap.size + 1, 7, none⟩ (.string x.dt) = Z at *
      obtain ⟨d0, d1, d2, d3, d4, d5, d6, d7⟩ := ev_cells hfin
      exact bodyPost_ret (v := evV x) (by simp [results, Tryd.results18, go_sem, d0, d1, d2, d3, d4, d5, d6, d7]) rfl ⟨by rw [HX.out], KF⟩
end Go.Proofs.YteaepgbakcifkaaDoor
