/- The wheel: New, Set, Drop, At, Len, Now. -/
import Derived.Test.YtneehfngphpccaaWhMap
import Derived.RegionTactic
import Derived.BigRegion
set_option linter.unusedVariables false
set_option linter.unusedSimpArgs false
namespace Go.Proofs.Ytneehfngphpccaa
open Go.RowKit
open Go.ChangeMaps (setBlock)
theorem kept_al (w : World) (o : Obj) : Kept w (w.alloc o) := ((Only.refl [] w).alloc o).kept
/-- a wheel's two blocks -/
structure WhAt (w : World) (p q : Nat) (now : Int) (M : List ME) (ck : Nat) : Prop where
  box : w.heap[p]? = some (.cells #[.int .i64 now, .map (some q)] 60 (0, 0))
  map : MapAt w q M ck
theorem WhAt.ne {w : World} {p q : Nat} {now : Int} {M : List ME} {ck : Nat} (h : WhAt w p q now M ck) : p ≠ q := by
  rintro rfl
  have h1 := h.box
  have h2 := h.map
  unfold MapAt at h2
  rw [h1] at h2
  cases h2
theorem WhAt.only {w w' : World} {S : List Nat} {p q : Nat} {now : Int} {M : List ME} {ck : Nat} (h : WhAt w p q now M ck) (k : Only S w w') (hp : p ∉ S) (hq : q ∉ S) : WhAt w' p q now M ck := ⟨k.heap h.box hp, k.heap h.map hq⟩
theorem WhAt.keep {w w' : World} {p q : Nat} {now : Int} {M : List ME} {ck : Nat} (h : WhAt w p q now M ck) (k : Kept w w') : WhAt w' p q now M ck := h.only k.only (by simp) (by simp)
theorem WhAt.put {w : World} {p q : Nat} {now : Int} {M : List ME} {ck : Nat} (h : WhAt w p q now M ck) (M' : List ME) (ck' : Nat) : WhAt (setBlock w q (.map (M'.map ent).toArray ck')) p q now M' ck' :=
  ⟨(only_setBlock w q _).heap h.box (by simp; exact h.ne), mapAt_set h.map _⟩
theorem WhAt.turn {w : World} {p q : Nat} {now : Int} {M : List ME} {ck : Nat} (h : WhAt w p q now M ck) (n : Int) : WhAt (w.setCell ⟨p, 0, none⟩ (.int .i64 n)) p q n M ck :=
  ⟨at_set h.box 0 _, ((Only.refl [p] w).setCell (fun _ => by simp) _).heap h.map (by simp; exact fun e => h.ne e.symm)⟩
theorem wh_now {w : World} {p q : Nat} {now : Int} {M : List ME} {ck : Nat} (h : WhAt w p q now M ck) : Calls Try.prog 20 #[.pointer (some ⟨p, 0, none⟩)] w fun e w' => e = .returned (.int .i64 now) ∧ w = w' := by
  have c0 : w.cell? ⟨p, 0, none⟩ = some (.int .i64 now) := at_cell h.box 0 _ rfl
  clear h
  go_enter Try.func20, Try.ntmps20
  go_wp2
  go_ret
  exact ⟨rfl, rfl⟩
theorem run_mlen {w : World} {q : Nat} {M : List ME} {ck : Nat} (h : MapAt w q M ck) (ty : TypeId) : (Builtin.len_ #[58] ty #[.map (some q)]).run Try.prog w = .ok (.int .i64 M.length) w := by
  unfold MapAt at h
  simp [Builtin.len_, run_underlying Try.underlying58, getObj, Sem.run, h, goInt]
theorem wh_len {w : World} {p q : Nat} {now : Int} {M : List ME} {ck : Nat} (h : WhAt w p q now M ck) : Calls Try.prog 10 #[.pointer (some ⟨p, 0, none⟩)] w fun e w' => e = .returned (.int .i64 M.length) ∧ w = w' := by
  have c1 : w.cell? ⟨p, 1, none⟩ = some (.map (some q)) := at_cell h.box 1 _ rfl
  have hl := fun ty => run_mlen h.map ty
  clear h
  go_enter Try.func10, Try.ntmps10
  go_wp2
  go_ret
  exact ⟨rfl, rfl⟩
theorem wh_at {w : World} {p q : Nat} {now : Int} {M : List ME} {ck : Nat} (h : WhAt w p q now M ck) (a b : Int) : Calls Try.prog 13 #[.pointer (some ⟨p, 0, none⟩), kv a b] w fun e w' => e = .returned (.tuple #[lookV (.int .i64 0) a b M, .bool (lookB a b M)]) ∧ Kept w w' := by
  unfold kv
  have K0 := kept_al w (.cells #[.int .i64 a, .int .i64 b] 30)
  have hY := h.keep K0
  have hk := heap_alloc_new w (.cells #[.int .i64 a, .int .i64 b] 30)
  have c1 : World.cell? _ ⟨p, 1, none⟩ = some (.map (some q)) := at_cell hY.box 1 _ rfl
  have k0 : World.cell? _ ⟨w.heap.size, 0, none⟩ = some (.int .i64 a) := at_cell hk 0 _ rfl
  have k1 : World.cell? _ ⟨w.heap.size, 1, none⟩ = some (.int .i64 b) := at_cell hk 1 _ rfl
  have hr := run_look keyM a b (w := (w.alloc (.cells #[.int .i64 a, .int .i64 b] 30)).drew) hY.map
  unfold kv at hr
  clear h hY hk
  go_enter Try.func13, Try.ntmps13
  go_wp2
  go_region
  all_goals (
    go_wp2
    exact bodyPost_ret (v := .tuple #[lookV (.int .i64 0) a b M, .bool (lookB a b M)]) (by simp [results, Try.results13, go_sem]) rfl ⟨rfl, K0.dr ⟨1, rfl⟩⟩)
theorem wh_drop {w : World} {p q : Nat} {now : Int} {M : List ME} {ck : Nat} (h : WhAt w p q now M ck) (a b : Int) : Calls Try.prog 11 #[.pointer (some ⟨p, 0, none⟩), kv a b] w fun e w' => e = .returned (.bool (lookB a b M)) ∧ WhAt w' p q now (delM a b M) ck ∧ Only [q] w w' := by
  unfold kv
  have K0 := kept_al w (.cells #[.int .i64 a, .int .i64 b] 30)
  have hY := h.keep K0
  have hk := heap_alloc_new w (.cells #[.int .i64 a, .int .i64 b] 30)
  have c1 : World.cell? _ ⟨p, 1, none⟩ = some (.map (some q)) := at_cell hY.box 1 _ rfl
  have k0 : World.cell? _ ⟨w.heap.size, 0, none⟩ = some (.int .i64 a) := at_cell hk 0 _ rfl
  have k1 : World.cell? _ ⟨w.heap.size, 1, none⟩ = some (.int .i64 b) := at_cell hk 1 _ rfl
  have hr := run_look keyM a b (w := (w.alloc (.cells #[.int .i64 a, .int .i64 b] 30)).drew) hY.map
  have hd := fun t2 ty => run_del keyM a b (w := (w.alloc (.cells #[.int .i64 a, .int .i64 b] 30)).drew.drew) hY.map t2 ty
  have hO := (K0.dr ⟨2, rfl⟩ : Kept w (w.alloc (.cells #[.int .i64 a, .int .i64 b] 30)).drew.drew)
  have hF := (h.keep hO).put (delM a b M) ck
  have HO := (hO.only.mono (T := [q]) (by simp)).trans (only_setBlock _ q (.map ((delM a b M).map ent).toArray ck))
  unfold kv at hr hd
  clear h hY hk
  go_enter Try.func11, Try.ntmps11
  go_wp2
  go_region
  all_goals go_wp2
  all_goals go_region
  all_goals (
    go_wp2
    go_ret
    exact ⟨rfl, hF, HO⟩)
theorem wh_set_no {w : World} {p q : Nat} {now : Int} {M : List ME} {ck : Nat} (h : WhAt w p q now M ck) (a b at' : Int) (hn : 1099511627776 < at' ∨ at' ≤ now) : Calls Try.prog 8 #[.pointer (some ⟨p, 0, none⟩), kv a b, .int .i64 at'] w fun e w' => e = .returned (.int .i64 1) ∧ Kept w w' := by
  unfold kv
  have K0 := kept_al w (.cells #[.int .i64 a, .int .i64 b] 30)
  have hY := h.keep K0
  have c0 : World.cell? _ ⟨p, 0, none⟩ = some (.int .i64 now) := at_cell hY.box 0 _ rfl
  clear h hY
  by_cases h1 : 1099511627776 < at'
  · go_enter Try.func8, Try.ntmps8
    go_wp2
    go_ret
    exact ⟨rfl, K0⟩
  · have h2 : at' ≤ now := by omega
    go_enter Try.func8, Try.ntmps8
    go_wp2
    go_ret
    exact ⟨rfl, K0⟩
theorem wh_set {w : World} {p q : Nat} {now : Int} {M : List ME} {ck : Nat} (h : WhAt w p q now M ck) (a b at' : Int) (h1 : at' ≤ 1099511627776) (h2 : now < at') : Calls Try.prog 8 #[.pointer (some ⟨p, 0, none⟩), kv a b, .int .i64 at'] w fun e w' => e = .returned (.int .i64 0) ∧ WhAt w' p q now (putM a b (.int .i64 at') ck M).1 (putM a b (.int .i64 at') ck M).2 ∧ Only [q] w w' := by
  unfold kv
  have K0 := kept_al w (.cells #[.int .i64 a, .int .i64 b] 30)
  have hY := h.keep K0
  have hk := heap_alloc_new w (.cells #[.int .i64 a, .int .i64 b] 30)
  have c0 : World.cell? _ ⟨p, 0, none⟩ = some (.int .i64 now) := at_cell hY.box 0 _ rfl
  have c1 : World.cell? _ ⟨p, 1, none⟩ = some (.map (some q)) := at_cell hY.box 1 _ rfl
  have k0 : World.cell? _ ⟨w.heap.size, 0, none⟩ = some (.int .i64 a) := at_cell hk 0 _ rfl
  have k1 : World.cell? _ ⟨w.heap.size, 1, none⟩ = some (.int .i64 b) := at_cell hk 1 _ rfl
  have hd := run_put keyM a b (.int .i64 at') (w := (w.alloc (.cells #[.int .i64 a, .int .i64 b] 30)).drew) hY.map
  have hO := (K0.dr ⟨1, rfl⟩ : Kept w (w.alloc (.cells #[.int .i64 a, .int .i64 b] 30)).drew)
  have hF := (h.keep hO).put (putM a b (.int .i64 at') ck M).1 (putM a b (.int .i64 at') ck M).2
  have HO := (hO.only.mono (T := [q]) (by simp)).trans (only_setBlock _ q (.map ((putM a b (.int .i64 at') ck M).1.map ent).toArray (putM a b (.int .i64 at') ck M).2))
  unfold kv at hd
  generalize putM a b (.int .i64 at') ck M = R at *
  clear h hY hk
  have h1' : ¬ 1099511627776 < at' := by omega
  have h2' : ¬ at' ≤ now := by omega
  go_enter Try.func8, Try.ntmps8
  go_wp2
  go_region
  all_goals (
    go_wp2
    go_ret
    exact ⟨rfl, hF, HO⟩)
theorem wh_new (w : World) : Calls Try.prog 7 #[] w fun e w' => ∃ p q, e = .returned (.pointer (some ⟨p, 0, none⟩)) ∧ WhAt w' p q 0 [] 0 ∧ Kept w w' ∧ w.heap.size ≤ p ∧ w.heap.size ≤ q := by
  have hmm := @run_makeMap Try.prog
  go_enter Try.func7, Try.ntmps7
  go_wp2
  go_ret
  refine ⟨w.heap.size + 1, w.heap.size, rfl, ⟨?_, heap_keep (heap_alloc_new w (.map #[] 0)) _⟩, (kept_al w (.map #[] 0)).trans (kept_al _ _), by omega, by omega⟩
  have := heap_alloc_new (w.alloc (.map #[] 0)) (.cells #[.int .i64 0, .map (some w.heap.size)] 60)
  simpa using this
end Go.Proofs.Ytneehfngphpccaa
