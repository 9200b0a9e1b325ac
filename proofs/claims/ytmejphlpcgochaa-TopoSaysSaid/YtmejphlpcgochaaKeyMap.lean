/- Maps whose keys are two numbers: looked up, written, deleted from. -/
import Derived.Test.YtmejphlpcgochaaMem
import Derived.Maps.RangeRun
import Derived.MapKept
set_option linter.unusedVariables false
set_option linter.unusedSimpArgs false
namespace Go.Proofs.Ytmejphlpcgochaa
open Go.RowKit
open Go.ChangeMaps (setBlock)
def kv (a b : Int) : Value := .agg #[.int .i64 a, .int .i64 b]
/-- what is asked of a map's types -/
structure KeyMap (P : Program) (mt kt et : TypeId) (z : Value) : Prop where
  ht : P.underlying mt = some (.map kt et)
  heq : ∀ (W : World) a b c d, (Op.equal kt (kv a b) (kv c d)).run P W = .ok (decide (a = c ∧ b = d)) W
  hchk : ∀ (W : World) em a b, (Instr.checkKey em 10000 kt (kv a b)).run P W = .ok () W
  hku : ∃ D, P.underlying kt = some D ∧ ∀ a b c d, Instr.sameNow D (kv a b) (kv c d) = none
  hz : ∀ W : World, (zeroValue et).run P W = .ok z W
/-- an entry -/
structure ME where
  a : Int
  b : Int
  v : Value
  n : Nat
def ent (m : ME) : MapEntry := ⟨kv m.a m.b, m.v, m.n⟩
def fnd (a b : Int) : List ME → Nat → Option (Nat × Value)
  | [], _ => none
  | m :: l, i => if a = m.a ∧ b = m.b then some (i, m.v) else fnd a b l (i + 1)
theorem run_asking {P : Program} {mt kt et : TypeId} {z : Value} (K : KeyMap P mt kt et z) (a b : Int) (W : World) : ∀ (M : List ME) (i : Nat), (Instr.findAsking kt (kv a b) (M.map ent) i).run P W = .ok (fnd a b M i) W
  | [], i => rfl
  | m :: M, i => by
    have h := run_asking K a b W M (i + 1)
    simp only [List.map_cons, Instr.findAsking, ent, Sem.run_bind, K.heq, Result.andThen_ok, fnd]
    by_cases he : a = m.a ∧ b = m.b
    · rw [decide_eq_true he, if_pos he]; rfl
    · rw [decide_eq_false he, if_neg he]; exact h
theorem run_find {P : Program} {mt kt et : TypeId} {z : Value} (K : KeyMap P mt kt et z) (a b : Int) (W : World) (M : List ME) : (Instr.findKey kt (kv a b) (M.map ent)).run P W = .ok (fnd a b M 0) W := by
  obtain ⟨D, h1, h2⟩ := K.hku
  cases M with
  | nil => simp [Instr.findKey, run_underlying h1, Instr.findNow, fnd]
  | cons m M =>
    have := run_asking K a b W (m :: M) 0
    simp only [Instr.findKey, Sem.run_bind, run_underlying h1, Result.andThen_ok, List.map_cons, Instr.findNow, ent, h2]
    exact this
/-- a map that holds M -/
def MapAt (w : World) (b : Nat) (M : List ME) (clock : Nat) : Prop := w.heap[b]? = some (.map (M.map ent).toArray clock)
def lookV (z : Value) (a b : Int) (M : List ME) : Value := match fnd a b M 0 with | some (_, v) => v | none => z
def lookB (a b : Int) (M : List ME) : Bool := (fnd a b M 0).isSome
theorem run_look {P : Program} {mt kt et : TypeId} {z : Value} (K : KeyMap P mt kt et z) (a b : Int) {w : World} {q : Nat} {M : List ME} {clock : Nat} (h : MapAt w q M clock) :
    (Instr.lookup mt (.map (some q)) (kv a b) true).run P w = .ok (.tuple #[lookV z a b M, .bool (lookB a b M)]) w := by
  unfold MapAt at h
  have hf := run_find K a b w M
  simp only [Instr.lookup, Sem.run_bind, run_underlying K.ht, Result.andThen_ok, getObj, Sem.run, h, Sem.run_pure, K.hchk, hf]
  unfold lookV lookB
  cases fnd a b M 0 with
  | none => simp [K.hz]
  | some x => simp
theorem run_look1 {P : Program} {mt kt et : TypeId} {z : Value} (K : KeyMap P mt kt et z) (a b : Int) {w : World} {q : Nat} {M : List ME} {clock : Nat} (h : MapAt w q M clock) :
    (Instr.lookup mt (.map (some q)) (kv a b) false).run P w = .ok (lookV z a b M) w := by
  unfold MapAt at h
  have hf := run_find K a b w M
  simp only [Instr.lookup, Sem.run_bind, run_underlying K.ht, Result.andThen_ok, getObj, Sem.run, h, Sem.run_pure, K.hchk, hf]
  unfold lookV
  cases fnd a b M 0 with
  | none => simp [K.hz]
  | some x => simp
/-- what is behind a store -/
def putM (a b : Int) (v : Value) (clock : Nat) (M : List ME) : List ME × Nat := match fnd a b M 0 with
  | some (i, _) => (M.modify i fun m => { m with v := v }, clock)
  | none => (M ++ [⟨a, b, v, clock⟩], clock + 1)
theorem fnd_key (a b : Int) : ∀ (M : List ME) (i j : Nat) (v : Value), fnd a b M i = some (j, v) → ∃ k m, j = i + k ∧ M[k]? = some m ∧ m.a = a ∧ m.b = b ∧ m.v = v
  | [], i, j, v, h => by cases h
  | m :: M, i, j, v, h => by
    unfold fnd at h
    split at h
    · rename_i he
      injection h with h
      injection h with h1 h2
      exact ⟨0, m, by omega, rfl, he.1.symm, he.2.symm, h2⟩
    · obtain ⟨k, m', h1, h2, h3⟩ := fnd_key a b M (i + 1) j v h
      exact ⟨k + 1, m', by omega, by simpa using h2, h3⟩
theorem sameBits_kv (a b : Int) : Instr.sameBits 10000 (kv a b) (kv a b) = true := by
  rw [show (10000 : Nat) = 9999 + 1 from rfl]
  simp [Instr.sameBits, kv]
theorem run_put {P : Program} {mt kt et : TypeId} {z : Value} (K : KeyMap P mt kt et z) (a b : Int) (v : Value) {w : World} {q : Nat} {M : List ME} {clock : Nat} (h : MapAt w q M clock) :
    (Instr.mapUpdate mt (.map (some q)) (kv a b) v).run P w = .ok () (setBlock w q (.map ((putM a b v clock M).1.map ent).toArray (putM a b v clock M).2)) := by
  unfold MapAt at h
  have hf := run_find K a b w M
  simp only [Instr.mapUpdate, Sem.run_bind, run_underlying K.ht, Result.andThen_ok, getObj, Sem.run, h, K.hchk, hf]
  unfold putM
  cases hc : fnd a b M 0 with
  | none =>
    simp [ent, setObj, Sem.run, h, setBlock]
  | some x =>
    obtain ⟨i, v0⟩ := x
    obtain ⟨k, m, hk, hm, ha, hb, hv⟩ := fnd_key a b M 0 i v0 hc
    obtain rfl : i = k := by omega
    subst ha hb hv
    have hk2 : (((M.map ent).toArray[i]?).map (·.key)).getD (kv m.a m.b) = kv m.a m.b := by
      rw [List.getElem?_toArray, List.getElem?_map, hm]; rfl
    have hst : (Instr.keyThatStays (kv m.a m.b) (kv m.a m.b)).run P w = .ok (kv m.a m.b) w := by
      unfold Instr.keyThatStays
      rw [if_pos (sameBits_kv _ _)]
      rfl
    simp only [Sem.run_bind, hk2, hst, Result.andThen_ok, setObj, Sem.run, h, setBlock]
    congr 2
    congr 2
    apply Array.ext'
    simp only [Array.toList_modify]
    apply List.ext_getElem?
    intro j
    simp only [List.getElem?_modify, List.getElem?_map]
    by_cases hj : i = j
    · subst hj
      rw [hm]
      simp [ent]
    · simp [hj]
/-- what is behind a delete -/
def delM (a b : Int) (M : List ME) : List ME := match fnd a b M 0 with
  | some (i, _) => M.eraseIdx i
  | none => M
theorem run_del {P : Program} {mt kt et : TypeId} {z : Value} (K : KeyMap P mt kt et z) (a b : Int) {w : World} {q : Nat} {M : List ME} {clock : Nat} (h : MapAt w q M clock) (t2 ty : TypeId) :
    (Builtin.delete_ #[mt, t2] ty #[.map (some q), kv a b]).run P w = .ok (.tuple #[]) (setBlock w q (.map ((delM a b M).map ent).toArray clock)) := by
  unfold MapAt at h
  have hf := run_find K a b w M
  simp only [Builtin.delete_, Sem.run_bind, run_underlying K.ht, Result.andThen_ok, getObj, Sem.run, h, K.hchk, hf, List.getElem?_toArray, List.getElem?_cons_zero, List.getElem?_cons_succ]
  unfold delM
  cases hc : fnd a b M 0 with
  | none => simp [setObj, Sem.run, h, setBlock]
  | some x =>
    obtain ⟨i, v0⟩ := x
    obtain ⟨k, m, hk, hm, _⟩ := fnd_key a b M 0 i v0 hc
    obtain rfl : i = k := by omega
    have hi : i < M.length := (List.getElem?_eq_some_iff.1 hm).1
    simp [setObj, Sem.run, h, setBlock, Array.eraseIdxIfInBounds, hi]
    rw [List.eraseIdx_eq_take_drop_succ, List.eraseIdx_eq_take_drop_succ, List.map_append, List.map_take, List.map_drop]
theorem mapAt_set {w : World} {q : Nat} {o : Obj} (h : w.heap[q]? = some o) (o' : Obj) : (setBlock w q o').heap[q]? = some o' := by
  have := lt_heap h
  simp [setBlock, this]
theorem only_setBlock (w : World) (q : Nat) (o : Obj) : Only [q] w (setBlock w q o) := by
  refine ⟨rfl, rfl, rfl, by simp [setBlock], fun k hk hn => ?_⟩
  have : q ≠ k := by simpa using Ne.symm (by simpa using hn)
  simp [setBlock, Array.getElem?_setIfInBounds, this]
end Go.Proofs.Ytmejphlpcgochaa
