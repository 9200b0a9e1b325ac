/- Graphs: edges, the map of edges, whether a node is one. -/
import Derived.Test.YtmejphlpcgochaaKeyMap
import Derived.ChangeKeysEq
import Derived.RegionTactic
import Derived.BigRegion
import Derived.Deep.RegionHeld3
set_option linter.unusedVariables false
set_option linter.unusedSimpArgs false
namespace Go.Proofs.Ytmejphlpcgochaa
open Go.RowKit
open Go.ChangeMaps (setBlock)
theorem kept_al (w : World) (o : Obj) : Kept w (w.alloc o) := ((Only.refl [] w).alloc o).kept
theorem eqEdge (a b c d : Int) (w : World) : (Op.equal 33 (kv a b) (kv c d)).run Try.prog w = .ok (decide (a = c ∧ b = d)) w := by
  unfold Op.equal kv
  obtain ⟨i, hi, _⟩ := info_parts (P := Try.prog) (e := 3) (z := .int .i64 0) (size := 1) (bytes := 8) (by kernel_rfl)
  rw [show Op.maxDepth = 9999 + 1 from rfl, run_equalIn_array w 9999 _ _ Try.underlying33 hi]
  have hc : Try.prog.cellsOf 3 = 1 := by kernel_rfl
  rw [hc, show List.range 2 = [0, 1] from rfl]
  simp only [Op.eqItems]
  go_simp
  by_cases h1 : a = c <;> by_cases h2 : b = d <;> simp [h1, h2]
theorem keyG : KeyMap Try.prog 60 33 4 (.bool false) where
  ht := Try.underlying60
  heq := fun W a b c d => eqEdge a b c d W
  hchk := fun W em a b => by kernel_rfl
  hku := ⟨_, Try.underlying33, fun a b c d => rfl⟩
  hz := fun W => by kernel_rfl
abbrev Ed := Int × Int
def edVs (E : List Ed) : List Value := E.flatMap fun x => [.int .i64 x.1, .int .i64 x.2]
theorem edVs_len (E : List Ed) : (edVs E).length = E.length * 2 := by induction E with | nil => rfl | cons x l ih => simp [edVs] at ih ⊢; omega
theorem edVs_app (A B : List Ed) : edVs (A ++ B) = edVs A ++ edVs B := by simp [edVs]
theorem edVs_at : ∀ (E : List Ed) (i : Nat) (x : Ed), E[i]? = some x → (edVs E)[i * 2]? = some (.int .i64 x.1) ∧ (edVs E)[i * 2 + 1]? = some (.int .i64 x.2)
  | [], i, x, h => by cases h
  | y :: l, 0, x, h => by
    obtain rfl : y = x := by simpa using h
    exact ⟨rfl, rfl⟩
  | y :: l, i + 1, x, h => by
    have := edVs_at l i x (by simpa using h)
    simpa [edVs, Nat.add_mul] using this
/-- a slice that reads as edges -/
def SlE (w : World) (a : Option Addr) (n c : Nat) (E : List Ed) : Prop :=
  E.length = n ∧ n ≤ c ∧ c ≤ maxLen ∧ (0 < n → ∃ b o, a = some ⟨b, o, none⟩ ∧ b < w.heap.size ∧ ∀ j u, (edVs E)[j]? = some u → w.cell? ⟨b, o + j, none⟩ = some u)
theorem SlE.kept {w w' : World} {a : Option Addr} {n c : Nat} {E : List Ed} (h : SlE w a n c E) (k : Kept w w') : SlE w' a n c E :=
  ⟨h.1, h.2.1, h.2.2.1, fun h0 => by obtain ⟨b, o, h1, h2, h3⟩ := h.2.2.2 h0; exact ⟨b, o, h1, Nat.lt_of_lt_of_le h2 k.size, fun j u hu => k.cel (h3 j u hu)⟩⟩
theorem SlE.at {w : World} {a : Option Addr} {n c : Nat} {E : List Ed} (h : SlE w a n c E) {i : Nat} {x : Ed} (hx : E[i]? = some x) : ∃ b o, a = some ⟨b, o, none⟩ ∧ w.cell? ⟨b, o + i * 2, none⟩ = some (.int .i64 x.1) ∧ w.cell? ⟨b, o + i * 2 + 1, none⟩ = some (.int .i64 x.2) := by
  have hi : i < E.length := (List.getElem?_eq_some_iff.1 hx).1
  obtain ⟨b, o, h1, h2, h3⟩ := h.2.2.2 (by rw [← h.1]; omega)
  obtain ⟨g0, g1⟩ := edVs_at E i x hx
  exact ⟨b, o, h1, h3 _ _ g0, h3 _ _ g1⟩
def inG (N n : Int) : Bool := decide (0 ≤ n ∧ n < N)
theorem g_in (N : Int) (s : Option Addr) (m c : Nat) (n : Int) (w : World) : Calls Try.prog 28 #[.agg #[.int .i64 N, .slice s m c], .int .i64 n] w fun e w' => e = .returned (.bool (inG N n)) ∧ Kept w w' := by
  have h0 := heap_alloc_new w (.cells #[.int .i64 N, .slice s m c] 24)
  have c0 : World.cell? _ ⟨w.heap.size, 0, none⟩ = some (.int .i64 N) := at_cell h0 0 _ rfl
  have KK := kept_al w (.cells #[.int .i64 N, .slice s m c] 24)
  clear h0
  by_cases h1 : 0 ≤ n
  · by_cases h2 : n < N
    · have hr : inG N n = true := decide_eq_true ⟨h1, h2⟩
      go_enter Try.func28, Try.ntmps28
      go_wp2_with fail
      go_ret
      exact ⟨by first | rfl | (rw [hr]; rfl) | (simp; omega), KK⟩
    · have hr : inG N n = false := decide_eq_false (by omega)
      go_enter Try.func28, Try.ntmps28
      go_wp2_with fail
      go_ret
      exact ⟨by first | rfl | (rw [hr]; rfl) | (simp; omega), KK⟩
  · have hr : inG N n = false := decide_eq_false (by omega)
    go_enter Try.func28, Try.ntmps28
    go_wp2_with fail
    go_ret
    exact ⟨by first | rfl | (rw [hr]; rfl) | (simp; omega), KK⟩
/-- whether edges may follow edges -/
def okE (N : Int) (e : Ed) : Bool := inG N e.1 && inG N e.2 && !decide (e.1 = e.2)
def goodA (N : Int) : List Ed → List Ed → Bool
  | [], _ => true
  | e :: l, s => okE N e && !s.contains e && goodA N l (s ++ [e])
def goodG (N : Int) (E : List Ed) : Bool := decide (0 ≤ N ∧ N ≤ 16) && goodA N E []
theorem fnd_app (a b : Int) (x : ME) : ∀ (M : List ME) (i : Nat), fnd a b (M ++ [x]) i = match fnd a b M i with | some r => some r | none => if a = x.a ∧ b = x.b then some (i + M.length, x.v) else none
  | [], i => by simp [fnd]
  | m :: M, i => by
    simp only [List.cons_append, fnd]
    split
    · rfl
    · rw [fnd_app a b x M (i + 1)]
      simp only [List.length_cons]
      rw [show i + 1 + M.length = i + (M.length + 1) from by omega]
/-- the map has just these edges -/
def HasM (M : List ME) (s : List Ed) : Prop := ∀ a b, lookV (.bool false) a b M = .bool (s.contains (a, b))
theorem HasM.nil : HasM [] [] := fun a b => rfl
theorem HasM.put {M : List ME} {s : List Ed} (h : HasM M s) (a b : Int) (ck : Nat) (hn : s.contains (a, b) = false) : HasM (putM a b (.bool true) ck M).1 (s ++ [(a, b)]) := by
  have hM : ∀ x y, (lookV (.bool false) x y (putM a b (.bool true) ck M).1) = if x = a ∧ y = b then .bool true else lookV (.bool false) x y M := by
    intro x y
    unfold putM
    cases hf : fnd a b M 0 with
    | none =>
      dsimp only
      unfold lookV
      rw [fnd_app]
      by_cases hxy : x = a ∧ y = b
      · rw [hxy.1, hxy.2, hf]; simp
      · rw [if_neg hxy]
        cases fnd x y M 0 with
        | none => simp [hxy]
        | some r => simp [hxy]
    | some r =>
      obtain ⟨i, v0⟩ := r
      dsimp only
      have key : ∀ (M : List ME) (i j : Nat) (v0 : Value), fnd a b M j = some (j + i, v0) → fnd x y (M.modify i fun m => { m with v := .bool true }) j = if x = a ∧ y = b then some (j + i, .bool true) else fnd x y M j := by
        intro M
        induction M with
        | nil => intro i j v0 h; cases h
        | cons m M ih =>
          intro i j v0 h
          unfold fnd at h
          split at h
          · rename_i hm
            injection h with h
            injection h with h1 h2
            obtain rfl : i = 0 := by omega
            simp only [List.modify_zero_cons, fnd]
            rw [← hm.1, ← hm.2]
            by_cases hxy : x = a ∧ y = b <;> simp [hxy]
          · rename_i hm
            obtain ⟨k, m', h1, _⟩ := fnd_key a b M (j + 1) _ v0 h
            obtain ⟨i', rfl⟩ : ∃ i', i = i' + 1 := ⟨k, by omega⟩
            simp only [List.modify_succ_cons, fnd]
            rw [show j + (i' + 1) = j + 1 + i' from by omega] at h ⊢
            rw [ih i' (j + 1) v0 h]
            by_cases hxy : x = a ∧ y = b
            · rw [hxy.1, hxy.2, if_neg hm]; simp
            · simp [hxy]
      have := key M i 0 v0 (by rw [Nat.zero_add]; exact hf)
      unfold lookV
      rw [this]
      by_cases hxy : x = a ∧ y = b
      · simp [hxy]
      · simp [hxy]
  intro x y
  rw [hM, h x y]
  by_cases hxy : x = a ∧ y = b
  · rw [if_pos hxy, hxy.1, hxy.2]; simp
  · rw [if_neg hxy]
    congr 1
    rw [Bool.eq_iff_iff]
    simp only [List.contains_eq_mem, decide_eq_true_eq, List.mem_append, List.mem_singleton, Prod.mk.injEq, hxy, or_false]
end Go.Proofs.Ytmejphlpcgochaa
