/- 'for k, v := range m' over a map whose keys are two numbers: the step, and what a whole map hands out. -/
import Derived.Test.YtneehfngphpccaaWhMap
set_option linter.unusedVariables false
set_option linter.unusedSimpArgs false
namespace Go.Proofs.Ytneehfngphpccaa
open Go.RowKit
open Go.ChangeMaps (setBlock)
/-- a loop over the map M under way: D has been handed out -/
structure RgAt (w : World) (q r : Nat) (M : List ME) (ck : Nat) (D : List ME) : Prop where
  map : MapAt w q M ck
  sub : ∀ m ∈ D, m ∈ M
  nd : (D.map (·.n)).Nodup
  iter : ∃ c0, ck ≤ c0 ∧ w.heap[r]? = some (.mapIter (some q) ck (D.map (·.n)).toArray c0)
/-- stamps of a map: none twice, all below the clock -/
def Stamped (M : List ME) (ck : Nat) : Prop := (M.map (·.n)).Nodup ∧ ∀ m ∈ M, m.n < ck
theorem eq_of_n {M : List ME} (h : (M.map (·.n)).Nodup) {x y : ME} (hx : x ∈ M) (hy : y ∈ M) (e : x.n = y.n) : x = y := by
  induction M with
  | nil => cases hx
  | cons z l ih =>
    simp only [List.map_cons, List.nodup_cons, List.mem_map, not_exists, not_and] at h
    rcases List.mem_cons.1 hx with h1 | h1
    · rcases List.mem_cons.1 hy with h2 | h2
      · rw [h1, h2]
      · exact absurd (by rw [← h1, e]) (h.1 y h2)
    · rcases List.mem_cons.1 hy with h2 | h2
      · exact absurd (by rw [← h2, e]) (h.1 x h1)
      · exact ih h.2 h1 h2
theorem nodup_len {α : Type} [DecidableEq α] : ∀ (D M : List α), D.Nodup → (∀ x ∈ D, x ∈ M) → D.length ≤ M.length
  | [], M, _, _ => Nat.zero_le _
  | a :: D, M, hn, hs => by
    simp only [List.nodup_cons] at hn
    have ha := hs a (List.mem_cons_self ..)
    have := nodup_len D (M.erase a) hn.2 (fun x hx => (List.mem_erase_of_ne (fun e => hn.1 (by rw [← e]; exact hx))).2 (hs x (List.mem_cons_of_mem _ hx)))
    rw [List.length_erase_of_mem ha] at this
    have hp := List.length_pos_of_mem ha
    simp
    omega
theorem nodup_of_map {α β : Type} (f : α → β) {l : List α} (h : (l.map f).Nodup) : l.Nodup := by
  induction l with
  | nil => exact List.nodup_nil
  | cons a l ih =>
    simp only [List.map_cons, List.nodup_cons] at h ⊢
    exact ⟨fun hm => h.1 (List.mem_map.2 ⟨a, hm, rfl⟩), ih h.2⟩
theorem perm_of_all {M D : List ME} (hM : (M.map (·.n)).Nodup) (hD : (D.map (·.n)).Nodup) (hs : ∀ m ∈ D, m ∈ M) (ha : ∀ m ∈ M, m.n ∈ D.map (·.n)) : D.Perm M := by
  refine (List.perm_ext_iff_of_nodup (nodup_of_map _ hD) (nodup_of_map _ hM)).2 fun x => ⟨hs x, fun hx => ?_⟩
  obtain ⟨y, hy, e⟩ := List.mem_map.1 (ha x hx)
  rw [← eq_of_n hM (hs y hy) hx e]
  exact hy
theorem RgAt.start {P : Program} {mt kt et : TypeId} {z : Value} (K : KeyMap P mt kt et z) {w : World} {q : Nat} {M : List ME} {ck : Nat} (h : MapAt w q M ck) :
    (Instr.range mt (.map (some q))).run P w = .ok (.pointer (some ⟨w.heap.size, 0, none⟩)) (w.alloc (.mapIter (some q) ck #[] ck)) ∧ RgAt (w.alloc (.mapIter (some q) ck #[] ck)) q w.heap.size M ck [] := by
  refine ⟨run_range_map w mt kt et q _ ck K.ht h, ⟨heap_keep h _, by simp, by simp, ck, Nat.le_refl _, heap_alloc_new w _⟩⟩
theorem RgAt.next {P : Program} {w : World} {q r : Nat} {M : List ME} {ck : Nat} {D : List ME} (h : RgAt w q r M ck D) (hS : Stamped M ck) (ty : TypeId) :
    (D.Perm M ∧ (Instr.next (.pointer (some ⟨r, 0, none⟩)) false ty).run P w = .ok (.tuple #[.bool false]) w) ∨
    (∃ m w1, m ∈ M ∧ D.length < M.length ∧ (Instr.next (.pointer (some ⟨r, 0, none⟩)) false ty).run P w = .ok (.tuple #[.bool true, kv m.a m.b, m.v]) w1 ∧ RgAt w1 q r M ck (D ++ [m]) ∧ Only [r] w w1 ∧
      (Instr.entry (.pointer (some ⟨r, 0, none⟩))).run P w1 = .ok (.tuple #[kv m.a m.b, m.v]) w1) := by
  obtain ⟨hm, hs, hn, c0, hc, hr⟩ := h
  obtain ⟨hS1, hS2⟩ := hS
  have hbo : (M.map ent).map (·.born) = M.map (·.n) := by simp [ent, Function.comp_def]
  have hold : ∀ x ∈ (M.map ent).toArray.toList, x.born < ck := by
    intro x hx
    simp only [List.mem_map] at hx
    obtain ⟨m, h1, rfl⟩ := hx
    exact hS2 m h1
  rcases run_next_at (P := P) w ty r q ck c0 _ _ ck hr hm hold hc with ⟨h0, hrun⟩ | ⟨e, he, w1, hw1, hrun⟩
  · refine .inl ⟨perm_of_all hS1 hn hs fun m hmM => ?_, hrun⟩
    have hlt : leftOf (M.map ent).toArray (D.map (·.n)).toArray = #[] := Array.eq_empty_of_size_eq_zero h0
    unfold leftOf at hlt
    rw [Array.filter_eq_empty_iff] at hlt
    have := hlt (ent m) (by simp; exact ⟨m, hmM, rfl⟩)
    simpa [ent] using this
  · right
    obtain ⟨h1, h2⟩ := mem_left he
    simp only [List.mem_map] at h1
    obtain ⟨m, hmM, rfl⟩ := h1
    have hnot : m.n ∉ D.map (·.n) := by simpa [ent] using h2
    have hr1 : w1.heap[r]? = some (.mapIter (some q) ck (D.map (·.n)).toArray c0) := by rcases hw1 with rfl | rfl <;> exact hr
    have hm1 : MapAt w1 q M ck := by rcases hw1 with rfl | rfl <;> exact hm
    have hne : q ≠ r := by rintro rfl; unfold MapAt at hm; rw [hm] at hr; cases hr
    have hm2 : MapAt (setBlock w1 r (.mapIter (some q) ck ((D.map (·.n)).toArray.push m.n) ck)) q M ck := (only_setBlock w1 r _).heap hm1 (by simpa using hne)
    have hi2 := mapAt_set hr1 (.mapIter (some q) ck ((D.map (·.n)).toArray.push m.n) ck)
    refine ⟨m, _, hmM, ?_, hrun, ⟨hm2, ?_, ?_, ck, Nat.le_refl _, ?_⟩, ?_, ?_⟩
    · have hnd : ((D ++ [m]).map (·.n)).Nodup := by
        rw [List.map_append, List.nodup_append]
        refine ⟨hn, by simp, ?_⟩
        intro x hx y hy
        simp at hy
        subst hy
        rintro rfl
        exact hnot hx
      have hl := nodup_len _ (M.map (·.n)) hnd (fun x hx => by
        obtain ⟨y, hy, rfl⟩ := List.mem_map.1 hx
        rcases List.mem_append.1 hy with h | h
        · exact List.mem_map.2 ⟨y, hs y h, rfl⟩
        · simp at h; rw [h]; exact List.mem_map.2 ⟨m, hmM, rfl⟩)
      simp at hl
      omega
    · intro x hx
      rcases List.mem_append.1 hx with h | h
      · exact hs x h
      · simp at h; rw [h]; exact hmM
    · rw [List.map_append, List.nodup_append]
      refine ⟨hn, by simp, ?_⟩
      intro x hx y hy
      simp at hy
      subst hy
      rintro rfl
      exact hnot hx
    · simpa [ent] using hi2
    · have O : Only [r] w1 (setBlock w1 r (.mapIter (some q) ck ((D.map (·.n)).toArray.push m.n) ck)) := only_setBlock w1 r _
      rcases hw1 with rfl | rfl
      · exact O
      · exact ((Only.refl [r] w).drew).trans O
    · exact run_entry_at _ r q ck (D.map (·.n)).toArray (M.map ent).toArray ck (ent m) (by simpa [ent] using hi2) hm2 (by simp; exact ⟨m, hmM, rfl⟩) (by simpa [hbo] using hS1)
theorem RgAt.only {w w' : World} {S : List Nat} {q r : Nat} {M : List ME} {ck : Nat} {D : List ME} (h : RgAt w q r M ck D) (k : Only S w w') (hq : q ∉ S) (hr : r ∉ S) : RgAt w' q r M ck D := by
  obtain ⟨hm, hs, hn, c0, hc, hi⟩ := h
  exact ⟨k.heap hm hq, hs, hn, c0, hc, k.heap hi hr⟩
/-- the step, at the operation -/
theorem wpList_next_me {P : Program} {w : World} {ops : Array Oper} {rest : List Oper} {o : Oper} {a : Act} {Q : Exit → Act → World → Prop} (hg : o.guard = none) (it : Operand) (hop : o.op = Op.next it false) {q r : Nat} {M : List ME} {ck : Nat} {D : List ME}
    (hit : a.eval it = .pointer (some ⟨r, 0, none⟩)) (h : RgAt w q r M ck D) (hS : Stamped M ck)
    (hDone : D.Perm M → wpList P ops Q rest (a.put o.dst (.tuple #[.bool false])) w)
    (hMore : ∀ m w1, m ∈ M → D.length < M.length → RgAt w1 q r M ck (D ++ [m]) → Only [r] w w1 → (Instr.entry (.pointer (some ⟨r, 0, none⟩))).run P w1 = .ok (.tuple #[kv m.a m.b, m.v]) w1 → wpList P ops Q rest (a.put o.dst (.tuple #[.bool true, kv m.a m.b, m.v])) w1) :
    wpList P ops Q (o :: rest) a w := by
  refine wpList_plain hg fun K' hK' => ?_
  unfold Oper.wp
  rcases h.next (P := P) hS o.type with ⟨h0, hrun⟩ | ⟨m, w1, hm, hlt, hrun, hR, hO, he⟩
  · simp [execOp, hop, hit, hrun, Result.andThen]
    exact hK' _ _ (hDone h0)
  · simp [execOp, hop, hit, hrun, Result.andThen]
    exact hK' _ _ (hMore m w1 hm hlt hR hO he)
end Go.Proofs.Ytneehfngphpccaa
