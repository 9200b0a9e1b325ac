/- Memory: which blocks may have changed ('Only'), slices that the call may append to ('App'), and append itself, from whatever source. -/
import Derived.Test.YteaepgbakcifkaaDoorBase
import Derived.Deep.AppendSrc
set_option linter.unusedVariables false
set_option linter.unusedSimpArgs false
namespace Go.Proofs.YteaepgbakcifkaaDoor
open Go.RowKit
/-- of the blocks that were there, only those of S may have changed -/
structure Only (S : List Nat) (w w' : World) : Prop where
  os : w'.os = w.os
  tape : w'.tape = w.tape
  output : w'.output = w.output
  size : w.heap.size ≤ w'.heap.size
  block : ∀ k, k < w.heap.size → k ∉ S → w'.heap[k]? = w.heap[k]?
theorem Only.refl (S : List Nat) (w : World) : Only S w w := ⟨rfl, rfl, rfl, Nat.le_refl _, fun _ _ _ => rfl⟩
theorem Only.trans {S : List Nat} {a b c : World} (h : Only S a b) (k : Only S b c) : Only S a c :=
  ⟨k.os.trans h.os, k.tape.trans h.tape, k.output.trans h.output, Nat.le_trans h.size k.size, fun i hi hn => (k.block i (Nat.lt_of_lt_of_le hi h.size) hn).trans (h.block i hi hn)⟩
theorem Only.mono {S T : List Nat} {a b : World} (h : Only S a b) (hs : ∀ k, k < a.heap.size → k ∈ S → k ∈ T) : Only T a b :=
  ⟨h.os, h.tape, h.output, h.size, fun i hi hn => h.block i hi fun hm => hn (hs i hi hm)⟩
/-- behind a step that touches, of what was there at the start, only blocks of S -/
theorem Only.then {S T : List Nat} {a b c : World} (h : Only S a b) (k : Only T b c) (hT : ∀ i, i < a.heap.size → i ∈ T → i ∈ S) : Only S a c :=
  ⟨k.os.trans h.os, k.tape.trans h.tape, k.output.trans h.output, Nat.le_trans h.size k.size,
    fun i hi hn => (k.block i (Nat.lt_of_lt_of_le hi h.size) (fun hm => hn (hT i hi hm))).trans (h.block i hi hn)⟩
theorem Only.dr {S : List Nat} {a b c : World} (h : Only S a b) (k : Dr b c) : Only S a c := by
  obtain ⟨m, rfl⟩ := k; exact h.trans ⟨rfl, rfl, rfl, Nat.le_refl _, fun _ _ _ => rfl⟩
theorem Only.drewN {S : List Nat} {a b : World} (h : Only S a b) (n : Nat) : Only S a (b.drewN n) := h.dr ⟨n, rfl⟩
theorem Only.drew {S : List Nat} {a b : World} (h : Only S a b) : Only S a b.drew := h.trans ⟨rfl, rfl, rfl, Nat.le_refl _, fun _ _ _ => rfl⟩
theorem Only.alloc {S : List Nat} {a b : World} (h : Only S a b) (o : Obj) : Only S a (b.alloc o) :=
  h.trans ⟨rfl, rfl, rfl, by simp, fun k hk _ => Below.heap_alloc _ _ _ hk⟩
theorem Only.setCell {S : List Nat} {a b : World} (h : Only S a b) {p : Addr} (hp : p.block < a.heap.size → p.block ∈ S) (u : Value) : Only S a (b.setCell p u) :=
  h.then (T := [p.block]) ⟨rfl, rfl, rfl, by simp [World.setCell], fun k hk hn => Below.heap_setCell _ _ _ _ (by simpa using hn)⟩ (by intro i hi hm; simp at hm; subst hm; exact hp hi)
theorem Kept.only {a b : World} (h : Kept a b) : Only [] a b := ⟨h.os, h.tape, h.output, h.size, fun k hk _ => h.block k hk⟩
theorem Only.kept {a b : World} (h : Only [] a b) : Kept a b := ⟨h.os, h.tape, h.output, h.size, fun k hk => h.block k hk (by simp)⟩
/-- seen from an older world, in which none of S lay -/
theorem Kept.onl {S : List Nat} {w0 a b : World} (h : Kept w0 a) (k : Only S a b) (hS : ∀ i, i ∈ S → w0.heap.size ≤ i) : Kept w0 b :=
  (h.only.then k (fun i hi hm => by have := hS i hm; omega)).kept
theorem Only.heap {S : List Nat} {a b : World} (h : Only S a b) {k : Nat} {o : Obj} (ho : a.heap[k]? = some o) (hk : k ∉ S) : b.heap[k]? = some o := by
  have hlt : k < a.heap.size := by
    rcases Nat.lt_or_ge k a.heap.size with h' | h'
    · exact h'
    · rw [Array.getElem?_eq_none h'] at ho; cases ho
  rw [h.block k hlt hk]; exact ho
theorem Only.cell {S : List Nat} {a b : World} (h : Only S a b) {p : Addr} (hp : p.block < a.heap.size) (hk : p.block ∉ S) : b.cell? p = a.cell? p := World.cell?_of_block (w := a) (h.block p.block hp hk)
/-- the blocks in which a slice's elements lie -/
def inB (a : Option Addr) (S : List Nat) : Prop := ∀ x, a = some x → x.block ∉ S
theorem Only.sl {S : List Nat} {k : IntKind} {w w' : World} {a : Option Addr} {n c : Nat} {zs : List Int} (h : Only S w w') (hs : Sl k w a n c zs) (ha : inB a S) : Sl k w' a n c zs := by
  obtain ⟨h1, h2, h3, h4⟩ := hs
  refine ⟨h1, h2, h3, fun i hi => ?_⟩
  obtain ⟨b, o, rfl, hlt, hc⟩ := h4 i hi
  exact ⟨b, o, rfl, Nat.lt_of_lt_of_le hlt h.size, (h.cell (p := ⟨b, o + i, none⟩) hlt (ha ⟨b, o, none⟩ rfl)).trans hc⟩
/-- the facts of an element's type that append asks -/
structure Elem (P : Program) (t e : TypeId) (z : Value) (size bytes : Nat) : Prop where
  ht : P.underlying t = some (.slice e)
  hi : ∃ i, P.info? e = some i ∧ i.zero = some z ∧ i.size = size ∧ i.bytes = bytes
  hzs : z.cells.size = size
  hsz : 0 < size
/-- a slice of the call's own: it lies in block g, or is nil -/
def App (w : World) (e : TypeId) (size : Nat) (v : Value) (n : Nat) (g : Option Nat) (xs : List Value) : Prop := w.ownsRow 0 e size v n xs ∧ v.ownBlock = g
theorem app_nil (w : World) (e : TypeId) (size : Nat) : App w e size (.slice none 0 0) 0 none [] := ⟨World.ownsRow_nil _ _ _ _, rfl⟩
theorem App.lt {w : World} {e : TypeId} {size n : Nat} {v : Value} {g : Option Nat} {xs : List Value} (h : App w e size v n g xs) : ∀ k, g = some k → k < w.heap.size := fun k hk => (h.1.lt k (h.2.trans hk)).2
theorem Only.app {S : List Nat} {w w' : World} {e : TypeId} {size n : Nat} {v : Value} {g : Option Nat} {xs : List Value} (h : Only S w w') (ha : App w e size v n g xs) (hg : ∀ k, g = some k → k ∉ S) : App w' e size v n g xs := by
  refine ⟨⟨ha.1.1, ?_⟩, ha.2⟩
  rcases ha.1.2 with hn | ⟨b, cap, cur, rfl, hb, hh, rest⟩
  · exact .inl hn
  · exact .inr ⟨b, cap, cur, rfl, hb, h.heap hh (hg b (by rw [← ha.2]; rfl)), rest⟩
theorem heap_setCells_in (b : Nat) (e : TypeId) (m : Nat × Nat) : ∀ (vs : List Value) (o : Nat) (w : World) (cur : Array Value), w.heap[b]? = some (.cells cur e m) → o + vs.length ≤ cur.size →
    ∃ cur', (w.setCells b o vs).heap[b]? = some (.cells cur' e m) ∧ cur'.toList = cur.toList.take o ++ vs ++ cur.toList.drop (o + vs.length)
  | [], o, w, cur, h, hs => ⟨cur, h, by simp⟩
  | v :: vs, o, w, cur, h, hs => by
    have h1 : (w.setCell ⟨b, o, none⟩ v).heap[b]? = some (.cells (cur.setIfInBounds o v) e m) := by
      simp [World.setCell, Array.getElem?_modify, h]
    simp only [List.length_cons] at hs
    obtain ⟨cur', h2, h3⟩ := heap_setCells_in b e m vs (o + 1) (w.setCell ⟨b, o, none⟩ v) (cur.setIfInBounds o v) h1 (by simp; omega)
    refine ⟨cur', h2, ?_⟩
    rw [h3]
    have hlt : o < cur.toList.length := by simp; omega
    simp only [Array.toList_setIfInBounds, List.length_cons]
    rw [List.take_succ_eq_append_getElem (by simpa using hlt), List.drop_set_of_lt (by omega)]
    simp only [List.getElem_set_self, List.append_assoc, List.singleton_append]
    rw [show (cur.toList.set o v).take o = cur.toList.take o from by rw [List.take_set_of_le (Nat.le_refl _)]]
    simp [Nat.add_assoc, Nat.add_comm 1]
theorem heap_setCells_far (b k : Nat) (hne : k ≠ b) : ∀ (vs : List Value) (o : Nat) (w : World), (w.setCells b o vs).heap[k]? = w.heap[k]?
  | [], _, _ => rfl
  | v :: vs, o, w => (heap_setCells_far b k hne vs (o + 1) (w.setCell ⟨b, o, none⟩ v)).trans (Below.heap_setCell _ _ _ _ hne)
theorem only_setCells (w : World) (b o : Nat) (vs : List Value) : Only [b] w (w.setCells b o vs) := by
  have hk := World.keptBut_setCells b (may := fun _ => True) vs o w (fun _ _ => trivial)
  refine ⟨hk.1, ?_, hk.2.1, ?_, fun k hk' hn => heap_setCells_far b k (by simpa using hn) vs o w⟩
  · clear hk
    induction vs generalizing o w with
    | nil => rfl
    | cons v vs ih => exact (ih (w.setCell ⟨b, o, none⟩ v) (o + 1)).trans rfl
  · clear hk
    induction vs generalizing o w with
    | nil => exact Nat.le_refl _
    | cons v vs ih => exact Nat.le_trans (by simp [World.setCell]) (ih (w.setCell ⟨b, o, none⟩ v) (o + 1))
/-- append, from whatever source, onto a slice of the call's own -/
theorem run_app {P : Program} (w : World) {t e : TypeId} {z : Value} {size bytes : Nat} (el : Elem P t e z size bytes) (tx ty : TypeId) (v : Value) (n : Nat) (g : Option Nat) (xs : List Value) (ha : App w e size v n g xs)
    (x : Value) (m : Nat) (news : List Value) (hs : Src P size tx x m news w) (hbytes : (n + m) * bytes ≤ 140737488355328) (h63 : n + m ≤ maxLen) :
    ∃ v' g' w', (Builtin.append_ #[t, tx] ty #[v, x]).run P w = .ok v' w' ∧ App w' e size v' (n + m) g' (xs ++ news) ∧ Only g.toList w w' ∧ (g' = g ∨ g' = some w.heap.size) := by
  obtain ⟨ht, ⟨i, hi, hz, rfl, rfl⟩, hzs, hsz⟩ := el
  obtain ⟨hown, rfl⟩ := ha
  have hlen : (xs ++ news).length = (n + m) * i.size := by rw [List.length_append, hown.1, hs.newsLen, Nat.add_mul]
  have h63' : ((n + m : Nat) : Int) ≤ 9223372036854775807 := by simp only [maxLen] at h63; omega
  have grow : ∀ (base : Option Addr) (cap : Nat), cap < n + m → (Builtin.firstCells i.size n (.slice base n cap)).run P w.drew = .ok xs.toArray w.drew → ∃ v' g' w', (Builtin.append_ #[t, tx] ty #[.slice base n cap, x]).run P w = .ok v' w' ∧ App w' e i.size v' (n + m) g' (xs ++ news) ∧ Only [] w w' ∧ g' = some w.heap.size := by
    intro base cap hcap hold
    have hr := run_append_grow_src (P := P) w t tx ty e i z ht hi hz base n cap xs hold x m news hs hcap h63' (growslice_fits (by omega) hbytes)
    have hge := grownCap_ge w (n + m) cap e
    have hcm : grownCap w (n + m) cap e ≤ maxLen := grownCap_le_maxLen w (n + m) cap e h63
    refine ⟨_, _, _, hr, ⟨⟨hlen, .inr ⟨w.heap.size, _, _, rfl, Nat.zero_le _, heap_alloc_new w.drew _, hge, hcm, ?_, ?_⟩⟩, rfl⟩, ⟨rfl, rfl, rfl, by simp, fun k hk _ => Below.heap_alloc w.drew _ k hk⟩, rfl⟩
    · simp only [Array.size_append, List.size_toArray, size_zeroCells, hzs, hlen, ← Nat.add_mul]
      congr 1
      omega
    · simp only [Array.toList_append]
      rw [← hlen]
      exact List.take_left
  rcases hown.2 with ⟨rfl, rfl⟩ | ⟨b, cap, cur, rfl, hbg, hg, hnc, hcm, hcs, htake⟩
  · have hx : xs = [] := List.eq_nil_of_length_eq_zero (by simpa using hown.1)
    subst hx
    by_cases hm : m = 0
    · subst hm
      have hn : news = [] := List.eq_nil_of_length_eq_zero (by simpa using hs.newsLen)
      subst hn
      refine ⟨.slice none 0 0, none, w, ?_, app_nil w e i.size, Only.refl _ _, .inl rfl⟩
      rcases hs.kind with ⟨e', hk⟩ | hk <;> simp [Builtin.append_, run_underlying ht, run_underlying hk, sizeOf, typeInfo, hi, hs.len, hs.cells]
    · obtain ⟨v', g', w', h1, h2, h3, h4⟩ := grow none 0 (by omega) (by simpa using run_firstCells_none w.drew i.size 0 0 0)
      exact ⟨v', g', w', h1, h2, h3.mono (by simp), .inr h4⟩
  · by_cases hroom : n + m ≤ cap
    · have hfit : n * i.size + news.length ≤ cur.size := by rw [hs.newsLen, hcs, ← Nat.add_mul]; exact Nat.mul_le_mul_right _ hroom
      have hcell : ∀ j, j < news.length → (w.cell? ⟨b, 0 + n * i.size + j, none⟩) = some (cur[n * i.size + j]?.getD undef) := by
        intro j hj
        rw [cell_of_row w b _ cur e (0, 0) hg]
        rw [Nat.zero_add, Array.getElem?_eq_getElem (by omega)]
        rfl
      have hr := run_append_room_src (P := P) w t tx ty e i ht hi b 0 n cap x m news hs hroom (fun j hj => by rw [hcell j hj]; rfl) (fun j hj => by simp [World.frozen?, hg])
      obtain ⟨cur', h2, h3⟩ := heap_setCells_in b e (0, 0) news (n * i.size) w cur hg hfit
      rw [Nat.zero_add] at hr
      have hsz' : cur'.size = cap * i.size := by
        have := congrArg List.length h3
        simp at this
        omega
      have htk : cur'.toList.take ((n + m) * i.size) = xs ++ news := by
        rw [h3, htake, ← hlen]
        exact List.take_left
      exact ⟨_, _, _, hr, ⟨⟨hlen, .inr ⟨b, cap, cur', rfl, Nat.zero_le _, h2, hroom, hcm, hsz', htk⟩⟩, rfl⟩, only_setCells w b _ news, .inl rfl⟩
    · have hold : (Builtin.firstCells i.size n (.slice (some ⟨b, 0, none⟩) n cap)).run P w.drew = .ok xs.toArray w.drew :=
        run_firstCells_some w.drew i.size n ⟨b, 0, none⟩ n cap xs hown.1 (by simpa using hown.cells (g := b) rfl)
      obtain ⟨v', g', w', h1, h2, h3, h4⟩ := grow _ cap (by omega) hold
      exact ⟨v', g', w', h1, h2, h3.mono (by simp), .inr h4⟩
theorem App.form {w : World} {e : TypeId} {size n : Nat} {v : Value} {g : Option Nat} {xs : List Value} (h : App w e size v n g xs) : ∃ a c, v = .slice a n c := by
  rcases h.1.2 with ⟨rfl, rfl⟩ | ⟨b, cap, cur, rfl, _⟩
  · exact ⟨_, _, rfl⟩
  · exact ⟨_, _, rfl⟩
theorem App.len {w : World} {e : TypeId} {size n : Nat} {v : Value} {g : Option Nat} {xs : List Value} (h : App w e size v n g xs) : xs.length = n * size := h.1.1
theorem wp_app {P : Program} {w : World} {o : Oper} {a : Act} {K : Act → World → Prop} {Q : Exit → Act → World → Prop} (s x : Operand) (t tx : TypeId)
    (ho : o.op = .call { callee := .builtin .append, args := #[s, x], argTypes := #[t, tx] })
    {e : TypeId} {z : Value} {size bytes : Nat} (el : Elem P t e z size bytes) (v : Value) (n : Nat) (g : Option Nat) (xs : List Value) (hs : a.eval s = v) (ha : App w e size v n g xs)
    (xv : Value) (m : Nat) (news : List Value) (hx : a.eval x = xv) (hsrc : Src P size tx xv m news w) (hbytes : (n + m) * bytes ≤ 140737488355328) (h63 : n + m ≤ maxLen)
    (h : ∀ a' c' g' w', App w' e size (.slice a' (n + m) c') (n + m) g' (xs ++ news) → Only g.toList w w' → (g' = g ∨ g' = some w.heap.size) → K (a.put o.dst (.slice a' (n + m) c')) w') : o.wp P a w K Q := by
  obtain ⟨v', g', w', hr, h2, h3, h4⟩ := run_app w el tx o.type v n g xs ha xv m news hsrc hbytes h63
  obtain ⟨a', c', rfl⟩ := h2.form
  unfold Oper.wp execOp
  simp only [ho, resolve, invoke, builtin, Sem.run_bind, Sem.run_pure, Result.andThen_ok, List.map_toArray, List.map_cons, List.map_nil, hs, hx, hr]
  exact h a' c' g' w' h2 h3 h4
theorem wpList_app {P : Program} {w : World} {ops : Array Oper} {rest : List Oper} {o : Oper} {a : Act} {Q : Exit → Act → World → Prop} (hgd : o.guard = none) (s x : Operand) (t tx : TypeId)
    (ho : o.op = .call { callee := .builtin .append, args := #[s, x], argTypes := #[t, tx] })
    {e : TypeId} {z : Value} {size bytes : Nat} (el : Elem P t e z size bytes) (v : Value) (n : Nat) (g : Option Nat) (xs : List Value) (hs : a.eval s = v) (ha : App w e size v n g xs)
    (xv : Value) (m : Nat) (news : List Value) (hx : a.eval x = xv) (hsrc : Src P size tx xv m news w) (hbytes : (n + m) * bytes ≤ 140737488355328) (h63 : n + m ≤ maxLen)
    (h : ∀ a' c' g' w', App w' e size (.slice a' (n + m) c') (n + m) g' (xs ++ news) → Only g.toList w w' → (g' = g ∨ g' = some w.heap.size) → wpList P ops Q rest (a.put o.dst (.slice a' (n + m) c')) w') : wpList P ops Q (o :: rest) a w :=
  wpList_plain hgd fun _ hK => wp_app s x t tx ho el v n g xs hs ha xv m news hx hsrc hbytes h63 fun a' c' g' w' h2 h3 h4 => hK _ _ (h a' c' g' w' h2 h3 h4)
theorem step_app {P : Program} {w : World} {ops : Array Oper} {o : Oper} {a : Act} {K : Act → World → Prop} {Q : Exit → Act → World → Prop} {E : Prop} (hgd : o.guard = none) (s x : Operand) (t tx : TypeId)
    (ho : o.op = .call { callee := .builtin .append, args := #[s, x], argTypes := #[t, tx] })
    {e : TypeId} {z : Value} {size bytes : Nat} (el : Elem P t e z size bytes) (v : Value) (n : Nat) (g : Option Nat) (xs : List Value) (hs : a.eval s = v) (ha : App w e size v n g xs)
    (xv : Value) (m : Nat) (news : List Value) (hx : a.eval x = xv) (hsrc : Src P size tx xv m news w) (hbytes : (n + m) * bytes ≤ 140737488355328) (h63 : n + m ≤ maxLen)
    (h : ∀ a' c' g' w', App w' e size (.slice a' (n + m) c') (n + m) g' (xs ++ news) → Only g.toList w w' → (g' = g ∨ g' = some w.heap.size) → K (a.put o.dst (.slice a' (n + m) c')) w') :
    if Region.wanted o (yielded ops a.tmps) = true then Oper.wp P o a w K Q else E := by
  have hw : Region.wanted o (yielded ops a.tmps) = true := by simp [Region.wanted, hgd]
  rw [if_pos hw]
  exact wp_app s x t tx ho el v n g xs hs ha xv m news hx hsrc hbytes h63 h
/-- what a block that was just laid hands to append -/
theorem src_block {P : Program} {size : Nat} {tx e' : TypeId} (hk : P.underlying tx = some (.slice e')) {w : World} {b : Nat} {cur : Array Value} {et : TypeId} {mk : Nat × Nat} (hb : w.heap[b]? = some (.cells cur et mk)) (n c : Nat) (hl : cur.size = n * size) (h1 : ∀ u ∈ cur.toList, u.oneCell' = true) :
    Src P size tx (.slice (some ⟨b, 0, none⟩) n c) n cur.toList w :=
  Src.ofSlice w hk ⟨b, 0, none⟩ n c cur.toList (by simpa using hl) (fun j u hu => by
    have hadd : (⟨b, 0, none⟩ : Addr).add j = ⟨b, j, none⟩ := by unfold Addr.add; split <;> simp_all
    rw [hadd, cell_of_row w b j cur et mk hb]
    simpa using hu) h1
theorem heap_keep {w : World} {p : Nat} {o : Obj} (h : w.heap[p]? = some o) (x : Obj) : (w.alloc x).heap[p]? = some o := ((Only.refl [] w).alloc x).heap h (by simp)
theorem one_cell {w : World} {p : Nat} {v : Value} {t : TypeId} (h : w.heap[p]? = some (.cells #[v] t (0, 0))) : w.cell? ⟨p, 0, none⟩ = some v := by simp [World.cell?, h]
theorem one_free {w : World} {p : Nat} {cs : Array Value} {t : TypeId} (h : w.heap[p]? = some (.cells cs t (0, 0))) (j : Nat) : w.frozen? ⟨p, j, none⟩ = false := by simp [World.frozen?, h]
theorem one_set {w : World} {p : Nat} {v : Value} {t : TypeId} {m : Nat × Nat} (h : w.heap[p]? = some (.cells #[v] t m)) (u : Value) : (w.setCell ⟨p, 0, none⟩ u).heap[p]? = some (.cells #[u] t m) := by
  simp [World.setCell, Array.getElem?_modify, h]
theorem at_cell {w : World} {p : Nat} {cs : Array Value} {t : TypeId} {m : Nat × Nat} (h : w.heap[p]? = some (.cells cs t m)) (j : Nat) (v : Value) (hv : cs[j]? = some v) : w.cell? ⟨p, j, none⟩ = some v := by simp [World.cell?, h, hv]
theorem at_set {w : World} {p : Nat} {cs : Array Value} {t : TypeId} {m : Nat × Nat} (h : w.heap[p]? = some (.cells cs t m)) (j : Nat) (u : Value) : (w.setCell ⟨p, j, none⟩ u).heap[p]? = some (.cells (cs.setIfInBounds j u) t m) := by
  simp [World.setCell, Array.getElem?_modify, h]
theorem lt_heap {w : World} {p : Nat} {o : Obj} (h : w.heap[p]? = some o) : p < w.heap.size := by
  rcases Nat.lt_or_ge p w.heap.size with h' | h'
  · exact h'
  · rw [Array.getElem?_eq_none h'] at h; cases h
/-- where a slice that was cut begins (the model keeps the old place where nothing is left) -/
def cutA (a : Option Addr) (c lo size : Nat) : Option Addr := if c = lo then a else a.map (·.add (lo * size))
theorem cutA_inB {a : Option Addr} {S : List Nat} (h : inB a S) (c lo size : Nat) : inB (cutA a c lo size) S := by
  intro x hx
  unfold cutA at hx
  split at hx
  · exact h x hx
  · cases a with
    | none => simp at hx
    | some y =>
      simp at hx
      subst hx
      have := h y rfl
      unfold Addr.add; split <;> exact this
theorem add_one (b o i : Nat) : (⟨b, o, none⟩ : Addr).add i = ⟨b, o + i, none⟩ := by unfold Addr.add; split <;> simp_all
theorem sl_cut {k : IntKind} {w : World} {a : Option Addr} {n c : Nat} {zs : List Int} (h : Sl k w a n c zs) (lo hi : Nat) (h1 : lo ≤ hi) (h2 : hi ≤ n) : Sl k w (cutA a c lo 1) (hi - lo) (c - lo) ((zs.take hi).drop lo) := by
  obtain ⟨hl, hnc, hm, hc⟩ := h
  refine ⟨by simp; omega, by omega, by omega, fun i hi' => ?_⟩
  obtain ⟨b, o, rfl, hlt, hcell⟩ := hc (lo + i) (by omega)
  refine ⟨b, o + lo, ?_, hlt, ?_⟩
  · unfold cutA; rw [if_neg (by omega)]; simp [add_one]
  · rw [Nat.add_assoc, hcell]
    congr 2
    rw [List.getD_eq_getElem?_getD, List.getD_eq_getElem?_getD, List.getElem?_drop, List.getElem?_take, if_pos (by omega)]
theorem sl_take {k : IntKind} {w : World} {a : Option Addr} {n c : Nat} {zs : List Int} (h : Sl k w a n c zs) (hi : Nat) (h2 : hi ≤ n) : Sl k w a hi c (zs.take hi) := by
  obtain ⟨hl, hnc, hm, hc⟩ := h
  refine ⟨by simp; omega, by omega, by omega, fun i hi' => ?_⟩
  obtain ⟨b, o, rfl, hlt, hcell⟩ := hc i (by omega)
  refine ⟨b, o, rfl, hlt, ?_⟩
  rw [hcell]; congr 2
  rw [List.getD_eq_getElem?_getD, List.getD_eq_getElem?_getD, List.getElem?_take, if_pos (by omega)]
section
variable {P : Program} {t e : TypeId} {z : Value} {size bytes : Nat}
theorem elem_of (el : Elem P t e z size bytes) : P.underlying t = some (.slice (P.elem t)) ∧ P.elem t = e := by
  have h := el.ht
  have : P.elem t = e := by simp [Program.elem, h]
  exact ⟨by rw [this]; exact h, this⟩
theorem run_cut_l (el : Elem P t e z size bytes) (a : Option Addr) (n c : Nat) (k : IntKind) (lo : Nat) (x : Int) (hx : x = lo) (h : lo ≤ n) (w : World) :
    (Instr.slice t (.slice a n c) (some (.int k x)) none none).run P w = .ok (.slice (cutA a c lo size) (n - lo) (c - lo)) w := by
  obtain ⟨i, hi, hz, hs, hb⟩ := el.hi
  subst hx
  have hp := (elem_of el).2
  rw [run_slice_l w t a n c (elem_of el).1 k lo (by omega) (by omega)]
  simp [sizeOf, typeInfo, hp, hi, hs, sliced, cutA]
theorem run_cut_lh (el : Elem P t e z size bytes) (a : Option Addr) (n c : Nat) (k k' : IntKind) (lo hi : Nat) (x y : Int) (hx : x = lo) (hy : y = hi) (h : lo ≤ hi) (h2 : hi ≤ c) (w : World) :
    (Instr.slice t (.slice a n c) (some (.int k x)) (some (.int k' y)) none).run P w = .ok (.slice (cutA a c lo size) (hi - lo) (c - lo)) w := by
  obtain ⟨i, hi', hz, hs, hb⟩ := el.hi
  subst hx hy
  have hp := (elem_of el).2
  rw [run_slice_lh w t a n c (elem_of el).1 k k' lo hi (by omega) (by omega) (by omega)]
  simp [sizeOf, typeInfo, hp, hi', hs, sliced, cutA]
theorem run_cut_h (el : Elem P t e z size bytes) (a : Option Addr) (n c : Nat) (k' : IntKind) (hi : Nat) (y : Int) (hy : y = hi) (h2 : hi ≤ c) (w : World) :
    (Instr.slice t (.slice a n c) none (some (.int k' y)) none).run P w = .ok (.slice a hi c) w := by
  obtain ⟨i, hi', hz, hs, hb⟩ := el.hi
  subst hy
  have hp := (elem_of el).2
  rw [run_slice_h w t a n c (elem_of el).1 k' hi (by omega) (by omega)]
  have hm : (a.map fun x => x.add 0) = a := by cases a <;> simp [Addr.add]
  simp [sizeOf, typeInfo, hp, hi', hs, sliced]
  intro _; exact hm
end
/-- a slice that the call may append to: its own, or one that is full (whatever marks its block bears) -/
def AppF (w : World) (e : TypeId) (size : Nat) (v : Value) (n : Nat) (g : Option Nat) (xs : List Value) : Prop :=
  App w e size v n g xs ∨ ∃ b o : Nat, v = .slice (some ⟨b, o, none⟩) n n ∧ g = some b ∧ n ≤ maxLen ∧ xs.length = n * size ∧ b < w.heap.size ∧ ∀ j u, xs[j]? = some u → w.cell? ⟨b, o + j, none⟩ = some u
theorem AppF.len {w : World} {e : TypeId} {size n : Nat} {v : Value} {g : Option Nat} {xs : List Value} (h : AppF w e size v n g xs) : xs.length = n * size := by
  rcases h with h | ⟨b, o, _, _, _, h, _⟩
  · exact h.len
  · exact h
theorem AppF.form {w : World} {e : TypeId} {size n : Nat} {v : Value} {g : Option Nat} {xs : List Value} (h : AppF w e size v n g xs) : ∃ a c, v = .slice a n c := by
  rcases h with h | ⟨b, o, rfl, _⟩
  · exact h.form
  · exact ⟨_, _, rfl⟩
theorem AppF.lt {w : World} {e : TypeId} {size n : Nat} {v : Value} {g : Option Nat} {xs : List Value} (h : AppF w e size v n g xs) : ∀ k, g = some k → k < w.heap.size := by
  intro k hk
  rcases h with h | ⟨b, o, _, rfl, _, _, hlt, _⟩
  · exact h.lt k hk
  · injection hk with hk; omega
theorem Only.appF {S : List Nat} {w w' : World} {e : TypeId} {size n : Nat} {v : Value} {g : Option Nat} {xs : List Value} (h : Only S w w') (ha : AppF w e size v n g xs) (hg : ∀ k, g = some k → k ∉ S) : AppF w' e size v n g xs := by
  rcases ha with ha | ⟨b, o, hv, hga, hm, hl, hlt, hc⟩
  · exact .inl (h.app ha hg)
  · exact .inr ⟨b, o, hv, hga, hm, hl, Nat.lt_of_lt_of_le hlt h.size, fun j u hu => (h.cell (p := ⟨b, o + j, none⟩) hlt (hg _ hga)).trans (hc j u hu)⟩
theorem run_appF {P : Program} (w : World) {t e : TypeId} {z : Value} {size bytes : Nat} (el : Elem P t e z size bytes) (tx ty : TypeId) (v : Value) (n : Nat) (g : Option Nat) (xs : List Value) (ha : AppF w e size v n g xs)
    (x : Value) (m : Nat) (news : List Value) (hs : Src P size tx x m news w) (hbytes : (n + m) * bytes ≤ 140737488355328) (h63 : n + m ≤ maxLen) :
    ∃ v' g' w', (Builtin.append_ #[t, tx] ty #[v, x]).run P w = .ok v' w' ∧ AppF w' e size v' (n + m) g' (xs ++ news) ∧ Only g.toList w w' ∧ (g' = g ∨ g' = some w.heap.size) := by
  rcases ha with ha | ⟨b, o, rfl, rfl, hnm, hl, hlt, hc⟩
  · obtain ⟨v', g', w', h1, h2, h3, h4⟩ := run_app w el tx ty v n g xs ha x m news hs hbytes h63
    exact ⟨v', g', w', h1, .inl h2, h3, h4⟩
  · obtain ⟨ht, ⟨i, hi, hz, rfl, rfl⟩, hzs, hsz⟩ := el
    by_cases hm : m = 0
    · subst hm
      have hn : news = [] := List.eq_nil_of_length_eq_zero (by simpa using hs.newsLen)
      subst hn
      refine ⟨.slice (some ⟨b, o, none⟩) n n, some b, w, ?_, .inr ⟨b, o, rfl, rfl, hnm, by simpa using hl, hlt, by simpa using hc⟩, Only.refl _ _, .inl rfl⟩
      rcases hs.kind with ⟨e', hk⟩ | hk <;> simp [Builtin.append_, run_underlying ht, run_underlying hk, sizeOf, typeInfo, hi, hs.len, hs.cells, storeCells]
    · have hlen : (xs ++ news).length = (n + m) * i.size := by rw [List.length_append, hl, hs.newsLen, Nat.add_mul]
      have h63' : ((n + m : Nat) : Int) ≤ 9223372036854775807 := by simp only [maxLen] at h63; omega
      have hold : (Builtin.firstCells i.size n (.slice (some ⟨b, o, none⟩) n n)).run P w.drew = .ok xs.toArray w.drew := run_firstCells_some w.drew i.size n ⟨b, o, none⟩ n n xs hl (by intro j u hu; rw [add_one]; simpa using hc j u hu)
      have hr := run_append_grow_src (P := P) w t tx ty e i z ht hi hz (some ⟨b, o, none⟩) n n xs hold x m news hs (by omega) h63' (growslice_fits (by omega) hbytes)
      have hge := grownCap_ge w (n + m) n e
      have hcm : grownCap w (n + m) n e ≤ maxLen := grownCap_le_maxLen w (n + m) n e h63
      refine ⟨_, _, _, hr, .inl ⟨⟨hlen, .inr ⟨w.heap.size, _, _, rfl, Nat.zero_le _, heap_alloc_new w.drew _, hge, hcm, ?_, ?_⟩⟩, rfl⟩, ⟨rfl, rfl, rfl, by simp, fun k hk _ => Below.heap_alloc w.drew _ k hk⟩, .inr rfl⟩
      · simp only [Array.size_append, List.size_toArray, size_zeroCells, hzs, hlen, ← Nat.add_mul]
        congr 1
        omega
      · simp only [Array.toList_append]
        rw [← hlen]
        exact List.take_left
theorem wp_appF {P : Program} {w : World} {o : Oper} {a : Act} {K : Act → World → Prop} {Q : Exit → Act → World → Prop} (s x : Operand) (t tx : TypeId)
    (ho : o.op = .call { callee := .builtin .append, args := #[s, x], argTypes := #[t, tx] })
    {e : TypeId} {z : Value} {size bytes : Nat} (el : Elem P t e z size bytes) (v : Value) (n : Nat) (g : Option Nat) (xs : List Value) (hs : a.eval s = v) (ha : AppF w e size v n g xs)
    (xv : Value) (m : Nat) (news : List Value) (hx : a.eval x = xv) (hsrc : Src P size tx xv m news w) (hbytes : (n + m) * bytes ≤ 140737488355328) (h63 : n + m ≤ maxLen)
    (h : ∀ a' c' g' w', AppF w' e size (.slice a' (n + m) c') (n + m) g' (xs ++ news) → Only g.toList w w' → (g' = g ∨ g' = some w.heap.size) → K (a.put o.dst (.slice a' (n + m) c')) w') : o.wp P a w K Q := by
  obtain ⟨v', g', w', hr, h2, h3, h4⟩ := run_appF w el tx o.type v n g xs ha xv m news hsrc hbytes h63
  obtain ⟨a', c', rfl⟩ := h2.form
  unfold Oper.wp execOp
  simp only [ho, resolve, invoke, builtin, Sem.run_bind, Sem.run_pure, Result.andThen_ok, List.map_toArray, List.map_cons, List.map_nil, hs, hx, hr]
  exact h a' c' g' w' h2 h3 h4
theorem wpList_appF {P : Program} {w : World} {ops : Array Oper} {rest : List Oper} {o : Oper} {a : Act} {Q : Exit → Act → World → Prop} (hgd : o.guard = none) (s x : Operand) (t tx : TypeId)
    (ho : o.op = .call { callee := .builtin .append, args := #[s, x], argTypes := #[t, tx] })
    {e : TypeId} {z : Value} {size bytes : Nat} (el : Elem P t e z size bytes) (v : Value) (n : Nat) (g : Option Nat) (xs : List Value) (hs : a.eval s = v) (ha : AppF w e size v n g xs)
    (xv : Value) (m : Nat) (news : List Value) (hx : a.eval x = xv) (hsrc : Src P size tx xv m news w) (hbytes : (n + m) * bytes ≤ 140737488355328) (h63 : n + m ≤ maxLen)
    (h : ∀ a' c' g' w', AppF w' e size (.slice a' (n + m) c') (n + m) g' (xs ++ news) → Only g.toList w w' → (g' = g ∨ g' = some w.heap.size) → wpList P ops Q rest (a.put o.dst (.slice a' (n + m) c')) w') : wpList P ops Q (o :: rest) a w :=
  wpList_plain hgd fun _ hK => wp_appF s x t tx ho el v n g xs hs ha xv m news hx hsrc hbytes h63 fun a' c' g' w' h2 h3 h4 => hK _ _ (h a' c' g' w' h2 h3 h4)
end Go.Proofs.YteaepgbakcifkaaDoor
