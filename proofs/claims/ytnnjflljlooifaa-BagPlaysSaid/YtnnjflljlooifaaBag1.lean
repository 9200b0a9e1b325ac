/- The bag: what is under way, by its bytes; New, Len, Put. -/
import Derived.Test.YtnnjflljlooifaaMsC
import Derived.Test.YtnnjflljlooifaaBagDel
import Derived.Deep.RegionHeld3
import Derived.Deep.CutRange
set_option linter.unusedVariables false
set_option linter.unusedSimpArgs false
namespace Go.Proofs.Ytnnjflljlooifaa
open Go.RowKit
theorem kind_apart {k : IntKind} {w w' : World} {S : List Nat} {a : Option Addr} {n c : Nat} {zs : List Int} (h : Only S w w') (hs : Sl k w a n c zs) (hp : ∀ p ∈ S, ∃ cs t m, w.heap[p]? = some (.cells cs t m) ∧ ∀ x ∈ cs.toList, ∀ v, x ≠ .int k v) : Sl k w' a n c zs := by
  obtain ⟨h1, h2, h3, h4⟩ := hs
  refine ⟨h1, h2, h3, fun i hi => ?_⟩
  obtain ⟨b, o, rfl, hlt, hq⟩ := h4 i hi
  refine ⟨b, o, rfl, Nat.lt_of_lt_of_le hlt h.size, (h.cell (p := ⟨b, o + i, none⟩) hlt ?_).trans hq⟩
  intro hb
  obtain ⟨cs, t, m, hc, hx⟩ := hp b hb
  have h5 : cs[o + i]? = some (.int k (zs.getD i 0)) := by simpa [World.cell?, hc] using hq
  exact hx _ (Array.mem_toList_iff.2 (Array.mem_of_getElem? h5)) _ rfl
/-- a slice of bytes, as a value -/
structure BV where
  a : Option Addr
  n : Nat
  c : Nat
def BV.v (r : BV) : Value := .slice r.a r.n r.c
def bvs (R : List BV) : List Value := R.map BV.v
theorem bvs_one (R : List BV) : ∀ x ∈ bvs R, x.oneCell' = true := by
  intro x hx
  obtain ⟨r, _, rfl⟩ := List.mem_map.1 hx
  rfl
/-- an ack: its place, and to whom -/
def ackB (x : Int × Int) : List Int := encM 2 (1 - x.2) 1 x.1 0 [] [] 0
def AckTo (x : Int × Int) : Prop := x.2 = 0 ∨ x.2 = 1
def ackOk (x : Int × Int) : Bool := decide (0 ≤ x.1 ∧ x.1 ≤ 17592186044415)
/-- what a bag's row holds: bytes that lie elsewhere -/
def RowAt (w : World) (S : List Nat) (R : List BV) (A : List (Int × Int)) : Prop := ∀ (i : Nat) (r : BV) (x : Int × Int), R[i]? = some r → A[i]? = some x → Sl .u8 w r.a r.n r.c (ackB x) ∧ ∀ y, r.a = some y → y.block < w.heap.size ∧ y.block ∉ S
theorem RowAt.only {w w' : World} {S T : List Nat} {R : List BV} {A : List (Int × Int)} (h : RowAt w S R A) (k : Only S w w') (hT : ∀ i, i < w.heap.size → i ∈ T → i ∈ S) : RowAt w' T R A := fun i r x h1 h2 => by
  obtain ⟨g1, g2⟩ := h i r x h1 h2
  refine ⟨k.sl g1 fun y hy => (g2 y hy).2, fun y hy => ⟨Nat.lt_of_lt_of_le (g2 y hy).1 k.size, fun hm => (g2 y hy).2 (hT _ (g2 y hy).1 hm)⟩⟩
theorem ackB_pos (x : Int × Int) : 0 < (ackB x).length := by
  unfold ackB encM
  rw [show encU 2 = [2] by decide +kernel]
  simp
structure BagAt (w : World) (p : Nat) (g : Option Nat) (a : Option Addr) (c : Nat) (R : List BV) (A : List (Int × Int)) : Prop where
  box : w.heap[p]? = some (.cells #[.slice a A.length c] 51 (0, 0))
  app : App w 53 1 (.slice a A.length c) A.length g (bvs R)
  row : RowAt w (p :: g.toList) R A
/-- a bag made in X holds A now -/
structure BagW (X w : World) (p : Nat) (g : Option Nat) (A : List (Int × Int)) : Prop where
  ex : ∃ a c R, BagAt w p g a c R A
  only : Only [p] X w
  pX : p < X.heap.size
  went : ∀ k, g = some k → X.heap.size ≤ k
  ok : ∀ x ∈ A, ackOk x = true ∧ AckTo x
  few : A.length ≤ 64
theorem BagAt.keep {w w' : World} {p : Nat} {g : Option Nat} {a : Option Addr} {c : Nat} {R : List BV} {A : List (Int × Int)} (h : BagAt w p g a c R A) (k : Kept w w') : BagAt w' p g a c R A :=
  ⟨k.only.heap h.box (by simp), k.only.app h.app (by simp), h.row.only (k.only.mono (by simp)) (by simp)⟩
theorem BagW.keep {X w w' : World} {p : Nat} {g : Option Nat} {A : List (Int × Int)} (h : BagW X w p g A) (k : Kept w w') : BagW X w' p g A := by
  obtain ⟨⟨a, c, R, h1⟩, h2, h3, h4, h5, h6⟩ := h
  exact ⟨⟨a, c, R, h1.keep k⟩, h2.then k.only (by simp), h3, h4, h5, h6⟩
theorem BagW.kept {W X w : World} {p : Nat} {g : Option Nat} {A : List (Int × Int)} (h : BagW X w p g A) (k : Kept W X) (hp : W.heap.size ≤ p) : Kept W w := k.onl h.only (by intro i hi; simp at hi; omega)
theorem App.heapAt {w : World} {e : TypeId} {size n : Nat} {v : Value} {k : Nat} {xs : List Value} (h : App w e size v n (some k) xs) : ∃ cur c, w.heap[k]? = some (.cells cur e (0, 0)) ∧ cur.size = c * size ∧ cur.toList.take (n * size) = xs ∧ v = .slice (some ⟨k, 0, none⟩) n c ∧ n ≤ c := by
  obtain ⟨⟨h1, h2⟩, h3⟩ := h
  rcases h2 with ⟨rfl, h0⟩ | ⟨b, cap, cur, rfl, _, hh, hnc, hcm, hcs, ht⟩
  · cases h3
  · injection h3 with h3
    subst h3
    exact ⟨cur, cap, hh, hcs, ht, rfl, hnc⟩
/-- rows of another kind lie elsewhere -/
theorem BagAt.other {w w' : World} {p : Nat} {g : Option Nat} {a : Option Addr} {c : Nat} {R : List BV} {A : List (Int × Int)} (h : BagAt w p g a c R A) (k : Only (p :: g.toList) w w') {e : TypeId} {size n : Nat} {v : Value} {g2 : Option Nat} {xs : List Value} (ha : App w e size v n g2 xs) (h1 : e ≠ 51) (h2 : e ≠ 53) : App w' e size v n g2 xs := by
  refine k.app ha fun q hq hm => ?_
  subst hq
  obtain ⟨cur, c', hc, _⟩ := ha.heapAt
  rcases List.mem_cons.1 hm with rfl | hm
  · have := h.box
    rw [hc] at this
    injection this with this
    injection this with _ this _
    exact h1 this
  · cases g with
    | none => simp at hm
    | some b =>
      obtain rfl : q = b := by simpa using hm
      obtain ⟨cur2, c2, hc2, _⟩ := h.app.heapAt
      rw [hc] at hc2
      injection hc2 with this
      injection this with _ this _
      exact h2 this
theorem bag_new (w : World) : Calls Try.prog 7 #[] w fun e w' => e = .returned (.pointer (some ⟨w.heap.size, 0, none⟩)) ∧ BagW w' w' w.heap.size none [] ∧ Kept w w' := by
  go_enter Try.func7, Try.ntmps7
  go_wp2
  go_ret
  refine ⟨rfl, ⟨⟨none, 0, [], heap_alloc_new w _, app_nil _ _ _, fun i r x h1 => by cases h1⟩, Only.refl _ _, by simp, (by intro k hk; cases hk), by simp, by simp⟩, kept_al _ _⟩
theorem bag_len {X : World} (p : Nat) (g : Option Nat) (A : List (Int × Int)) (w : World) (h : BagW X w p g A) : Calls Try.prog 12 #[.pointer (some ⟨p, 0, none⟩)] w fun e w' => e = .returned (.int .i64 A.length) ∧ w = w' := by
  obtain ⟨⟨a, c, R, h1⟩, _⟩ := h
  have hc := at_cell h1.box 0 _ rfl
  clear h1
  go_enter Try.func12, Try.ntmps12
  go_wp2
  go_ret
  exact ⟨rfl, rfl⟩
theorem ack_good (n d : Int) (ht : d = 0 ∨ d = 1) (la ta : Option Addr) (lc tc : Nat) : goodM ⟨2, 1 - d, d, 1, n, 0, la, 0, lc, ta, 0, tc, 0⟩ (lens []) [] = ackOk (n, d) := by
  unfold goodM ackOk
  rcases ht with rfl | rfl <;> simp [lens]
theorem law_ack (n d : Int) (w : World) (ht : d = 0 ∨ d = 1) : Calls Try.prog 9 #[.int .i64 n, .int .i64 d] w fun e w' => e = .returned (.agg #[.int .i64 2, .int .i64 (1 - d), .int .i64 d, .int .i64 1, .int .i64 n, .int .i64 0, .slice none 0 0, .slice none 0 0, .int .i64 0]) ∧ Kept w w' := by
  have hw : IntKind.i64.wrap (1 - d) = 1 - d := by rw [IntKind.wrap_i64]; omega
  have h0 := heap_alloc_new w (.cells #[.int .i64 2, .int .i64 (1 - d), .int .i64 d, .int .i64 1, .int .i64 n, .int .i64 0, .slice none 0 0, .slice none 0 0, .int .i64 0] 33)
  obtain ⟨q0, q1, q2, q3, q4, q5, q6, q7, q8⟩ := nine_cells h0
  have g0 := heap_alloc_new w (.cells #[.int .i64 0, .int .i64 0, .int .i64 0, .int .i64 0, .int .i64 0, .int .i64 0, .slice none 0 0, .slice none 0 0, .int .i64 0] 33)
  go_enter Try.func9, Try.ntmps9
  go_wp2
  exact bodyPost_ret (v := .agg #[.int .i64 2, .int .i64 (1 - d), .int .i64 d, .int .i64 1, .int .i64 n, .int .i64 0, .slice none 0 0, .slice none 0 0, .int .i64 0]) (by simp [results, Try.results9, go_sem, q0, q1, q2, q3, q4, q5, q6, q7, q8]) rfl ⟨rfl, kept_al _ _⟩
end Go.Proofs.Ytnnjflljlooifaa
