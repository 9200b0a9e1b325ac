/- Records, messages, boxes of nine cells. -/
import Derived.Test.YtnnjflljlooifaaMsgGood2
set_option linter.unusedVariables false
set_option linter.unusedSimpArgs false
namespace Go.Proofs.Ytnnjflljlooifaa
open Go.RowKit
theorem new_at {w : World} {q : Nat} (x : Obj) (hq : q = w.heap.size) : (w.alloc x).heap[q]? = some x := by subst hq; exact heap_alloc_new w x
theorem nine_set {w : World} {p : Nat} {t : TypeId} {m : Nat × Nat} {v0 v1 v2 v3 v4 v5 v6 v7 v8 : Value} (h : w.heap[p]? = some (.cells #[v0, v1, v2, v3, v4, v5, v6, v7, v8] t m)) (u0 u1 u2 u3 u4 u5 u6 u7 u8 : Value) :
    (((((((((w.setCell ⟨p, 0, none⟩ u0).setCell ⟨p, 1, none⟩ u1).setCell ⟨p, 2, none⟩ u2).setCell ⟨p, 3, none⟩ u3).setCell ⟨p, 4, none⟩ u4).setCell ⟨p, 5, none⟩ u5).setCell ⟨p, 6, none⟩ u6).setCell ⟨p, 7, none⟩ u7).setCell ⟨p, 8, none⟩ u8).heap[p]? = some (.cells #[u0, u1, u2, u3, u4, u5, u6, u7, u8] t m) := by
  have h0 : (w.setCell ⟨p, 0, none⟩ u0).heap[p]? = some (.cells #[u0, v1, v2, v3, v4, v5, v6, v7, v8] t m) := at_set h 0 u0
  have h1 : ((w.setCell ⟨p, 0, none⟩ u0).setCell ⟨p, 1, none⟩ u1).heap[p]? = some (.cells #[u0, u1, v2, v3, v4, v5, v6, v7, v8] t m) := at_set h0 1 u1
  have h2 : (((w.setCell ⟨p, 0, none⟩ u0).setCell ⟨p, 1, none⟩ u1).setCell ⟨p, 2, none⟩ u2).heap[p]? = some (.cells #[u0, u1, u2, v3, v4, v5, v6, v7, v8] t m) := at_set h1 2 u2
  have h3 : ((((w.setCell ⟨p, 0, none⟩ u0).setCell ⟨p, 1, none⟩ u1).setCell ⟨p, 2, none⟩ u2).setCell ⟨p, 3, none⟩ u3).heap[p]? = some (.cells #[u0, u1, u2, u3, v4, v5, v6, v7, v8] t m) := at_set h2 3 u3
  have h4 : (((((w.setCell ⟨p, 0, none⟩ u0).setCell ⟨p, 1, none⟩ u1).setCell ⟨p, 2, none⟩ u2).setCell ⟨p, 3, none⟩ u3).setCell ⟨p, 4, none⟩ u4).heap[p]? = some (.cells #[u0, u1, u2, u3, u4, v5, v6, v7, v8] t m) := at_set h3 4 u4
  have h5 : ((((((w.setCell ⟨p, 0, none⟩ u0).setCell ⟨p, 1, none⟩ u1).setCell ⟨p, 2, none⟩ u2).setCell ⟨p, 3, none⟩ u3).setCell ⟨p, 4, none⟩ u4).setCell ⟨p, 5, none⟩ u5).heap[p]? = some (.cells #[u0, u1, u2, u3, u4, u5, v6, v7, v8] t m) := at_set h4 5 u5
  have h6 : (((((((w.setCell ⟨p, 0, none⟩ u0).setCell ⟨p, 1, none⟩ u1).setCell ⟨p, 2, none⟩ u2).setCell ⟨p, 3, none⟩ u3).setCell ⟨p, 4, none⟩ u4).setCell ⟨p, 5, none⟩ u5).setCell ⟨p, 6, none⟩ u6).heap[p]? = some (.cells #[u0, u1, u2, u3, u4, u5, u6, v7, v8] t m) := at_set h5 6 u6
  have h7 : ((((((((w.setCell ⟨p, 0, none⟩ u0).setCell ⟨p, 1, none⟩ u1).setCell ⟨p, 2, none⟩ u2).setCell ⟨p, 3, none⟩ u3).setCell ⟨p, 4, none⟩ u4).setCell ⟨p, 5, none⟩ u5).setCell ⟨p, 6, none⟩ u6).setCell ⟨p, 7, none⟩ u7).heap[p]? = some (.cells #[u0, u1, u2, u3, u4, u5, u6, u7, v8] t m) := at_set h6 7 u7
  have h8 : (((((((((w.setCell ⟨p, 0, none⟩ u0).setCell ⟨p, 1, none⟩ u1).setCell ⟨p, 2, none⟩ u2).setCell ⟨p, 3, none⟩ u3).setCell ⟨p, 4, none⟩ u4).setCell ⟨p, 5, none⟩ u5).setCell ⟨p, 6, none⟩ u6).setCell ⟨p, 7, none⟩ u7).setCell ⟨p, 8, none⟩ u8).heap[p]? = some (.cells #[u0, u1, u2, u3, u4, u5, u6, u7, u8] t m) := at_set h7 8 u8
  exact h8
theorem nine_cells {w : World} {p : Nat} {t : TypeId} {m : Nat × Nat} {v0 v1 v2 v3 v4 v5 v6 v7 v8 : Value} (h : w.heap[p]? = some (.cells #[v0, v1, v2, v3, v4, v5, v6, v7, v8] t m)) :
    w.cell? ⟨p, 0, none⟩ = some v0 ∧ w.cell? ⟨p, 1, none⟩ = some v1 ∧ w.cell? ⟨p, 2, none⟩ = some v2 ∧ w.cell? ⟨p, 3, none⟩ = some v3 ∧ w.cell? ⟨p, 4, none⟩ = some v4 ∧ w.cell? ⟨p, 5, none⟩ = some v5 ∧ w.cell? ⟨p, 6, none⟩ = some v6 ∧ w.cell? ⟨p, 7, none⟩ = some v7 ∧ w.cell? ⟨p, 8, none⟩ = some v8 := ⟨at_cell h 0 _ rfl, at_cell h 1 _ rfl, at_cell h 2 _ rfl, at_cell h 3 _ rfl, at_cell h 4 _ rfl, at_cell h 5 _ rfl, at_cell h 6 _ rfl, at_cell h 7 _ rfl, at_cell h 8 _ rfl⟩
theorem only_set9 (w : World) (p : Nat) (u0 u1 u2 u3 u4 u5 u6 u7 u8 : Value) : Only [p] w (((((((((w.setCell ⟨p, 0, none⟩ u0).setCell ⟨p, 1, none⟩ u1).setCell ⟨p, 2, none⟩ u2).setCell ⟨p, 3, none⟩ u3).setCell ⟨p, 4, none⟩ u4).setCell ⟨p, 5, none⟩ u5).setCell ⟨p, 6, none⟩ u6).setCell ⟨p, 7, none⟩ u7).setCell ⟨p, 8, none⟩ u8) := ((((((((((Only.refl [p] w).setCell (fun _ => by simp) u0).setCell (fun _ => by simp) u1).setCell (fun _ => by simp) u2).setCell (fun _ => by simp) u3).setCell (fun _ => by simp) u4).setCell (fun _ => by simp) u5).setCell (fun _ => by simp) u6).setCell (fun _ => by simp) u7).setCell (fun _ => by simp) u8)
/-- a record as its value: the stamp, the slice of its bytes -/
structure RV where
  at' : Int
  a : Option Addr
  n : Nat
  c : Nat
def RV.cs (r : RV) : List Value := [.int .u64 r.at', .slice r.a r.n r.c]
def rvs (R : List RV) : List Value := R.flatMap RV.cs
theorem rvs_len (R : List RV) : (rvs R).length = R.length * 2 := by induction R with | nil => rfl | cons x l ih => simp [rvs, RV.cs] at ih ⊢; omega
theorem rvs_append (l m : List RV) : rvs (l ++ m) = rvs l ++ rvs m := by simp [rvs]
theorem rvs_at : ∀ (l : List RV) (i : Nat) (x : RV), l[i]? = some x → (rvs l)[i * 2]? = some (.int .u64 x.at') ∧ (rvs l)[i * 2 + 1]? = some (.slice x.a x.n x.c)
  | [], i, x, h => by cases h
  | y :: l, 0, x, h => by
    obtain rfl : y = x := by simpa using h
    exact ⟨rfl, rfl⟩
  | y :: l, i + 1, x, h => by
    have := rvs_at l i x (by simpa using h)
    simpa [rvs, RV.cs, Nat.add_mul] using this
theorem elemR : Elem Try.prog 28 58 (.agg #[.int .u64 0, .slice none 0 0]) 2 32 :=
  ⟨Try.underlying28, info_parts (by kernel_rfl), rfl, by omega⟩
def rvOk (r : RV) : Prop := 0 ≤ r.at' ∧ r.at' ≤ 18446744073709551615 ∧ r.n ≤ maxLen
/-- a slice of records, value by value -/
def SlQ (w : World) (a : Option Addr) (n c : Nat) (R : List RV) : Prop :=
  R.length = n ∧ n ≤ c ∧ c ≤ maxLen ∧ ∀ (i : Nat) (r : RV), R[i]? = some r → rvOk r ∧ ∃ b o, a = some ⟨b, o, none⟩ ∧ w.cell? ⟨b, o + i * 2, none⟩ = some (.int .u64 r.at') ∧ w.cell? ⟨b, o + i * 2 + 1, none⟩ = some (.slice r.a r.n r.c)
theorem SlQ.kept {w w' : World} {a : Option Addr} {k c : Nat} {R : List RV} (h : Kept w w') (hs : SlQ w a k c R) : SlQ w' a k c R :=
  ⟨hs.1, hs.2.1, hs.2.2.1, fun i r hi => by obtain ⟨hb, b, o, h1, h2, h3⟩ := hs.2.2.2 i r hi; exact ⟨hb, b, o, h1, h.cel h2, h.cel h3⟩⟩
def rvM (R : List RV) : List (Int × Nat) := R.map fun r => (r.at', r.n)
theorem SlQ.slM {w : World} {a : Option Addr} {k c : Nat} {R : List RV} (hs : SlQ w a k c R) : SlM w a k c (rvM R) := by
  refine ⟨by unfold rvM; rw [List.length_map]; exact hs.1, hs.2.1, hs.2.2.1, fun i l hi => ?_⟩
  unfold rvM at hi
  rw [List.getElem?_map] at hi
  obtain ⟨r, hr, rfl⟩ := Option.map_eq_some_iff.1 hi
  obtain ⟨hb, b, o, h1, h2, h3⟩ := hs.2.2.2 i r hr
  exact ⟨⟨hb.1, hb.2.1, hb.2.2⟩, b, o, _, _, h1, h2, h3⟩
theorem app_slQ {w : World} {a : Option Addr} {k c : Nat} {g : Option Nat} {R : List RV} (h : App w 58 2 (.slice a k c) k g (rvs R)) (hr : ∀ r ∈ R, rvOk r) : SlQ w a k c R := by
  have hl : R.length = k := by have := h.len; rw [rvs_len] at this; omega
  obtain ⟨⟨h1, h2⟩, h3⟩ := h
  rcases h2 with ⟨hn, rfl⟩ | ⟨b, cap, cur, hv, _, hh, hnc, hcm, hcs, htake⟩
  · injection hn with e1 e2 e3
    subst e3
    have : R = [] := List.eq_nil_of_length_eq_zero hl
    subst this
    exact ⟨rfl, Nat.le_refl _, by unfold maxLen; omega, fun i l hi => by cases hi⟩
  · injection hv with e1 e2 e3
    subst e1 e3
    refine ⟨hl, hnc, hcm, fun i r hi => ?_⟩
    obtain ⟨q1, q2⟩ := rvs_at R i r hi
    have hc : ∀ j v, (rvs R)[j]? = some v → w.cell? ⟨b, 0 + j, none⟩ = some v := fun j v hj => by
      rw [cell_of_row w b _ cur _ _ hh, Nat.zero_add]
      rw [← htake, List.getElem?_take] at hj
      split at hj
      · rw [← Array.getElem?_toList]; exact hj
      · cases hj
    exact ⟨hr r (List.mem_of_getElem? hi), b, 0, rfl, hc _ _ q1, (by have h := hc _ _ q2; rwa [← Nat.add_assoc] at h)⟩
/-- records as values, and what their bytes are -/
def BytesAt (w : World) (R : List RV) (L : List (Int × List Int)) : Prop := R.length = L.length ∧ ∀ (i : Nat) (r : RV) (l : Int × List Int), R[i]? = some r → L[i]? = some l → r.at' = l.1 ∧ Sl .u8 w r.a r.n r.c l.2
theorem BytesAt.kept {w w' : World} {R : List RV} {L : List (Int × List Int)} (k : Kept w w') (h : BytesAt w R L) : BytesAt w' R L := ⟨h.1, fun i r l h1 h2 => ⟨(h.2 i r l h1 h2).1, k.sl (h.2 i r l h1 h2).2⟩⟩
theorem take_eq {α : Type} {A B : List α} (h : A.length = B.length) (hp : ∀ q, q < A.length → A[q]? = B[q]?) : A = B := by
  apply List.ext_getElem? 
  intro i
  rcases Nat.lt_or_ge i A.length with h' | h'
  · exact hp i h'
  · rw [List.getElem?_eq_none h', List.getElem?_eq_none (by omega)]
end Go.Proofs.Ytnnjflljlooifaa
