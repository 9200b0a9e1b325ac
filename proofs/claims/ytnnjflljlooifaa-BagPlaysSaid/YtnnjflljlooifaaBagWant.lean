/- What the law wants of the bag: a row of messages of its own. -/
import Derived.Test.YtnnjflljlooifaaBag6
import Derived.Test.YtnnjflljlooifaaMvs
set_option linter.unusedVariables false
set_option linter.unusedSimpArgs false
namespace Go.Proofs.Ytnnjflljlooifaa
open Go.RowKit
def mvA (x : Int × Int) : MV := ⟨2, 1 - x.2, x.2, 1, x.1, 0, none, 0, 0, none, 0, 0, 0⟩
def wantV (A : List (Int × Int)) : List Value := mvs (A.map mvA)
theorem wantV_len (A : List (Int × Int)) : (wantV A).length = A.length * 9 := by unfold wantV; rw [mvs_len, List.length_map]
theorem wantV_app (A B : List (Int × Int)) : wantV (A ++ B) = wantV A ++ wantV B := by simp [wantV, mvs]
theorem wantV_one (A : List (Int × Int)) : ∀ u ∈ wantV A, u.oneCell' = true := by
  intro u hu
  unfold wantV mvs at hu
  obtain ⟨m, _, hu⟩ := List.mem_flatMap.1 hu
  simp only [MV.cs, List.mem_cons, List.not_mem_nil, or_false] at hu
  rcases hu with rfl | rfl | rfl | rfl | rfl | rfl | rfl | rfl | rfl <;> rfl
theorem wantV_at (A : List (Int × Int)) (i j : Nat) (x : Int × Int) (hx : A[i]? = some x) (hj : j < 9) : (wantV A)[i * 9 + j]? = (mvA x).cs[j]? := mvs_at (A.map mvA) i j (mvA x) (by rw [List.getElem?_map, hx]; rfl) hj
theorem app0_at {w : World} {e : TypeId} {k size : Nat} (h : w.heap[k]? = some (.cells #[] e (0, 0))) : App w e size (.slice (some ⟨k, 0, none⟩) 0 0) 0 (some k) [] :=
  ⟨⟨by simp, .inr ⟨k, 0, #[], rfl, Nat.zero_le _, h, Nat.le_refl _, Nat.zero_le _, by simp, by simp⟩⟩, rfl⟩
/-- the row, cell by cell -/
theorem want_cell {w : World} {e : TypeId} {a : Option Addr} {n c : Nat} {g : Option Nat} {xs : List Value} (h : App w e 9 (.slice a n c) n g xs) (hn : 0 < n) : ∃ b, a = some ⟨b, 0, none⟩ ∧ g = some b ∧ n ≤ c ∧ c ≤ maxLen ∧ b < w.heap.size ∧ ∀ j u, xs[j]? = some u → w.cell? ⟨b, j, none⟩ = some u := by
  obtain ⟨⟨h1, h2⟩, h3⟩ := h
  rcases h2 with ⟨hv, h0⟩ | ⟨b, cap, cur, hv, _, hh, hnc, hcm, hcs, htake⟩
  · omega
  · injection hv with e1 e2 e3
    subst e1 e3
    refine ⟨b, rfl, h3.symm, hnc, hcm, lt_heap hh, fun j u hu => ?_⟩
    rw [cell_of_row w b _ cur _ _ hh]
    rw [← htake, List.getElem?_take] at hu
    split at hu
    · rw [← Array.getElem?_toList]; exact hu
    · cases hu
theorem want_cap {w : World} {e : TypeId} {a : Option Addr} {n c : Nat} {g : Option Nat} {xs : List Value} (h : App w e 9 (.slice a n c) n g xs) : n ≤ c ∧ c ≤ maxLen := by
  obtain ⟨⟨h1, h2⟩, h3⟩ := h
  rcases h2 with ⟨hv, h0⟩ | ⟨b, cap, cur, hv, _, hh, hnc, hcm, hcs, htake⟩
  · injection hv with e1 e2 e3; subst e3; exact ⟨by omega, by unfold maxLen; omega⟩
  · injection hv with e1 e2 e3; subst e3; exact ⟨hnc, hcm⟩
theorem want_src {P : Program} {w : World} {e e' tx : TypeId} {a : Option Addr} {n c : Nat} {g : Option Nat} {A : List (Int × Int)} (hk : P.underlying tx = some (.slice e')) (h : App w e 9 (.slice a n c) n g (wantV A)) : Src P 9 tx (.slice a n c) n (wantV A) w := by
  have hl := h.len
  rcases Nat.eq_zero_or_pos n with h0 | h0
  · subst h0
    have hz : wantV A = [] := List.eq_nil_of_length_eq_zero (by simpa using hl)
    rw [hz]
    cases a with
    | none => exact Src.ofNil w hk c
    | some x => exact Src.ofSlice w hk x 0 c _ rfl (fun j u hu => by simp at hu) (by simp)
  · obtain ⟨b, rfl, _, _, _, _, hc⟩ := want_cell h h0
    exact Src.ofSlice w hk _ n c _ hl (fun j u hu => by rw [add_one, Nat.zero_add]; exact hc j u hu) (wantV_one A)
theorem want_take {P : Program} {w : World} {e e' tx : TypeId} {b n c : Nat} {g : Option Nat} {A : List (Int × Int)} (hk : P.underlying tx = some (.slice e')) (h : App w e 9 (.slice (some ⟨b, 0, none⟩) n c) n g (wantV A)) (i : Nat) (hi : i < n) : Src P 9 tx (.slice (some ⟨b, 0, none⟩) i c) i (wantV (A.take i)) w := by
  have hl := h.len
  obtain ⟨b', hb, _, _, _, _, hc⟩ := want_cell h (by omega)
  injection hb with hb
  injection hb with hb
  subst hb
  have hAl : A.length = n := by rw [wantV_len] at hl; omega
  refine Src.ofSlice w hk _ i c _ (by rw [wantV_len, List.length_take, Nat.min_eq_left (by omega)]) (fun j u hu => ?_) (wantV_one _)
  rw [add_one, Nat.zero_add]
  refine hc j u ?_
  have hsp : wantV A = wantV (A.take i) ++ wantV (A.drop i) := by rw [← wantV_app, List.take_append_drop]
  rw [hsp, List.getElem?_append_left]
  · exact hu
  · exact (List.getElem?_eq_some_iff.1 hu).1
theorem want_drop {P : Program} {w : World} {e e' tx : TypeId} {b n c : Nat} {g : Option Nat} {A : List (Int × Int)} (hk : P.underlying tx = some (.slice e')) (h : App w e 9 (.slice (some ⟨b, 0, none⟩) n c) n g (wantV A)) (i : Nat) (hi : i < n) : Src P 9 tx (.slice (cutA (some ⟨b, 0, none⟩) c (i + 1) 9) (n - (i + 1)) (c - (i + 1))) (n - (i + 1)) (wantV (A.drop (i + 1))) w := by
  have hl := h.len
  obtain ⟨b', hb, _, _, _, _, hc⟩ := want_cell h (by omega)
  injection hb with hb
  injection hb with hb
  subst hb
  have hAl : A.length = n := by rw [wantV_len] at hl; omega
  unfold cutA
  by_cases hci : c = i + 1
  · have hnc := (want_cap h).1
    rw [if_pos hci]
    have hz : A.drop (i + 1) = [] := List.drop_of_length_le (by omega)
    rw [hz, show n - (i + 1) = 0 by omega]
    exact Src.ofSlice w hk _ 0 _ _ rfl (fun j u hu => by simp [wantV, mvs] at hu) (by simp [wantV, mvs])
  · rw [if_neg hci]
    simp only [Option.map_some, add_one, Nat.zero_add]
    refine Src.ofSlice w hk _ _ _ _ (by rw [wantV_len, List.length_drop, hAl]) (fun j u hu => ?_) (wantV_one _)
    rw [add_one]
    refine hc _ u ?_
    have hsp : wantV A = wantV (A.take (i + 1)) ++ wantV (A.drop (i + 1)) := by rw [← wantV_app, List.take_append_drop]
    have hlt : (wantV (A.take (i + 1))).length = (i + 1) * 9 := by rw [wantV_len, List.length_take, Nat.min_eq_left (by omega)]
    rw [hsp, List.getElem?_append_right (by rw [hlt]; omega), hlt, Nat.add_sub_cancel_left]
    exact hu
/-- the acts -/
def Acts (w : World) (a : Option Addr) (n c : Nat) (L : List (Int × Int × Int)) : Prop := L.length = n ∧ n ≤ c ∧ c ≤ maxLen ∧ ∀ (i : Nat) (x : Int × Int × Int), L[i]? = some x → (-9223372036854775808 ≤ x.2.1 ∧ x.2.1 ≤ 9223372036854775807) ∧ (-9223372036854775808 ≤ x.2.2 ∧ x.2.2 ≤ 9223372036854775807) ∧ ∃ b o, a = some ⟨b, o, none⟩ ∧ w.cell? ⟨b, o + i * 3, none⟩ = some (.int .i64 x.1) ∧ w.cell? ⟨b, o + i * 3 + 1, none⟩ = some (.int .i64 x.2.1) ∧ w.cell? ⟨b, o + i * 3 + 2, none⟩ = some (.int .i64 x.2.2)
end Go.Proofs.Ytnnjflljlooifaa
