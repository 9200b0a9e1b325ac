/- Graphs: Cycle. -/
import Derived.Test.YtmejphlpcgochaaGr7
set_option linter.unusedVariables false
set_option linter.unusedSimpArgs false
namespace Go.Proofs.Ytmejphlpcgochaa
open Go.RowKit
/-- how many steps from a node to itself (0: none) -/
def selfF (N : Int) (E : List Ed) (j : Nat) : Int := (farL N E j).getD j 0
/-- where the shortest cycle begins, and how long it is, of the first nodes -/
def bestF (N : Int) (E : List Ed) : Nat → Int × Int
  | 0 => (0, 0)
  | j + 1 => if 0 < selfF N E j ∧ ((bestF N E j).2 = 0 ∨ selfF N E j < (bestF N E j).2) then ((j : Int), selfF N E j) else bestF N E j
def lastI (l : List Int) : Int := l.getD (l.length - 1) 0
def nextF (N : Int) (E : List Ed) (start left a : Int) : Option Int := (besL N E a 0).find? fun b => decide (b ≠ start ∧ (farL N E b).getD start.toNat 0 = left)
/-- the cycle, left to go -/
def cycF (N : Int) (E : List Ed) (start : Int) : Nat → List Int → List Int
  | 0, out => out
  | l + 1, out => cycF N E start l (match nextF N E start ((l : Int) + 1) (lastI out) with | some b => out ++ [b] | none => out)
def cycleL (N : Int) (E : List Ed) : List Int :=
  if goodG N E = true then (if (bestF N E N.toNat).2 = 0 then [] else cycF N E (bestF N E N.toNat).1 ((bestF N E N.toNat).2 - 1).toNat [(bestF N E N.toNat).1]) else []
theorem farF_len {N : Int} {E : List Ed} (hg : goodG N E = true) : ∀ (f : Nat) (s : Int) (out at' : List Int), 0 < s → (out.length : Int) = N → ((farF N E f s out at').length : Int) = N
  | 0, _, out, _, _, h => h
  | f + 1, s, out, at', hs, h => by
    unfold farF
    split
    · exact h
    · have := (foldA_zer hg s (by omega) at' (out, []) h).1
      exact farF_len hg f (s + 1) _ _ (by omega) (by rw [this]; exact h)
theorem farL_len {N : Int} {E : List Ed} (hg : goodG N E = true) (n : Int) : ((farL N E n).length : Int) = N := by
  have := good_N hg
  exact farF_len hg _ 1 _ _ (by omega) (by simp; omega)
/-- values of the reckoning: from nought to the number of steps -/
theorem stepB_bd (s : Int) (hs : 0 ≤ s) (st : FS) (b : Int) (h : ∀ i, 0 ≤ st.1.getD i 0 ∧ st.1.getD i 0 ≤ s) : ∀ i, 0 ≤ (stepB s st b).1.getD i 0 ∧ (stepB s st b).1.getD i 0 ≤ s := by
  intro i
  unfold stepB
  split
  · by_cases hi : b.toNat = i
    · subst hi
      by_cases hl : b.toNat < st.1.length
      · simp [List.getD_eq_getElem?_getD, List.getElem?_set, hl]; exact hs
      · simp [List.getD_eq_getElem?_getD, List.getElem?_set, hl]; exact hs
    · have := h i
      simpa [List.getD_eq_getElem?_getD, List.getElem?_set, hi] using this
  · exact h i
theorem foldB_bd (s : Int) (hs : 0 ≤ s) : ∀ (l : List Int) (st : FS), (∀ i, 0 ≤ st.1.getD i 0 ∧ st.1.getD i 0 ≤ s) → ∀ i, 0 ≤ (l.foldl (stepB s) st).1.getD i 0 ∧ (l.foldl (stepB s) st).1.getD i 0 ≤ s
  | [], st, h => h
  | b :: l, st, h => foldB_bd s hs l _ (stepB_bd s hs st b h)
theorem foldA_bd (N : Int) (E : List Ed) (s : Int) (hs : 0 ≤ s) : ∀ (l : List Int) (st : FS), (∀ i, 0 ≤ st.1.getD i 0 ∧ st.1.getD i 0 ≤ s) → ∀ i, 0 ≤ (l.foldl (stepA N E s) st).1.getD i 0 ∧ (l.foldl (stepA N E s) st).1.getD i 0 ≤ s
  | [], st, h => h
  | b :: l, st, h => foldA_bd N E s hs l _ (foldB_bd s hs _ st h)
theorem farF_bd (N : Int) (E : List Ed) : ∀ (f : Nat) (s : Int) (out at' : List Int), 0 ≤ s → (∀ i, 0 ≤ out.getD i 0 ∧ out.getD i 0 ≤ s) → ∀ i, 0 ≤ (farF N E f s out at').getD i 0 ∧ (farF N E f s out at').getD i 0 ≤ s + f
  | 0, s, out, _, hs, h, i => by have := h i; unfold farF; omega
  | f + 1, s, out, at', hs, h, i => by
    unfold farF
    split
    · have := h i; omega
    · have h1 := foldA_bd N E s hs at' (out, []) h
      have := farF_bd N E f (s + 1) (at'.foldl (stepA N E s) (out, [])).1 (at'.foldl (stepA N E s) (out, [])).2 (by omega) (fun i => by have := h1 i; omega) i
      omega
theorem farL_bd {N : Int} {E : List Ed} (hg : goodG N E = true) (n : Int) (i : Nat) : 0 ≤ (farL N E n).getD i 0 ∧ (farL N E n).getD i 0 ≤ 19 := by
  have := good_N hg
  have h := farF_bd N E (N.toNat + 2) 1 (List.replicate N.toNat 0) [n] (by omega) (fun i => by
    simp only [List.getD_eq_getElem?_getD, List.getElem?_replicate]
    split <;> simp) i
  unfold farL
  omega
theorem bestF_bd {N : Int} {E : List Ed} (hg : goodG N E = true) : ∀ j : Nat, 0 ≤ (bestF N E j).2 ∧ (bestF N E j).2 ≤ 19 ∧ 0 ≤ (bestF N E j).1 ∧ ((bestF N E j).1 < j ∨ (bestF N E j).1 = 0)
  | 0 => by simp [bestF]
  | j + 1 => by
    have h := bestF_bd hg j
    have h2 := farL_bd hg (j : Int) j
    unfold bestF
    split
    · unfold selfF; dsimp only; omega
    · omega
end Go.Proofs.Ytmejphlpcgochaa
