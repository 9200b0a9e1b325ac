/- Graphs: Ahead, Behind; how far: plainly. -/
import Derived.Test.YtmejphlpcgochaaGr4
set_option linter.unusedVariables false
set_option linter.unusedSimpArgs false
namespace Go.Proofs.Ytmejphlpcgochaa
open Go.RowKit
theorem g_behind {w : World} {s : Option Addr} {m c : Nat} {E : List Ed} (N n : Int) (hE : SlE w s m c E) (hm : m ≤ 900) :
    Calls Try.prog 10 #[.agg #[.int .i64 N, .slice s m c], .int .i64 n] w fun e w' => ∃ (a : Option Addr) (k c' : Nat), e = .returned (.slice a k c') ∧ Sl .i64 w' a k c' (besL N E n 0) ∧ Kept w w' ∧ k ≤ m ∧ (∀ y, a = some y → w.heap.size ≤ y.block) := by
  have hB := heap_alloc_new w (.cells #[.int .i64 N, .slice s m c] 24)
  have K1 := kept_al w (.cells #[.int .i64 N, .slice s m c] 24)
  have b0 := at_cell hB 0 _ rfl
  have b1 := at_cell hB 1 _ rfl
  have HC := Lib.hid (g_beside N n 0 (hE.kept K1) hm (.inl rfl))
  have HK := Lib.hid K1
  clear hE K1 hB
  go_enter Try.func10, Try.ntmps10
  go_wp2_with fail
  refine HC.out.mono ?_
  rintro E1 V1 ⟨a, k, c', rfl, hS, hK, hk, hnew⟩
  have HNw : Hid (∀ y, a = some y → w.heap.size ≤ y.block) := fun y hy => Nat.le_trans HK.out.size (hnew y hy)
  clear hnew
  have HS := Lib.hid hS
  have HK2 := Lib.hid (HK.out.trans hK)
  clear hS hK
  go_wp2_with fail
  go_ret
  exact ⟨a, k, c', rfl, HS.out, HK2.out, hk, HNw.out⟩
theorem g_ahead {w : World} {s : Option Addr} {m c : Nat} {E : List Ed} (N n : Int) (hE : SlE w s m c E) (hm : m ≤ 900) :
    Calls Try.prog 25 #[.agg #[.int .i64 N, .slice s m c], .int .i64 n] w fun e w' => ∃ (a : Option Addr) (k c' : Nat), e = .returned (.slice a k c') ∧ Sl .i64 w' a k c' (besL N E n 1) ∧ Kept w w' ∧ k ≤ m ∧ (∀ y, a = some y → w.heap.size ≤ y.block) := by
  have hB := heap_alloc_new w (.cells #[.int .i64 N, .slice s m c] 24)
  have K1 := kept_al w (.cells #[.int .i64 N, .slice s m c] 24)
  have b0 := at_cell hB 0 _ rfl
  have b1 := at_cell hB 1 _ rfl
  have HC := Lib.hid (g_beside N n 1 (hE.kept K1) hm (.inr rfl))
  have HK := Lib.hid K1
  clear hE K1 hB
  go_enter Try.func25, Try.ntmps25
  go_wp2_with fail
  refine HC.out.mono ?_
  rintro E1 V1 ⟨a, k, c', rfl, hS, hK, hk, hnew⟩
  have HNw : Hid (∀ y, a = some y → w.heap.size ≤ y.block) := fun y hy => Nat.le_trans HK.out.size (hnew y hy)
  clear hnew
  have HS := Lib.hid hS
  have HK2 := Lib.hid (HK.out.trans hK)
  clear hS hK
  go_wp2_with fail
  go_ret
  exact ⟨a, k, c', rfl, HS.out, HK2.out, hk, HNw.out⟩
/-! how far, plainly: as the text reckons -/
abbrev FS := List Int × List Int
def stepB (s : Int) (st : FS) (b : Int) : FS := if st.1.getD b.toNat 0 = 0 then (st.1.set b.toNat s, st.2 ++ [b]) else st
def stepA (N : Int) (E : List Ed) (s : Int) (st : FS) (a : Int) : FS := (besL N E a 0).foldl (stepB s) st
def farF (N : Int) (E : List Ed) : Nat → Int → List Int → List Int → List Int
  | 0, _, out, _ => out
  | f + 1, s, out, at' => if at' = [] then out else farF N E f (s + 1) (at'.foldl (stepA N E s) (out, [])).1 (at'.foldl (stepA N E s) (out, [])).2
def farL (N : Int) (E : List Ed) (n : Int) : List Int := farF N E (N.toNat + 2) 1 (List.replicate N.toNat 0) [n]
theorem farF_nil (N : Int) (E : List Ed) (s : Int) (out : List Int) : ∀ f, farF N E f s out [] = out
  | 0 => rfl
  | f + 1 => by simp [farF]
/-- how many are still nought -/
def zers (l : List Int) : Nat := l.countP (fun x => decide (x = 0))
theorem goodA_mem (N : Int) : ∀ (E s : List Ed), goodA N E s = true → ∀ x ∈ E, okE N x = true
  | [], _, _, x, hx => by cases hx
  | e :: l, s, h, x, hx => by
    unfold goodA at h
    simp only [Bool.and_eq_true] at h
    rcases List.mem_cons.1 hx with rfl | hx
    · exact h.1.1
    · exact goodA_mem N l _ h.2 x hx
theorem good_mem {N : Int} {E : List Ed} (h : goodG N E = true) {x : Ed} (hx : x ∈ E) : (0 ≤ x.1 ∧ x.1 < N) ∧ (0 ≤ x.2 ∧ x.2 < N) ∧ x.1 ≠ x.2 := by
  unfold goodG at h
  simp only [Bool.and_eq_true, decide_eq_true_eq] at h
  have := goodA_mem N E [] h.2 x hx
  unfold okE inG at this
  simp only [Bool.and_eq_true, decide_eq_true_eq, Bool.not_eq_true', decide_eq_false_iff_not] at this
  exact ⟨this.1.1, this.1.2, this.2⟩
theorem good_N {N : Int} {E : List Ed} (h : goodG N E = true) : 0 ≤ N ∧ N ≤ 16 := by
  unfold goodG at h
  simp only [Bool.and_eq_true, decide_eq_true_eq] at h
  exact h.1
theorem mem_besL {N : Int} {E : List Ed} (h : goodG N E = true) (n d b : Int) : b ∈ besL N E n d ↔ ∃ x ∈ E, endOf x d = n ∧ endOf x (1 - d) = b := by
  unfold besL
  rw [if_pos h]
  rw [(sortI_perm _).mem_iff]
  unfold besA
  simp only [List.mem_map, List.mem_filter, decide_eq_true_eq]
  constructor
  · rintro ⟨x, ⟨h1, h2⟩, h3⟩; exact ⟨x, h1, h2, h3⟩
  · rintro ⟨x, h1, h2, h3⟩; exact ⟨x, ⟨h1, h2⟩, h3⟩
theorem besL_in {N : Int} {E : List Ed} (h : goodG N E = true) {n d b : Int} (hb : b ∈ besL N E n d) : 0 ≤ b ∧ b < N := by
  obtain ⟨x, hx, _, rfl⟩ := (mem_besL h n d b).1 hb
  have := good_mem h hx
  unfold endOf
  split
  · exact this.1
  · exact this.2.1
/-- what holds of the state between: its length; how many were found -/
theorem stepB_len (s : Int) (st : FS) (b : Int) : (stepB s st b).1.length = st.1.length := by unfold stepB; split <;> simp
theorem zers_set (l : List Int) (i : Nat) (s : Int) (hi : i < l.length) (h0 : l.getD i 0 = 0) (hs : s ≠ 0) : zers (l.set i s) + 1 = zers l := by
  induction l generalizing i with
  | nil => simp at hi
  | cons x l ih =>
    cases i with
    | zero =>
      have hx : x = 0 := by simpa using h0
      simp [zers, hx, hs]
    | succ i =>
      have := ih i (by simpa using hi) (by simpa using h0)
      unfold zers at this ⊢
      simp only [List.set_cons_succ, List.countP_cons]
      omega
theorem stepB_zer (s : Int) (hs : s ≠ 0) (st : FS) (b : Int) (hb : 0 ≤ b ∧ b < st.1.length) : zers (stepB s st b).1 + (stepB s st b).2.length = zers st.1 + st.2.length := by
  unfold stepB
  split
  · rename_i h
    have := zers_set st.1 b.toNat s (by omega) h hs
    simp
    omega
  · rfl
theorem foldB_zer (s : Int) (hs : s ≠ 0) : ∀ (l : List Int) (st : FS), (∀ b ∈ l, 0 ≤ b ∧ b < st.1.length) → (l.foldl (stepB s) st).1.length = st.1.length ∧ zers (l.foldl (stepB s) st).1 + (l.foldl (stepB s) st).2.length = zers st.1 + st.2.length
  | [], st, _ => ⟨rfl, rfl⟩
  | b :: l, st, h => by
    have h1 := stepB_len s st b
    have h2 := stepB_zer s hs st b (h b (List.mem_cons_self ..))
    have h3 := foldB_zer s hs l (stepB s st b) (fun x hx => by rw [h1]; exact h x (List.mem_cons_of_mem _ hx))
    rw [List.foldl_cons]
    omega
theorem foldA_zer {N : Int} {E : List Ed} (hg : goodG N E = true) (s : Int) (hs : s ≠ 0) : ∀ (l : List Int) (st : FS), (st.1.length : Int) = N → (l.foldl (stepA N E s) st).1.length = st.1.length ∧ zers (l.foldl (stepA N E s) st).1 + (l.foldl (stepA N E s) st).2.length = zers st.1 + st.2.length
  | [], st, _ => ⟨rfl, rfl⟩
  | a :: l, st, h => by
    have h1 := foldB_zer s hs (besL N E a 0) st (fun b hb => by have := besL_in hg hb; omega)
    have h2 := foldA_zer hg s hs l (stepA N E s st a) (by unfold stepA; omega)
    rw [List.foldl_cons]
    unfold stepA at h2 ⊢
    omega
theorem zers_le (l : List Int) : zers l ≤ l.length := List.countP_le_length
theorem besL_len (N : Int) (E : List Ed) (n d : Int) : (besL N E n d).length ≤ E.length := by
  unfold besL
  split
  · rw [(sortI_perm _).length_eq]
    unfold besA
    rw [List.length_map]
    exact List.length_filter_le _ _
  · simp
end Go.Proofs.Ytmejphlpcgochaa
