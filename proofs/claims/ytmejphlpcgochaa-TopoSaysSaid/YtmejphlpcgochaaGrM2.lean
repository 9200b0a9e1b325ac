/- Graphs, plainly: what is reckoned from a node is the least number of edges. -/
import Derived.Test.YtmejphlpcgochaaGrM1
set_option linter.unusedVariables false
set_option linter.unusedSimpArgs false
namespace Go.Proofs.Ytmejphlpcgochaa
open Go.RowKit
/-- a way of so many edges -/
inductive Walk (E : List Ed) (a : Int) : Nat → Int → Prop
  | zero : Walk E a 0 a
  | succ {k : Nat} {b c : Int} (h : Walk E a k b) (e : (b, c) ∈ E) : Walk E a (k + 1) c
theorem Walk.trans {E : List Ed} {a b c : Int} {j k : Nat} (h : Walk E a j b) (g : Walk E b k c) : Walk E a (j + k) c := by
  induction g with
  | zero => exact h
  | succ _ e ih => exact .succ ih e
theorem Walk.cons {E : List Ed} {a b c : Int} {k : Nat} (e : (a, b) ∈ E) (h : Walk E b k c) : Walk E a (k + 1) c := by
  have := (Walk.succ .zero e).trans h
  rw [Nat.zero_add, Nat.add_comm] at this
  exact this
theorem Walk.uncons {E : List Ed} {a : Int} : ∀ {k : Nat} {c : Int}, Walk E a (k + 1) c → ∃ b, (a, b) ∈ E ∧ Walk E b k c
  | 0, c, .succ h e => by
    cases h
    exact ⟨c, e, .zero⟩
  | k + 1, c, .succ h e => by
    obtain ⟨b, h1, h2⟩ := Walk.uncons h
    exact ⟨b, h1, .succ h2 e⟩
theorem Walk.way {E : List Ed} {a : Int} : ∀ {k : Nat} {c : Int}, Walk E a (k + 1) c → Way E a c
  | 0, c, .succ h e => by
    cases h
    exact .one e
  | k + 1, c, .succ h e => .more h.way e
theorem Way.walk {E : List Ed} {a c : Int} (h : Way E a c) : ∃ k, Walk E a (k + 1) c := by
  induction h with
  | one e => exact ⟨0, .succ .zero e⟩
  | more _ e ih => obtain ⟨k, hk⟩ := ih; exact ⟨k + 1, .succ hk e⟩
/-- just so far away -/
def Far (E : List Ed) (a : Int) (k : Nat) (b : Int) : Prop := 0 < k ∧ Walk E a k b ∧ ∀ j, 0 < j → j < k → ¬ Walk E a j b
theorem Far.uniq {E : List Ed} {a b : Int} {j k : Nat} (h : Far E a j b) (g : Far E a k b) : j = k := by
  rcases Nat.lt_trichotomy j k with h1 | h1 | h1
  · exact absurd h.2.1 (g.2.2 j h.1 h1)
  · exact h1
  · exact absurd g.2.1 (h.2.2 k g.1 h1)
theorem Far.step {E : List Ed} {a c : Int} {k : Nat} (h : Far E a (k + 2) c) : ∃ b, (a, b) ∈ E ∧ Far E b (k + 1) c := by
  obtain ⟨b, h1, h2⟩ := h.2.1.uncons
  exact ⟨b, h1, by omega, h2, fun j h3 h4 hw => h.2.2 (j + 1) (by omega) (by omega) (hw.cons h1)⟩
/-- what a fold leaves of values -/
def FoldV (s : Int) (a b : List Int) : Prop := ∀ i, b.getD i 0 = a.getD i 0 ∨ (a.getD i 0 = 0 ∧ b.getD i 0 = s)
theorem FoldV.trans {s : Int} {a b c : List Int} (h : FoldV s a b) (k : FoldV s b c) : FoldV s a c := by
  intro i
  rcases h i with h1 | ⟨h1, h2⟩ <;> rcases k i with k1 | ⟨k1, k2⟩
  · exact .inl (k1.trans h1)
  · exact .inr ⟨h1 ▸ k1, k2⟩
  · exact .inr ⟨h1, k1.trans h2⟩
  · exact .inr ⟨h1, k2⟩
theorem stepB_val (s : Int) (st : FS) (b : Int) : FoldV s st.1 (stepB s st b).1 := by
  intro i
  unfold stepB
  split
  · rename_i h
    by_cases hi : b.toNat = i
    · subst hi
      by_cases hl : b.toNat < st.1.length
      · right; refine ⟨h, ?_⟩; simp [List.getD_eq_getElem?_getD, hl]
      · left; simp [List.getD_eq_getElem?_getD, List.getElem?_set, hl]
    · left; simp [List.getD_eq_getElem?_getD, List.getElem?_set, hi]
  · exact .inl rfl
theorem foldB_val (s : Int) : ∀ (l : List Int) (st : FS), FoldV s st.1 (l.foldl (stepB s) st).1
  | [], st => fun i => .inl rfl
  | b :: l, st => (stepB_val s st b).trans (foldB_val s l _)
theorem foldA_val (N : Int) (E : List Ed) (s : Int) : ∀ (l : List Int) (st : FS), FoldV s st.1 (l.foldl (stepA N E s) st).1
  | [], st => fun i => .inl rfl
  | a :: l, st => (foldB_val s (besL N E a 0) st).trans (foldA_val N E s l _)
structure RndD (E : List Ed) (n : Int) (s : Nat) (out at' : List Int) : Prop where
  val : ∀ b, 0 ≤ b → out.getD b.toNat 0 ≠ 0 → 0 < out.getD b.toNat 0 ∧ out.getD b.toNat 0 < s ∧ Far E n (out.getD b.toNat 0).toNat b
  cmp : ∀ b k, 0 ≤ b → 0 < k → k < s → Walk E n k b → mkd out b
  atS : ∀ a ∈ at', Walk E n (s - 1) a
  atC : ∀ b, 0 ≤ b → (s = 1 ∧ b = n ∨ 1 < s ∧ out.getD b.toNat 0 = (s : Int) - 1) → b ∈ at'
theorem RndD.next {N : Int} {E : List Ed} (hg : goodG N E = true) {n : Int} {s : Nat} {out at' : List Int} (h : RndD E n s out at') (hs : 0 < s) (hl : (out.length : Int) = N) :
    RndD E n (s + 1) (at'.foldl (stepA N E s) (out, [])).1 (at'.foldl (stepA N E s) (out, [])).2 := by
  have W := foldA_w hg s (by omega) at' (out, []) hl
  have F := foldA_val N E s at' (out, [])
  generalize at'.foldl (stepA N E s) (out, []) = st at *
  dsimp only at F
  have hS : ∀ x, (∃ a ∈ at', (a, x) ∈ E) → Walk E n s x := by
    rintro x ⟨a, ha, hx⟩
    have := (h.atS a ha).succ hx
    rwa [Nat.sub_add_cancel hs] at this
  refine ⟨fun b hb hm => ?_, fun c k hc hk hks hw => ?_, fun a ha => ?_, fun b hb hc => ?_⟩
  · rcases F b.toNat with h1 | ⟨h1, h2⟩
    · rw [h1] at hm ⊢
      have := h.val b hb hm
      exact ⟨this.1, by omega, this.2.2⟩
    · rcases (W.marks b hb).1 hm with h3 | h3
      · exact absurd h1 h3
      · rw [h2]
        exact ⟨by omega, by omega, by omega, by simpa using hS b h3, fun j h4 h5 h6 => h.cmp b j hb h4 (by omega) h6 h1⟩
  · by_cases hks' : k < s
    · exact (W.marks c hc).2 (.inl (h.cmp c k hc hk hks' hw))
    · obtain rfl : k = s := by omega
      obtain ⟨k', rfl⟩ : ∃ k', k = k' + 1 := ⟨k - 1, by omega⟩
      cases hw with
      | succ hw e =>
        rename_i b
        have hb := (good_mem hg e).1.1
        by_cases h0 : k' = 0
        · subst h0
          cases hw
          exact (W.marks c hc).2 (.inr ⟨n, h.atC n hb (.inl ⟨rfl, rfl⟩), e⟩)
        · have hm := h.cmp b k' hb (by omega) (by omega) hw
          have hv := h.val b hb hm
          by_cases hv1 : out.getD b.toNat 0 = ((k' + 1 : Nat) : Int) - 1
          · exact (W.marks c hc).2 (.inr ⟨b, h.atC b hb (.inr ⟨by omega, hv1⟩), e⟩)
          · exact (W.marks c hc).2 (.inl (h.cmp c _ hc (by omega) (by omega) (hv.2.2.2.1.succ e)))
  · rcases W.nx a ha with h1 | h1
    · cases h1
    · exact hS a h1
  · rcases hc with hc | ⟨_, hc⟩
    · omega
    · have hm : mkd st.1 b := by unfold mkd; omega
      rcases W.new b hb hm with h1 | h1
      · have := h.val b hb h1
        rcases F b.toNat with h2 | ⟨h2, _⟩
        · omega
        · exact absurd h2 h1
      · exact h1
theorem farF_val {N : Int} {E : List Ed} (hg : goodG N E = true) (n : Int) : ∀ (f : Nat) (s : Nat) (out at' : List Int), 0 < s → (out.length : Int) = N → RndD E n s out at' → ∀ b, 0 ≤ b → (farF N E f s out at').getD b.toNat 0 ≠ 0 → 0 < (farF N E f s out at').getD b.toNat 0 ∧ Far E n ((farF N E f s out at').getD b.toNat 0).toNat b
  | 0, s, out, at', hs, hl, hI, b, hb => by
    unfold farF
    intro h
    have := hI.val b hb h
    exact ⟨this.1, this.2.2⟩
  | f + 1, s, out, at', hs, hl, hI, b, hb => by
    unfold farF
    split
    · intro h
      have := hI.val b hb h
      exact ⟨this.1, this.2.2⟩
    · have hzz := foldA_zer hg s (by omega) at' (out, []) hl
      have := farF_val hg n f (s + 1) _ _ (by omega) (by rw [hzz.1]; exact hl) (hI.next hg hs hl) b hb
      rw [Int.natCast_add] at this
      exact this
theorem farL_far {N : Int} {E : List Ed} (hg : goodG N E = true) (n b : Int) (hb : 0 ≤ b) (h : (farL N E n).getD b.toNat 0 ≠ 0) : 0 < (farL N E n).getD b.toNat 0 ∧ Far E n ((farL N E n).getD b.toNat 0).toNat b := by
  have hN := good_N hg
  have h0 : ∀ i, (List.replicate N.toNat (0 : Int)).getD i 0 = 0 := fun i => by
    simp only [List.getD_eq_getElem?_getD, List.getElem?_replicate]
    split <;> rfl
  refine farF_val hg n (N.toNat + 2) 1 (List.replicate N.toNat 0) [n] (by omega) (by simp; omega) ⟨fun c _ hm => absurd (h0 _) hm, fun c k _ h1 h2 => by omega, fun a ha => ?_, fun c _ hc => ?_⟩ b hb h
  · simp at ha; subst ha; exact .zero
  · rcases hc with ⟨_, rfl⟩ | ⟨h1, _⟩
    · simp
    · omega
/-- how far: nought where no way leads -/
def dst (N : Int) (E : List Ed) (a b : Int) : Int := (farL N E a).getD b.toNat 0
theorem dst_bd {N : Int} {E : List Ed} (hg : goodG N E = true) (a b : Int) : 0 ≤ dst N E a b ∧ dst N E a b ≤ 19 := farL_bd hg a b.toNat
theorem dst_far {N : Int} {E : List Ed} (hg : goodG N E = true) {a b : Int} (hb : 0 ≤ b) (h : 0 < dst N E a b) : Far E a (dst N E a b).toNat b := (farL_far hg a b hb (by unfold dst at h; omega)).2
theorem far_dst {N : Int} {E : List Ed} (hg : goodG N E = true) {a b : Int} {k : Nat} (hb : 0 ≤ b) (h : Far E a k b) : dst N E a b = k := by
  obtain ⟨k', rfl⟩ : ∃ k', k = k' + 1 := ⟨k - 1, by have := h.1; omega⟩
  have hp : 0 < dst N E a b := (farL_way hg a b hb).2 h.2.1.way
  have := (dst_far hg hb hp).uniq h
  omega
theorem dst_le {N : Int} {E : List Ed} (hg : goodG N E = true) {a b : Int} {k : Nat} (hb : 0 ≤ b) (hk : 0 < k) (h : Walk E a k b) : 0 < dst N E a b ∧ dst N E a b ≤ k := by
  obtain ⟨k', rfl⟩ : ∃ k', k = k' + 1 := ⟨k - 1, by omega⟩
  have hp : 0 < dst N E a b := (farL_way hg a b hb).2 h.way
  refine ⟨hp, ?_⟩
  by_cases hlt : dst N E a b ≤ ((k' + 1 : Nat) : Int)
  · exact hlt
  · exact absurd h ((dst_far hg hb hp).2.2 (k' + 1) (by omega) (by omega))
/-- the best start -/
theorem bestF_spec {N : Int} {E : List Ed} (hg : goodG N E = true) : ∀ j : Nat, ((bestF N E j).2 = 0 ∧ ∀ i, i < j → selfF N E i = 0) ∨ (0 < (bestF N E j).2 ∧ ∃ s : Nat, s < j ∧ (bestF N E j).1 = s ∧ selfF N E s = (bestF N E j).2 ∧ ∀ i, i < j → 0 < selfF N E i → (bestF N E j).2 ≤ selfF N E i ∧ (i < s → (bestF N E j).2 < selfF N E i))
  | 0 => .inl ⟨rfl, fun i h => by omega⟩
  | j + 1 => by
    have hb : 0 ≤ selfF N E j := (farL_bd hg (j : Int) j).1
    rcases bestF_spec hg j with ⟨h1, h2⟩ | ⟨h1, s, h2, h3, h4, h5⟩
    · by_cases hp : 0 < selfF N E j
      · right
        unfold bestF
        rw [if_pos ⟨hp, .inl h1⟩]
        refine ⟨hp, j, by omega, rfl, rfl, fun i hi hip => ?_⟩
        by_cases hij : i < j
        · have := h2 i hij; omega
        · obtain rfl : i = j := by omega
          exact ⟨Int.le_refl _, fun h => by omega⟩
      · left
        unfold bestF
        rw [if_neg (fun h => hp h.1)]
        refine ⟨h1, fun i hi => ?_⟩
        by_cases hij : i < j
        · exact h2 i hij
        · obtain rfl : i = j := by omega
          omega
    · right
      by_cases hp : 0 < selfF N E j ∧ selfF N E j < (bestF N E j).2
      · unfold bestF
        rw [if_pos ⟨hp.1, .inr hp.2⟩]
        refine ⟨hp.1, j, by omega, rfl, rfl, fun i hi hip => ?_⟩
        by_cases hij : i < j
        · have := (h5 i hij hip).1
          dsimp only
          exact ⟨by omega, fun _ => by omega⟩
        · obtain rfl : i = j := by omega
          exact ⟨Int.le_refl _, fun h => by omega⟩
      · unfold bestF
        rw [if_neg (fun h => hp ⟨h.1, by rcases h.2 with h | h <;> omega⟩)]
        refine ⟨h1, s, by omega, h3, h4, fun i hi hip => ?_⟩
        by_cases hij : i < j
        · exact h5 i hij hip
        · obtain rfl : i = j := by omega
          exact ⟨by omega, fun h => by omega⟩
/-- the beginning of a cycle of K edges -/
structure Cyc (E : List Ed) (N : Int) (K : Nat) (s : Int) (c : List Int) : Prop where
  hd : c[0]? = some s
  far : ∀ i x, c[i]? = some x → i < K ∧ 0 ≤ x ∧ x < N ∧ Far E x (K - i) s ∧ Walk E s i x
  ed : ∀ i x y, c[i]? = some x → c[i + 1]? = some y → (x, y) ∈ E
theorem lastI_get {l : List Int} (h : 0 < l.length) : l[l.length - 1]? = some (lastI l) := by
  unfold lastI
  rw [List.getD_eq_getElem?_getD, List.getElem?_eq_getElem (by omega)]; rfl
theorem cycF_cyc {N : Int} {E : List Ed} (hg : goodG N E = true) {K : Nat} {s : Int} (hs : 0 ≤ s) : ∀ (l : Nat) (c : List Int), c.length + l = K → Cyc E N K s c → Cyc E N K s (cycF N E s l c) ∧ (cycF N E s l c).length = K
  | 0, c, h, hc => ⟨hc, by unfold cycF; omega⟩
  | l + 1, c, h, hc => by
    have h0 : 0 < c.length := by
      have := (List.getElem?_eq_some_iff.1 hc.hd).1
      exact this
    have hl := hc.far _ _ (lastI_get h0)
    have hF : Far E (lastI c) (l + 2) s := by
      have := hl.2.2.2.1
      rwa [show K - (c.length - 1) = l + 2 by omega] at this
    obtain ⟨b, hb1, hb2⟩ := hF.step
    have hss := (hc.far 0 s hc.hd).2.2.2.1
    rw [Nat.sub_zero] at hss
    have hdb : dst N E b s = (l : Int) + 1 := by have := far_dst hg hs hb2; omega
    have hbs : b ≠ s := fun h => by subst h; have := hb2.uniq hss; omega
    unfold cycF
    cases hn : nextF N E s ((l : Int) + 1) (lastI c) with
    | none =>
      have := List.find?_eq_none.1 hn b ((mem_beh hg _ _).2 hb1)
      exact absurd (decide_eq_true (show b ≠ s ∧ (farL N E b).getD s.toNat 0 = (l : Int) + 1 from ⟨hbs, hdb⟩)) (by simpa using this)
    | some d =>
      have hd1 := List.mem_of_find?_eq_some hn
      have hd2 := List.find?_some hn
      have hd3 := of_decide_eq_true hd2
      have hde := (mem_beh hg _ _).1 hd1
      have hdm := good_mem hg hde
      have hdf := dst_far hg (a := d) hs (by unfold dst; omega)
      have hdk : (dst N E d s).toNat = l + 1 := by unfold dst; omega
      rw [hdk] at hdf
      refine cycF_cyc hg hs l (c ++ [d]) (by simp; omega) ⟨?_, fun i x hx => ?_, fun i x y hx hy => ?_⟩
      · rw [List.getElem?_append_left h0]; exact hc.hd
      · by_cases hi : i < c.length
        · rw [List.getElem?_append_left hi] at hx
          exact hc.far i x hx
        · obtain rfl : i = c.length := by
            have := (List.getElem?_eq_some_iff.1 hx).1
            simp at this; omega
          simp at hx
          subst hx
          have hw := hl.2.2.2.2.succ hde
          rw [Nat.sub_add_cancel h0] at hw
          exact ⟨by omega, hdm.2.1.1, hdm.2.1.2, by rwa [show K - c.length = l + 1 by omega], hw⟩
      · have hi1 := (List.getElem?_eq_some_iff.1 hy).1
        simp at hi1
        rw [List.getElem?_append_left hi1] at hx
        by_cases hi : i + 1 < c.length
        · rw [List.getElem?_append_left hi] at hy
          exact hc.ed i x y hx hy
        · obtain rfl : i = c.length - 1 := by omega
          rw [lastI_get h0] at hx
          rw [Nat.sub_add_cancel h0] at hy
          simp at hx hy
          subst hx hy
          exact hde
theorem cycleL_spec {N : Int} {E : List Ed} (hg : goodG N E = true) : (cycleL N E = [] ∧ ∀ n, ¬ Way E n n) ∨ ∃ K s, 0 < K ∧ Cyc E N K s (cycleL N E) ∧ (cycleL N E).length = K ∧ (∀ n k, 0 ≤ n → 0 < k → Walk E n k n → K ≤ k ∧ (n < s → K < k)) := by
  have hN := good_N hg
  have hself : ∀ i : Nat, selfF N E i = dst N E i i := fun i => rfl
  unfold cycleL
  rw [if_pos hg]
  rcases bestF_spec hg N.toNat with ⟨h1, h2⟩ | ⟨h1, s, h2, h3, h4, h5⟩
  · left
    rw [if_pos h1]
    refine ⟨rfl, fun n hn => ?_⟩
    have hr := hn.in hg
    have h3 := h2 n.toNat (by omega)
    rw [hself, Int.toNat_of_nonneg hr.1] at h3
    have := (farL_way hg n n hr.1).2 hn
    unfold dst at h3
    omega
  · right
    rw [if_neg (by omega), h3]
    generalize (bestF N E N.toNat).2 = S at *
    obtain ⟨K, rfl⟩ : ∃ K : Nat, S = K := ⟨S.toNat, by omega⟩
    rw [hself] at h4
    have hss : Far E s K s := by
      have := dst_far hg (a := (s : Int)) (b := s) (by omega) (by omega)
      rwa [h4] at this
    have := cycF_cyc hg (K := K) (s := (s : Int)) (by omega) ((K : Int) - 1).toNat [(s : Int)] (by simp; omega) ⟨rfl, fun i x hx => ?_, fun i x y hx hy => by simp at hy⟩
    · refine ⟨K, s, by omega, this.1, this.2, fun n k hn hk hw => ?_⟩
      obtain ⟨k', rfl⟩ : ∃ k', k = k' + 1 := ⟨k - 1, by omega⟩
      have hr := hw.way.in hg
      have hd := dst_le hg hn hk hw
      have h6 := h5 n.toNat (by omega) (by rw [hself, Int.toNat_of_nonneg hr.1]; exact hd.1)
      rw [hself, Int.toNat_of_nonneg hr.1] at h6
      exact ⟨by omega, fun h => by have := h6.2 (by omega); omega⟩
    · match i, hx with
      | 0, hx =>
        obtain rfl : (s : Int) = x := by simpa using hx
        exact ⟨by omega, by omega, by omega, hss, .zero⟩
      | i + 1, hx => simp at hx
/-- what the statement asks of a cycle -/
theorem cyc_law {N : Int} {E : List Ed} (hg : goodG N E = true) (i : Nat) (x : Int) (hx : (cycleL N E)[i]? = some x) :
    (∃ y, (cycleL N E)[(i + 1) % (cycleL N E).length]? = some y ∧ (x, y) ∈ E) ∧ (∀ y, (cycleL N E)[0]? = some y → y ≤ x) ∧ ∀ k y, k < i → (cycleL N E)[k]? = some y → y ≠ x := by
  rcases cycleL_spec hg with ⟨h, _⟩ | ⟨K, s, h0, hc, hl, hm⟩
  · rw [h] at hx; cases hx
  · have hf := hc.far i x hx
    refine ⟨?_, fun y hy => ?_, fun k y hk hy => ?_⟩
    · rw [hl]
      by_cases hi : i + 1 = K
      · rw [hi, Nat.mod_self]
        refine ⟨s, hc.hd, ?_⟩
        have hw := hf.2.2.2.1.2.1
        rw [show K - i = 0 + 1 by omega] at hw
        obtain ⟨b, h1, h2⟩ := hw.uncons
        cases h2
        exact h1
      · rw [Nat.mod_eq_of_lt (by omega)]
        obtain ⟨y, hy⟩ : ∃ y, (cycleL N E)[i + 1]? = some y := ⟨_, List.getElem?_eq_getElem (by omega)⟩
        exact ⟨y, hy, hc.ed i x y hx hy⟩
    · rw [hc.hd] at hy
      obtain rfl : s = y := by simpa using hy
      by_cases hlt : x < s
      · have hw := hf.2.2.2.1.2.1.trans hf.2.2.2.2
        rw [show K - i + i = K by omega] at hw
        have := (hm x K hf.2.1 h0 hw).2 hlt
        omega
      · omega
    · rintro rfl
      have := (hc.far k y hy).2.2.2.1.uniq hf.2.2.2.1
      have := (hc.far k y hy).1
      omega
theorem cyc_none {N : Int} {E : List Ed} (hg : goodG N E = true) : cycleL N E = [] ↔ ∀ n, ¬ Way E n n := by
  rcases cycleL_spec hg with ⟨h, h2⟩ | ⟨K, s, h0, hc, hl, hm⟩
  · exact ⟨fun _ => h2, fun _ => h⟩
  · constructor
    · intro h; rw [h] at hl; simp at hl; omega
    · intro h
      have hf := (hc.far 0 s hc.hd).2.2.2.1.2.1
      obtain ⟨k', hk⟩ : ∃ k', K - 0 = k' + 1 := ⟨K - 1, by omega⟩
      rw [hk] at hf
      exact absurd hf.way (h s)
end Go.Proofs.Ytmejphlpcgochaa
