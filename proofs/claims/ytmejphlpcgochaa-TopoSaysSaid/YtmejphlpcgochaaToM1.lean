/- Orders of graphs, plainly: an order is found just where there is no cycle. -/
import Derived.Test.YtmejphlpcgochaaGrM4
set_option linter.unusedVariables false
set_option linter.unusedSimpArgs false
namespace Go.Proofs.Ytmejphlpcgochaa
open Go.RowKit
/-- may a node come next -/
def rdyT (N : Int) (E : List Ed) (out : List Int) (n : Int) : Bool := (besL N E n 1).all (fun a => out.contains a) && !out.contains n
/-- the least number of which something holds, looked for from above; -1: none -/
def lowU (p : Int → Bool) (k : Nat) : Nat → Int
  | 0 => -1
  | d + 1 => if p ((k : Int) - (d : Int) - 1) = true then (k : Int) - (d : Int) - 1 else lowU p k d
theorem lowU_spec (p : Int → Bool) (k : Nat) : ∀ d, d ≤ k → (lowU p k d = -1 ∧ ∀ i : Nat, k - d ≤ i → i < k → p i = false) ∨ ∃ m : Nat, lowU p k d = m ∧ k - d ≤ m ∧ m < k ∧ p m = true ∧ ∀ i : Nat, k - d ≤ i → i < m → p i = false
  | 0, _ => .inl ⟨rfl, fun i h1 h2 => by omega⟩
  | d + 1, h => by
    obtain ⟨q, hq⟩ : ∃ q : Nat, (k : Int) - (d : Int) - 1 = q := ⟨k - d - 1, by omega⟩
    have hqn : k - (d + 1) = q := by omega
    unfold lowU
    rw [hq, hqn]
    by_cases hp : p q = true
    · right
      rw [if_pos hp]
      exact ⟨q, rfl, Nat.le_refl _, by omega, hp, fun i h1 h2 => by omega⟩
    · rw [if_neg hp]
      have hpf : p q = false := by simpa using hp
      have hi : ∀ i : Nat, q ≤ i → i = q ∨ k - d ≤ i := fun i hi => by omega
      rcases lowU_spec p k d (by omega) with ⟨h1, h2⟩ | ⟨m, h1, h2, h3, h4, h5⟩
      · left
        refine ⟨h1, fun i hi1 hi2 => ?_⟩
        rcases hi i hi1 with rfl | h6
        · exact hpf
        · exact h2 i h6 hi2
      · right
        refine ⟨m, h1, by omega, h3, h4, fun i hi1 hi2 => ?_⟩
        rcases hi i hi1 with rfl | h6
        · exact hpf
        · exact h5 i h6 hi2
def ordF (N : Int) (E : List Ed) : Nat → List Int → Option (List Int)
  | 0, out => some out
  | f + 1, out => if lowU (rdyT N E out) N.toNat N.toNat < 0 then none else ordF N E f (out ++ [lowU (rdyT N E out) N.toNat N.toNat])
def orderT (N : Int) (E : List Ed) : Option (List Int) := if goodG N E = true then ordF N E N.toNat [] else none
/-- the beginning of an order -/
structure OrdP (N : Int) (E : List Ed) (l : List Int) : Prop where
  nd : l.Nodup
  rng : ∀ x ∈ l, 0 ≤ x ∧ x < N
  top : ∀ (i : Nat) x, l[i]? = some x → ∀ a, (a, x) ∈ E → ∃ j, j < i ∧ l[j]? = some a
theorem rdyT_iff {N : Int} {E : List Ed} (hg : goodG N E = true) (out : List Int) (n : Int) : rdyT N E out n = true ↔ (∀ a, (a, n) ∈ E → a ∈ out) ∧ n ∉ out := by
  unfold rdyT
  simp only [Bool.and_eq_true, List.all_eq_true, List.contains_iff_mem, Bool.not_eq_true', Bool.eq_false_iff, ne_eq, mem_ahd hg]
theorem OrdP.snoc {N : Int} {E : List Ed} (hg : goodG N E = true) {out : List Int} (h : OrdP N E out) {n : Int} (hn : 0 ≤ n ∧ n < N) (hr : rdyT N E out n = true) : OrdP N E (out ++ [n]) := by
  rw [rdyT_iff hg] at hr
  refine ⟨?_, fun x hx => ?_, fun i x hx a ha => ?_⟩
  · rw [List.nodup_append]
    refine ⟨h.nd, by simp, fun x hx y hy => ?_⟩
    simp at hy
    subst hy
    rintro rfl
    exact hr.2 hx
  · rcases List.mem_append.1 hx with hx | hx
    · exact h.rng x hx
    · simp at hx; subst hx; exact hn
  · by_cases hi : i < out.length
    · rw [List.getElem?_append_left hi] at hx
      obtain ⟨j, h1, h2⟩ := h.top i x hx a ha
      exact ⟨j, h1, by rw [List.getElem?_append_left (by omega)]; exact h2⟩
    · have hil : i = out.length := by
        have := (List.getElem?_eq_some_iff.1 hx).1
        simp at this; omega
      subst hil
      simp at hx
      subst hx
      obtain ⟨j, h2⟩ := List.getElem?_of_mem (hr.1 a ha)
      have hj := (List.getElem?_eq_some_iff.1 h2).1
      exact ⟨j, by omega, by rw [List.getElem?_append_left hj]; exact h2⟩
theorem OrdP.nil (N : Int) (E : List Ed) : OrdP N E [] := ⟨List.nodup_nil, fun x hx => (by cases hx), fun i x hx => (by simp at hx)⟩
theorem ordF_spec {N : Int} {E : List Ed} (hg : goodG N E = true) : ∀ (f : Nat) (out l : List Int), OrdP N E out → ordF N E f out = some l → OrdP N E l ∧ l.length = out.length + f
  | 0, out, l, h, he => by
    unfold ordF at he
    injection he with he
    subst he
    exact ⟨h, by omega⟩
  | f + 1, out, l, h, he => by
    unfold ordF at he
    have hN := good_N hg
    split at he
    · cases he
    · rcases lowU_spec (rdyT N E out) N.toNat N.toNat (Nat.le_refl _) with ⟨h1, _⟩ | ⟨m, h1, h2, h3, h4, _⟩
      · omega
      · rw [h1] at he
        have := ordF_spec hg f _ l (h.snoc hg (n := (m : Int)) ⟨by omega, by omega⟩ h4) he
        simp at this
        exact ⟨this.1, by omega⟩
theorem nodup_len : ∀ (a b : List Int), a.Nodup → (∀ x ∈ a, x ∈ b) → a.length ≤ b.length
  | [], b, _, _ => Nat.zero_le _
  | x :: a, b, hn, hs => by
    obtain ⟨h1, h2⟩ := List.nodup_cons.1 hn
    have hx := hs x (List.mem_cons_self ..)
    have := nodup_len a (b.erase x) h2 fun y hy => (List.mem_erase_of_ne (by rintro rfl; exact h1 hy)).2 (hs y (List.mem_cons_of_mem _ hy))
    rw [List.length_erase_of_mem hx] at this
    have := List.length_pos_of_mem hx
    simp
    omega
/-- all nodes -/
def nodes (N : Int) : List Int := (List.range N.toNat).map Int.ofNat
theorem mem_nodes (N x : Int) : x ∈ nodes N ↔ 0 ≤ x ∧ x < N := by
  unfold nodes
  simp only [List.mem_map, List.mem_range]
  constructor
  · rintro ⟨i, h1, rfl⟩
    exact ⟨Int.natCast_nonneg i, by show (i : Int) < N; omega⟩
  · rintro ⟨h1, h2⟩
    exact ⟨x.toNat, by omega, Int.toNat_of_nonneg h1⟩
theorem nodes_len (N : Int) : (nodes N).length = N.toNat := by unfold nodes; simp
theorem nodes_nd (N : Int) : (nodes N).Nodup := by
  unfold nodes List.Nodup
  rw [List.pairwise_map]
  exact List.nodup_range.imp fun h h2 => h (by injection h2)
theorem perm_all {N : Int} {l : List Int} (hn : l.Nodup) (hr : ∀ x ∈ l, 0 ≤ x ∧ x < N) (hl : l.length = N.toNat) (x : Int) (hx : 0 ≤ x ∧ x < N) : x ∈ l := by
  by_cases h : x ∈ l
  · exact h
  · have := nodup_len (x :: l) (nodes N) (List.nodup_cons.2 ⟨h, hn⟩) fun y hy => by
      rw [mem_nodes]
      rcases List.mem_cons.1 hy with rfl | hy
      · exact hx
      · exact hr y hy
    rw [nodes_len] at this
    simp at this
    omega
/-- how many nodes reach a node -/
def depT (N : Int) (E : List Ed) (b : Int) : Nat := (List.range N.toNat).countP fun (i : Nat) => decide (0 < dst N E (i : Int) b)
theorem dep_way {N : Int} {E : List Ed} (hg : goodG N E = true) (hc : ∀ n, ¬ Way E n n) {a b : Int} (ha : 0 ≤ a ∧ a < N) (h : Way E a b) : depT N E a < depT N E b := by
  have hb := h.in hg
  refine countP_lt _ _ _ (fun i _ hi => ?_) ⟨a.toNat, List.mem_range.2 (by omega), ?_, ?_⟩
  · exact decide_eq_true ((farL_way hg _ b hb.1).2 (((farL_way hg _ a ha.1).1 (of_decide_eq_true hi)).trans h))
  · exact decide_eq_true ((farL_way hg _ b hb.1).2 (by rw [Int.toNat_of_nonneg ha.1]; exact h))
  · refine decide_eq_false fun h2 => hc a ?_
    have := (farL_way hg _ a ha.1).1 h2
    rwa [Int.toNat_of_nonneg ha.1] at this
theorem dep_edge {N : Int} {E : List Ed} (hg : goodG N E = true) (hc : ∀ n, ¬ Way E n n) {a b : Int} (h : (a, b) ∈ E) : depT N E a < depT N E b := dep_way hg hc (good_mem hg h).1 (.one h)
theorem dep_lt {N : Int} {E : List Ed} (hg : goodG N E = true) (hc : ∀ n, ¬ Way E n n) {b : Int} (hb : 0 ≤ b ∧ b < N) : depT N E b < N.toNat := by
  have := countP_lt (fun (i : Nat) => decide (0 < dst N E (i : Int) b)) (fun _ => true) (List.range N.toNat) (fun _ _ _ => rfl) ⟨b.toNat, List.mem_range.2 (by omega), rfl, ?_⟩
  · simpa [depT] using this
  · refine decide_eq_false fun h2 => hc b ?_
    have := (farL_way hg _ b hb.1).1 h2
    rwa [Int.toNat_of_nonneg hb.1] at this
theorem has_rdy {N : Int} {E : List Ed} (hg : goodG N E = true) (hc : ∀ n, ¬ Way E n n) (out : List Int) : ∀ (m : Nat) (x : Int), depT N E x ≤ m → (0 ≤ x ∧ x < N) → x ∉ out → ∃ n, (0 ≤ n ∧ n < N) ∧ rdyT N E out n = true
  | m, x, hm, hx, ho => by
    by_cases hr : rdyT N E out x = true
    · exact ⟨x, hx, hr⟩
    · rw [rdyT_iff hg] at hr
      have : ∃ a, (a, x) ∈ E ∧ a ∉ out := by
        apply Classical.byContradiction
        intro hh
        refine hr ⟨fun a ha => ?_, ho⟩
        apply Classical.byContradiction
        exact fun h2 => hh ⟨a, ha, h2⟩
      obtain ⟨a, h1, h2⟩ := this
      have hd := dep_edge hg hc h1
      match m, hm with
      | 0, hm => omega
      | m + 1, hm => exact has_rdy hg hc out m a (by omega) (good_mem hg h1).1 h2
theorem ordF_some {N : Int} {E : List Ed} (hg : goodG N E = true) (hc : ∀ n, ¬ Way E n n) : ∀ (f : Nat) (out : List Int), OrdP N E out → out.length + f = N.toNat → ∃ l, ordF N E f out = some l
  | 0, out, h, hl => ⟨out, rfl⟩
  | f + 1, out, h, hl => by
    have hN := good_N hg
    have hx : ∃ x, (0 ≤ x ∧ x < N) ∧ x ∉ out := by
      apply Classical.byContradiction
      intro hh
      have := nodup_len (nodes N) out (nodes_nd N) fun x hx => by
        apply Classical.byContradiction
        exact fun h2 => hh ⟨x, (mem_nodes N x).1 hx, h2⟩
      rw [nodes_len] at this
      omega
    obtain ⟨x, hx1, hx2⟩ := hx
    obtain ⟨n, hn1, hn2⟩ := has_rdy hg hc out _ x (Nat.le_refl _) hx1 hx2
    unfold ordF
    rcases lowU_spec (rdyT N E out) N.toNat N.toNat (Nat.le_refl _) with ⟨h1, h2⟩ | ⟨m, h1, h2, h3, h4, _⟩
    · have := h2 n.toNat (by omega) (by omega)
      rw [Int.toNat_of_nonneg hn1.1, hn2] at this
      cases this
    · rw [h1, if_neg (by omega)]
      exact ordF_some hg hc f _ (h.snoc hg ⟨by omega, by omega⟩ h4) (by simp; omega)
theorem OrdP.way {N : Int} {E : List Ed} {l : List Int} (h : OrdP N E l) {a b : Int} (w : Way E a b) : ∀ i : Nat, l[i]? = some b → ∃ j, j < i ∧ l[j]? = some a := by
  induction w with
  | one e => exact fun i hi => h.top i _ hi _ e
  | more _ e ih =>
    intro i hi
    obtain ⟨j, h1, h2⟩ := h.top i _ hi _ e
    obtain ⟨k, h3, h4⟩ := ih j h2
    exact ⟨k, by omega, h4⟩
theorem nodup_at {l : List Int} (h : l.Nodup) {i j : Nat} {x : Int} (hi : l[i]? = some x) (hj : l[j]? = some x) : i = j := by
  obtain ⟨h1, h2⟩ := List.getElem?_eq_some_iff.1 hi
  obtain ⟨h3, h4⟩ := List.getElem?_eq_some_iff.1 hj
  rcases Nat.lt_trichotomy i j with hlt | rfl | hlt
  · exact absurd (h2.trans h4.symm) (List.pairwise_iff_getElem.1 h i j h1 h3 hlt)
  · rfl
  · exact absurd (h4.trans h2.symm) (List.pairwise_iff_getElem.1 h j i h3 h1 hlt)
/-- a whole order -/
structure TopS (N : Int) (E : List Ed) (l : List Int) : Prop extends OrdP N E l where
  len : l.length = N.toNat
theorem TopS.all {N : Int} {E : List Ed} {l : List Int} (h : TopS N E l) (x : Int) (hx : 0 ≤ x ∧ x < N) : x ∈ l := perm_all h.nd h.rng h.len x hx
theorem TopS.acyc {N : Int} {E : List Ed} (hg : goodG N E = true) {l : List Int} (h : TopS N E l) (n : Int) : ¬ Way E n n := fun w => by
  obtain ⟨i, hi⟩ := List.getElem?_of_mem (h.all n (w.in hg))
  obtain ⟨j, h1, h2⟩ := h.toOrdP.way w i hi
  have := nodup_at h.nd hi h2
  omega
theorem orderT_some {N : Int} {E : List Ed} {l : List Int} (h : orderT N E = some l) : goodG N E = true ∧ TopS N E l := by
  unfold orderT at h
  split at h
  · rename_i hg
    have := ordF_spec hg _ _ l (OrdP.nil N E) h
    exact ⟨hg, this.1, by simpa using this.2⟩
  · cases h
theorem orderT_none {N : Int} {E : List Ed} (hg : goodG N E = true) : orderT N E = none ↔ cycleL N E ≠ [] := by
  constructor
  · intro h hcy
    obtain ⟨l, hl⟩ := ordF_some hg ((cyc_none hg).1 hcy) N.toNat [] (OrdP.nil N E) (by simp)
    unfold orderT at h
    rw [if_pos hg, hl] at h
    cases h
  · intro h
    cases ho : orderT N E with
    | none => rfl
    | some l => exact absurd ((cyc_none hg).2 fun n => (orderT_some ho).2.acyc hg n) h
end Go.Proofs.Ytmejphlpcgochaa
