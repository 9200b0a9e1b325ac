/- Graphs, plainly: what Short leaves out. -/
import Derived.Test.YtmejphlpcgochaaGrM2
import Derived.Test.YtmejphlpcgochaaGr11
set_option linter.unusedVariables false
set_option linter.unusedSimpArgs false
namespace Go.Proofs.Ytmejphlpcgochaa
open Go.RowKit
theorem goodA_iff (N : Int) : ∀ (l s : List Ed), goodA N l s = true ↔ (∀ e ∈ l, okE N e = true ∧ e ∉ s) ∧ l.Nodup
  | [], s => by simp [goodA]
  | e :: l, s => by
    unfold goodA
    simp only [Bool.and_eq_true, Bool.not_eq_true', goodA_iff N l (s ++ [e]), List.mem_cons, List.nodup_cons, List.mem_append, List.mem_singleton, not_or, List.contains_eq_mem, decide_eq_false_iff_not, List.not_mem_nil, or_false]
    constructor
    · rintro ⟨⟨h1, h2⟩, h3, h4⟩
      refine ⟨?_, fun h => (h3 e h).2.2 rfl, h4⟩
      rintro x (rfl | hx)
      · exact ⟨h1, h2⟩
      · exact ⟨(h3 x hx).1, (h3 x hx).2.1⟩
    · rintro ⟨h1, h2, h3⟩
      refine ⟨h1 e (.inl rfl), fun x hx => ⟨(h1 x (.inr hx)).1, (h1 x (.inr hx)).2, ?_⟩, h3⟩
      rintro rfl
      exact h2 hx
theorem good_iff (N : Int) (E : List Ed) : goodG N E = true ↔ (0 ≤ N ∧ N ≤ 16) ∧ (∀ e ∈ E, okE N e = true) ∧ E.Nodup := by
  unfold goodG
  rw [Bool.and_eq_true, goodA_iff, decide_eq_true_eq]
  simp
theorem good_sub {N : Int} {E F : List Ed} (h : goodG N E = true) (s : F.Sublist E) : goodG N F = true := by
  rw [good_iff] at h ⊢
  exact ⟨h.1, fun e he => h.2.1 e (s.subset he), h.2.2.sublist s⟩
theorem countP_lt {α : Type} (p q : α → Bool) : ∀ (l : List α), (∀ x ∈ l, p x = true → q x = true) → (∃ x ∈ l, q x = true ∧ p x = false) → l.countP p < l.countP q
  | [], _, h => by obtain ⟨x, hx, _⟩ := h; cases hx
  | y :: l, h, hx => by
    have hm : l.countP p ≤ l.countP q := List.countP_mono_left fun x hx => h x (List.mem_cons_of_mem _ hx)
    rw [List.countP_cons, List.countP_cons]
    obtain ⟨x, hx, h1, h2⟩ := hx
    rcases List.mem_cons.1 hx with rfl | hx
    · rw [h1, h2]; simp; omega
    · have := countP_lt p q l (fun x hx => h x (List.mem_cons_of_mem _ hx)) ⟨x, hx, h1, h2⟩
      have hy := h y (List.mem_cons_self ..)
      cases hp : p y <;> cases hq : q y <;> simp_all <;> omega
theorem countP_le {α : Type} (p q : α → Bool) (l : List α) (h : ∀ x ∈ l, p x = true → q x = true) : l.countP p ≤ l.countP q := List.countP_mono_left h
/-- how many nodes a node reaches -/
def rkG (N : Int) (E : List Ed) (a : Int) : Nat := (List.range N.toNat).countP fun (i : Nat) => decide (0 < dst N E a (i : Int))
theorem rk_edge {N : Int} {E : List Ed} (hg : goodG N E = true) (hc : ∀ n, ¬ Way E n n) {a b : Int} (h : Way E a b) : rkG N E b < rkG N E a := by
  have hb := h.in hg
  have way : ∀ (x : Int) (i : Nat), 0 < dst N E x (i : Int) ↔ Way E x (i : Int) := fun x i => farL_way hg x (i : Int) (by omega)
  refine countP_lt _ _ _ (fun i _ hi => ?_) ⟨b.toNat, List.mem_range.2 (by omega), ?_, ?_⟩
  · exact decide_eq_true ((way a i).2 (h.trans ((way b i).1 (of_decide_eq_true hi))))
  · exact decide_eq_true ((way a _).2 (by rw [Int.toNat_of_nonneg hb.1]; exact h))
  · refine decide_eq_false fun h2 => hc b ?_
    have := (way b _).1 h2
    rwa [Int.toNat_of_nonneg hb.1] at this
theorem around_iff {N : Int} {E : List Ed} (hg : goodG N E = true) (a b : Int) (hb : 0 ≤ b) : aroundB N E (a, b) = true ↔ ∃ n, (a, n) ∈ E ∧ n ≠ b ∧ Way E n b := by
  unfold aroundB
  rw [List.any_eq_true]
  simp only [mem_beh hg, elseP, Bool.and_eq_true, decide_eq_true_eq, farL_way hg _ b hb]
theorem cyclic_false {N : Int} {E : List Ed} (hg : goodG N E = true) (hc : cycleL N E = []) : cyclicB N E = false := by
  unfold cyclicB
  rw [hg, hc]; rfl
theorem shortL_sub (N : Int) (E : List Ed) : (shortL N E).Sublist E := List.filter_sublist
theorem Way.mono {E F : List Ed} (h : ∀ e ∈ E, e ∈ F) {a b : Int} (w : Way E a b) : Way F a b := by
  induction w with
  | one e => exact .one (h _ e)
  | more _ e ih => exact .more ih (h _ e)
theorem way_by {N : Int} {E F : List Ed} (hg : goodG N E = true) (hc : ∀ n, ¬ Way E n n) {n c : Int} (w : Way E n c) (h : ∀ x y, (x, y) ∈ E → rkG N E x ≤ rkG N E n → rkG N E c ≤ rkG N E y → Way F x y) : Way F n c := by
  induction w with
  | one e => exact h _ _ e (Nat.le_refl _) (Nat.le_refl _)
  | more w e ih =>
    have h1 := rk_edge hg hc (.one e)
    have h2 := rk_edge hg hc w
    exact (ih fun x y he hx hy => h x y he hx (by omega)).trans (h _ _ e (by omega) (Nat.le_refl _))
theorem short_edge {N : Int} {E : List Ed} (hg : goodG N E = true) (hcy : cycleL N E = []) : ∀ (m : Nat) (a b : Int), rkG N E a - rkG N E b ≤ m → (a, b) ∈ E → Way (shortL N E) a b
  | m, a, b, hm, he => by
    have hc := (cyc_none hg).1 hcy
    have hr := rk_edge hg hc (.one he)
    have hb := (good_mem hg he).2.1.1
    cases har : aroundB N E (a, b) with
    | false =>
      refine .one ?_
      unfold shortL
      rw [List.mem_filter, cyclic_false hg hcy, har]
      exact ⟨he, rfl⟩
    | true =>
      obtain ⟨n, h1, h2, h3⟩ := (around_iff hg a b hb).1 har
      have hn := rk_edge hg hc h3
      have ha := rk_edge hg hc (.one h1)
      match m, hm with
      | 0, hm => omega
      | m + 1, hm =>
        refine Way.trans (short_edge hg hcy m a n (by omega) h1) (way_by hg hc h3 fun x y e hx hy => ?_)
        have hxy := rk_edge hg hc (.one e)
        exact short_edge hg hcy m x y (by omega) e
theorem short_way {N : Int} {E : List Ed} (hg : goodG N E = true) (hcy : cycleL N E = []) (a b : Int) : Way (shortL N E) a b ↔ Way E a b := by
  constructor
  · exact Way.mono fun e he => (shortL_sub N E).subset he
  · intro h
    induction h with
    | one e => exact short_edge hg hcy _ _ _ (Nat.le_refl _) e
    | more _ e ih => exact ih.trans (short_edge hg hcy _ _ _ (Nat.le_refl _) e)
theorem short_good {N : Int} {E : List Ed} (hg : goodG N E = true) : goodG N (shortL N E) = true := good_sub hg (shortL_sub N E)
theorem short_cyc {N : Int} {E : List Ed} (hg : goodG N E = true) (hcy : cycleL N E = []) : cycleL N (shortL N E) = [] := by
  rw [cyc_none (short_good hg)]
  intro n hn
  exact (cyc_none hg).1 hcy n ((short_way hg hcy n n).1 hn)
theorem short_short {N : Int} {E : List Ed} (hg : goodG N E = true) (hcy : cycleL N E = []) : shortL N (shortL N E) = shortL N E := by
  refine List.filter_eq_self.2 ?_
  rintro ⟨a, b⟩ he
  rw [cyclic_false (short_good hg) (short_cyc hg hcy)]
  have hb := (good_mem (short_good hg) he).2.1.1
  have hn : aroundB N E (a, b) = false := by
    unfold shortL at he
    rw [List.mem_filter, cyclic_false hg hcy] at he
    simpa using he.2
  cases har : aroundB N (shortL N E) (a, b) with
  | false => rfl
  | true =>
    obtain ⟨n, h1, h2, h3⟩ := (around_iff (short_good hg) a b hb).1 har
    have := (around_iff hg a b hb).2 ⟨n, (shortL_sub N E).subset h1, h2, (short_way hg hcy n b).1 h3⟩
    rw [hn] at this
    cases this
/-- two rows in order with the same numbers are one -/
theorem srt_ext : ∀ {a b : List Int}, a.Pairwise (· < ·) → b.Pairwise (· < ·) → (∀ x, x ∈ a ↔ x ∈ b) → a = b
  | [], [], _, _, _ => rfl
  | [], y :: b, _, _, h => by have := (h y).2 (List.mem_cons_self ..); cases this
  | x :: a, [], _, _, h => by have := (h x).1 (List.mem_cons_self ..); cases this
  | x :: a, y :: b, ha, hb, h => by
    obtain ⟨ha1, ha2⟩ := List.pairwise_cons.1 ha
    obtain ⟨hb1, hb2⟩ := List.pairwise_cons.1 hb
    have hxy : x = y := by
      have h1 := (h x).1 (List.mem_cons_self ..)
      have h2 := (h y).2 (List.mem_cons_self ..)
      rcases List.mem_cons.1 h1 with h1 | h1
      · exact h1
      · rcases List.mem_cons.1 h2 with h2 | h2
        · exact h2.symm
        · have := hb1 x h1; have := ha1 y h2; omega
    subst hxy
    congr 1
    refine srt_ext ha2 hb2 fun z => ⟨fun hz => ?_, fun hz => ?_⟩
    · rcases List.mem_cons.1 ((h z).1 (List.mem_cons_of_mem _ hz)) with h1 | h1
      · subst h1; have := ha1 z hz; omega
      · exact h1
    · rcases List.mem_cons.1 ((h z).2 (List.mem_cons_of_mem _ hz)) with h1 | h1
      · subst h1; have := hb1 z hz; omega
      · exact h1
end Go.Proofs.Ytmejphlpcgochaa
