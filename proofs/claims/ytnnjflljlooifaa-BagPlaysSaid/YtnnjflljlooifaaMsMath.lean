/- The plain law of a message's bytes: they tell the message. No program is in sight. -/
import Derived.Test.YtnnjflljlooifaaMsBase
import Derived.Test.YtnnjflljlooifaaEncMath2
set_option linter.unusedVariables false
set_option linter.unusedSimpArgs false
namespace Go.Proofs.Ytnnjflljlooifaa
open Go.RowKit
def lens (L : List (Int × List Int)) : List (Int × Nat) := L.map fun l => (l.1, l.2.length)
theorem rvM_lens {w : World} {R : List RV} {L : List (Int × List Int)} (h : BytesAt w R L) : rvM R = lens L := by
  apply List.ext_getElem?
  intro i
  unfold rvM lens
  rw [List.getElem?_map, List.getElem?_map]
  rcases Nat.lt_or_ge i R.length with hi | hi
  · have hi' : i < L.length := by rw [← h.1]; exact hi
    rw [List.getElem?_eq_getElem hi, List.getElem?_eq_getElem hi']
    obtain ⟨h1, h2⟩ := h.2 i _ _ (List.getElem?_eq_getElem hi) (List.getElem?_eq_getElem hi')
    simp only [Option.map_some, Option.some.injEq, Prod.mk.injEq]
    exact ⟨h1, h2.1.symm⟩
  · rw [List.getElem?_eq_none hi, List.getElem?_eq_none (by rw [← h.1]; exact hi)]
    rfl
def encR (l : Int × List Int) : List Int := encU l.1 ++ encS l.2
def encM (k f e o p : Int) (L : List (Int × List Int)) (T : List Int) (te : Int) : List Int :=
  encU k ++ (encU f ++ (encU e ++ (encU o ++ (encU p ++ (encU L.length ++ (L.flatMap encR ++ (encU T.length ++ (T.flatMap encU ++ encU te))))))))
/-- what a good message's parts are -/
structure OkM (k f e o p : Int) (L : List (Int × List Int)) (T : List Int) (te : Int) : Prop where
  hk : 1 ≤ k ∧ k ≤ 3
  hf : 0 ≤ f ∧ f ≤ 1
  he : 1 ≤ e ∧ e ≤ 1048575
  ho : 0 ≤ o ∧ o ≤ 17592186044415
  hp : 0 ≤ p ∧ p ≤ 1048575
  hL : L.length ≤ 8
  hl : ∀ l ∈ L, (0 ≤ l.1 ∧ l.1 ≤ 18446744073709551615) ∧ IsB l.2 ∧ l.2.length ≤ 1024
  hT : T.length ≤ 64
  ht : ∀ x ∈ T, 0 ≤ x ∧ x ≤ 18446744073709551615
  hte : 0 ≤ te ∧ te ≤ 17592186044416
theorem rowF_mem : ∀ (L : List (Int × Nat)) (e o a : Int) (i : Nat), RowF e o a i L = true → ∀ l ∈ L, l.2 ≤ 1024
  | [], e, o, a, i, h, l, hl => by cases hl
  | (s, len) :: r, e, o, a, i, h, l, hl => by
    simp only [RowF, Bool.and_eq_true, decide_eq_true_eq] at h
    rcases List.mem_cons.1 hl with rfl | hl
    · exact h.2.2.1
    · exact rowF_mem r e o _ _ h.2.2.2 l hl
theorem goodM_ok (m : MV) (L : List (Int × List Int)) (T : List Int) (h : goodM m (lens L) T = true) (hl : L.length = m.ln) (ht : T.length = m.tn) (hs : ∀ l ∈ L, (0 ≤ l.1 ∧ l.1 ≤ 18446744073709551615) ∧ IsB l.2) (hW : IsW T) :
    OkM m.k m.f m.e m.o m.p L T m.te ∧ m.t = 1 - m.f := by
  unfold goodM at h
  simp only [Bool.and_eq_true, decide_eq_true_eq] at h
  obtain ⟨h1, h2, h3, h4, h5⟩ := h
  have hlen : ∀ (P : ∀ l ∈ lens L, l.2 ≤ 1024) (l : Int × List Int), l ∈ L → l.2.length ≤ 1024 := fun P l hm => P (l.1, l.2.length) (List.mem_map.2 ⟨l, hm, rfl⟩)
  have hnil : m.ln = 0 → ∀ l : Int × List Int, l ∈ L → l.2.length ≤ 1024 := by
    intro h0 l hm
    rw [List.eq_nil_of_length_eq_zero (by omega : L.length = 0)] at hm
    cases hm
  by_cases k1 : m.k = 1
  · rw [if_pos k1] at h5
    simp only [Bool.and_eq_true, decide_eq_true_eq] at h5
    obtain ⟨⟨g1, g2⟩, g3, g4, g5⟩ := h5
    exact ⟨⟨by omega, by omega, h2, h3, by omega, by omega, fun l hm => ⟨(hs l hm).1, (hs l hm).2, hlen (rowF_mem _ _ _ _ _ g4) l hm⟩, by omega, isW_mem hW, by omega⟩, by omega⟩
  · rw [if_neg k1] at h5
    by_cases k2 : m.k = 2
    · rw [if_pos k2] at h5
      simp only [Bool.and_eq_true, decide_eq_true_eq] at h5
      obtain ⟨⟨g1, g2⟩, g3, g4⟩ := h5
      exact ⟨⟨by omega, by omega, h2, h3, by omega, by omega, fun l hm => ⟨(hs l hm).1, (hs l hm).2, hnil g4 l hm⟩, by omega, isW_mem hW, by omega⟩, by omega⟩
    · rw [if_neg k2] at h5
      by_cases k3 : m.k = 3
      · rw [if_pos k3] at h5
        simp only [Bool.and_eq_true, decide_eq_true_eq] at h5
        obtain ⟨g1, g2, g3, g4, g5⟩ := h5
        unfold GoodT at g4
        exact ⟨⟨by omega, by omega, h2, h3, by omega, by omega, fun l hm => ⟨(hs l hm).1, (hs l hm).2, hnil g3 l hm⟩, by omega, isW_mem hW, g4.2⟩, by omega⟩
      · rw [if_neg k3] at h5; cases h5
theorem encU_app {a b : Int} {l l' : List Int} (a0 : 0 ≤ a) (a1 : a ≤ 18446744073709551615) (b0 : 0 ≤ b) (b1 : b ≤ 18446744073709551615) (h : encU a ++ l = encU b ++ l') : a = b ∧ l = l' := by
  have e := rdU_enc a l a0 a1
  rw [h, rdU_enc b l' b0 b1] at e
  simp only [Option.some.injEq, Prod.mk.injEq] at e
  exact ⟨e.1.symm, e.2.symm⟩
theorem encS_app {s s' l l' : List Int} (hs : s.length ≤ 1024) (hs' : s'.length ≤ 1024) (h : encS s ++ l = encS s' ++ l') : s = s' ∧ l = l' := by
  unfold encS at h
  rw [List.append_assoc, List.append_assoc] at h
  obtain ⟨e1, e2⟩ := encU_app (by omega) (by omega) (by omega) (by omega) h
  exact List.append_inj e2 (by omega)
theorem flatR_app : ∀ (L L' : List (Int × List Int)) (x x' : List Int), L.length = L'.length → (∀ l ∈ L, (0 ≤ l.1 ∧ l.1 ≤ 18446744073709551615) ∧ IsB l.2 ∧ l.2.length ≤ 1024) → (∀ l ∈ L', (0 ≤ l.1 ∧ l.1 ≤ 18446744073709551615) ∧ IsB l.2 ∧ l.2.length ≤ 1024) → L.flatMap encR ++ x = L'.flatMap encR ++ x' → L = L' ∧ x = x'
  | [], [], x, x', _, _, _, h => ⟨rfl, h⟩
  | [], _ :: _, _, _, hl, _, _, _ => by simp at hl
  | _ :: _, [], _, _, hl, _, _, _ => by simp at hl
  | (s, u) :: L, (s', u') :: L', x, x', hl, h1, h2, h => by
    obtain ⟨q1, q2, q3⟩ := h1 _ (List.mem_cons_self ..)
    obtain ⟨r1, r2, r3⟩ := h2 _ (List.mem_cons_self ..)
    simp only [List.flatMap_cons, encR, List.append_assoc] at h
    have g1 := encU_app q1.1 q1.2 r1.1 r1.2 h
    have g2 := encS_app q3 r3 g1.2
    have g3 := flatR_app L L' x x' (by simpa using hl) (fun l hm => h1 l (List.mem_cons_of_mem _ hm)) (fun l hm => h2 l (List.mem_cons_of_mem _ hm)) g2.2
    exact ⟨by rw [show s = s' from g1.1, show u = u' from g2.1, g3.1], g3.2⟩
theorem flatU_app : ∀ (L L' : List Int) (x x' : List Int), L.length = L'.length → (∀ l ∈ L, 0 ≤ l ∧ l ≤ 18446744073709551615) → (∀ l ∈ L', 0 ≤ l ∧ l ≤ 18446744073709551615) → L.flatMap encU ++ x = L'.flatMap encU ++ x' → L = L' ∧ x = x'
  | [], [], x, x', _, _, _, h => ⟨rfl, h⟩
  | [], _ :: _, _, _, hl, _, _, _ => by simp at hl
  | _ :: _, [], _, _, hl, _, _, _ => by simp at hl
  | s :: L, s' :: L', x, x', hl, h1, h2, h => by
    have q1 := h1 _ (List.mem_cons_self ..)
    have r1 := h2 _ (List.mem_cons_self ..)
    simp only [List.flatMap_cons, List.append_assoc] at h
    have g1 := encU_app q1.1 q1.2 r1.1 r1.2 h
    have g3 := flatU_app L L' x x' (by simpa using hl) (fun l hm => h1 l (List.mem_cons_of_mem _ hm)) (fun l hm => h2 l (List.mem_cons_of_mem _ hm)) g1.2
    exact ⟨by rw [g1.1, g3.1], g3.2⟩
theorem encM_inj {k f e o p te k' f' e' o' p' te' : Int} {L L' : List (Int × List Int)} {T T' : List Int} (h : OkM k f e o p L T te) (h' : OkM k' f' e' o' p' L' T' te') (he : encM k f e o p L T te = encM k' f' e' o' p' L' T' te') :
    k = k' ∧ f = f' ∧ e = e' ∧ o = o' ∧ p = p' ∧ L = L' ∧ T = T' ∧ te = te' := by
  obtain ⟨a1, a2, a3, a4, a5, a6, a7, a8, a9, a10⟩ := h
  obtain ⟨b1, b2, b3, b4, b5, b6, b7, b8, b9, b10⟩ := h'
  unfold encM at he
  have c1 := encU_app (by omega) (by omega) (by omega) (by omega) he
  have c2 := encU_app (by omega) (by omega) (by omega) (by omega) c1.2
  have c3 := encU_app (by omega) (by omega) (by omega) (by omega) c2.2
  have c4 := encU_app (by omega) (by omega) (by omega) (by omega) c3.2
  have c5 := encU_app (by omega) (by omega) (by omega) (by omega) c4.2
  have c6 := encU_app (by omega) (by omega) (by omega) (by omega) c5.2
  have n6 : L.length = L'.length := by have := c6.1; omega
  have c7 := flatR_app L L' _ _ n6 a7 b7 c6.2
  have c8 := encU_app (by omega) (by omega) (by omega) (by omega) c7.2
  have n8 : T.length = T'.length := by have := c8.1; omega
  have c9 := flatU_app T T' _ _ n8 a9 b9 c8.2
  exact ⟨c1.1, c2.1, c3.1, c4.1, c5.1, c7.1, c9.1, (encU_inj te te' (by omega) (by omega)).1 c9.2⟩
theorem encU_isB (v : Int) (h0 : 0 ≤ v) (h1 : v ≤ 18446744073709551615) : IsB (encU v) := isB_of_mem (encU_byte v h0 h1)
theorem flat_isB {α : Type} (F : α → List Int) : ∀ L : List α, (∀ l ∈ L, IsB (F l)) → IsB (L.flatMap F)
  | [], _ => by intro i; simp
  | x :: L, h => by
    rw [List.flatMap_cons]
    exact isB_append (h _ (List.mem_cons_self ..)) (flat_isB F L fun l hm => h l (List.mem_cons_of_mem _ hm))
theorem encR_isB (l : Int × List Int) (h0 : 0 ≤ l.1) (h1 : l.1 ≤ 18446744073709551615) (hB : IsB l.2) (hn : l.2.length ≤ 1024) : IsB (encR l) :=
  isB_append (encU_isB _ h0 h1) (isB_append (encU_isB _ (by omega) (by omega)) hB)
theorem encM_isB {k f e o p te : Int} {L : List (Int × List Int)} {T : List Int} (h : OkM k f e o p L T te) : IsB (encM k f e o p L T te) := by
  obtain ⟨a1, a2, a3, a4, a5, a6, a7, a8, a9, a10⟩ := h
  unfold encM
  exact isB_append (encU_isB _ (by omega) (by omega)) (isB_append (encU_isB _ (by omega) (by omega)) (isB_append (encU_isB _ (by omega) (by omega)) (isB_append (encU_isB _ (by omega) (by omega)) (isB_append (encU_isB _ (by omega) (by omega))
    (isB_append (encU_isB _ (by omega) (by omega)) (isB_append (flat_isB _ _ fun l hm => encR_isB l (a7 l hm).1.1 (a7 l hm).1.2 (a7 l hm).2.1 (a7 l hm).2.2) (isB_append (encU_isB _ (by omega) (by omega)) (isB_append (flat_isB _ _ fun l hm => encU_isB l (a9 l hm).1 (a9 l hm).2) (encU_isB _ (by omega) (by omega))))))))))
/-- lengths -/
theorem encR_len (l : Int × List Int) (hn : l.2.length ≤ 1024) : (encR l).length ≤ 1044 := by
  have h1 := (lenU_le l.1).2
  have h2 := (lenU_le l.2.length).2
  unfold lenU at h1 h2
  unfold encR encS
  simp only [List.length_append]
  omega
theorem flat_len {α : Type} (F : α → List Int) (b : Nat) : ∀ L : List α, (∀ l ∈ L, (F l).length ≤ b) → (L.flatMap F).length ≤ L.length * b
  | [], _ => by simp
  | x :: L, h => by
    rw [List.flatMap_cons, List.length_append, List.length_cons, Nat.add_mul, Nat.one_mul]
    have h1 := h _ (List.mem_cons_self ..)
    have h2 := flat_len F b L fun l hm => h l (List.mem_cons_of_mem _ hm)
    omega
end Go.Proofs.Ytnnjflljlooifaa
