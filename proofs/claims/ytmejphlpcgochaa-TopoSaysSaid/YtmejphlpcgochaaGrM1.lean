/- Graphs, plainly: what is reached is what a way of edges leads to. -/
import Derived.Test.YtmejphlpcgochaaGr8
set_option linter.unusedVariables false
set_option linter.unusedSimpArgs false
namespace Go.Proofs.Ytmejphlpcgochaa
open Go.RowKit
/-- a way of one edge or more -/
inductive Way (E : List Ed) : Int → Int → Prop
  | one {a b : Int} (h : (a, b) ∈ E) : Way E a b
  | more {a b c : Int} (h : Way E a b) (k : (b, c) ∈ E) : Way E a c
theorem Way.trans {E : List Ed} {a b c : Int} (h : Way E a b) (k : Way E b c) : Way E a c := by
  induction k with
  | one k => exact .more h k
  | more _ k ih => exact .more ih k
theorem Way.in {N : Int} {E : List Ed} (hg : goodG N E = true) {a b : Int} (h : Way E a b) : 0 ≤ b ∧ b < N := by
  cases h with
  | one h => exact (good_mem hg h).2.1
  | more _ h => exact (good_mem hg h).2.1
theorem mem_beh {N : Int} {E : List Ed} (hg : goodG N E = true) (a b : Int) : b ∈ besL N E a 0 ↔ (a, b) ∈ E := by
  rw [mem_besL hg]
  constructor
  · rintro ⟨⟨x, y⟩, h1, h2, h3⟩
    simp [endOf] at h2 h3
    rw [← h2, ← h3]; exact h1
  · intro h
    exact ⟨(a, b), h, by simp [endOf], by simp [endOf]⟩
theorem mem_ahd {N : Int} {E : List Ed} (hg : goodG N E = true) (a b : Int) : a ∈ besL N E b 1 ↔ (a, b) ∈ E := by
  rw [mem_besL hg]
  constructor
  · rintro ⟨⟨x, y⟩, h1, h2, h3⟩
    simp [endOf] at h2 h3
    rw [← h2, ← h3]; exact h1
  · intro h
    exact ⟨(a, b), h, by simp [endOf], by simp [endOf]⟩
def mkd (l : List Int) (b : Int) : Prop := l.getD b.toNat 0 ≠ 0
theorem stepB_mk (s : Int) (hs : s ≠ 0) (st : FS) (b c : Int) (hb : 0 ≤ b ∧ b < st.1.length) (hc : 0 ≤ c) : mkd (stepB s st b).1 c ↔ mkd st.1 c ∨ c = b := by
  unfold mkd stepB
  split
  · rename_i h0
    by_cases hcb : c = b
    · subst hcb
      have : c.toNat < st.1.length := by omega
      simp [List.getD_eq_getElem?_getD, this, hs]
    · have : b.toNat ≠ c.toNat := by omega
      simp [List.getD_eq_getElem?_getD, List.getElem?_set, this, hcb]
  · rename_i h0
    constructor
    · exact .inl
    · rintro (h | rfl)
      · exact h
      · exact h0
theorem stepB_nx (s : Int) (st : FS) (b : Int) : (∀ x, x ∈ (stepB s st b).2 → x ∈ st.2 ∨ x = b) ∧ (∀ x ∈ st.2, x ∈ (stepB s st b).2) := by
  unfold stepB
  split
  · exact ⟨fun x hx => by simpa using hx, fun x hx => by simp [hx]⟩
  · exact ⟨fun x hx => .inl hx, fun x hx => hx⟩
theorem stepB_new (s : Int) (hs : s ≠ 0) (st : FS) (b c : Int) (hb : 0 ≤ b ∧ b < st.1.length) (hc : 0 ≤ c) (h : mkd (stepB s st b).1 c) : mkd st.1 c ∨ c ∈ (stepB s st b).2 := by
  rcases (stepB_mk s hs st b c hb hc).1 h with h | rfl
  · exact .inl h
  · by_cases h0 : st.1.getD c.toNat 0 = 0
    · right
      unfold stepB
      rw [if_pos h0]
      simp
    · exact .inl h0
/-- a state's word: what is marked, what is to come -/
structure FoldW (S : Int → Prop) (st st' : FS) : Prop where
  len : st'.1.length = st.1.length
  marks : ∀ c, 0 ≤ c → (mkd st'.1 c ↔ mkd st.1 c ∨ S c)
  nx : ∀ x, x ∈ st'.2 → x ∈ st.2 ∨ S x
  keep : ∀ x ∈ st.2, x ∈ st'.2
  new : ∀ c, 0 ≤ c → mkd st'.1 c → mkd st.1 c ∨ c ∈ st'.2
theorem FoldW.refl (st : FS) : FoldW (fun _ => False) st st := ⟨rfl, fun c _ => by simp, fun x h => .inl h, fun x h => h, fun c _ h => .inl h⟩
theorem FoldW.trans {S T : Int → Prop} {a b c : FS} (h : FoldW S a b) (k : FoldW T b c) : FoldW (fun x => S x ∨ T x) a c := by
  refine ⟨k.len.trans h.len, fun x hx => ?_, fun x hx => ?_, fun x hx => k.keep x (h.keep x hx), fun x hx hm => ?_⟩
  · rw [k.marks x hx, h.marks x hx, or_assoc]
  · rcases k.nx x hx with h1 | h1
    · rcases h.nx x h1 with h2 | h2
      · exact .inl h2
      · exact .inr (.inl h2)
    · exact .inr (.inr h1)
  · rcases k.new x hx hm with h1 | h1
    · rcases h.new x hx h1 with h2 | h2
      · exact .inl h2
      · exact .inr (k.keep x h2)
    · exact .inr h1
theorem FoldW.iff {S T : Int → Prop} {a b : FS} (h : FoldW S a b) (hST : ∀ x, S x ↔ T x) : FoldW T a b :=
  ⟨h.len, fun x hx => by rw [h.marks x hx, hST x], fun x hx => by rw [← hST x]; exact h.nx x hx, h.keep, h.new⟩
theorem foldB_w (s : Int) (hs : s ≠ 0) : ∀ (l : List Int) (st : FS), (∀ b ∈ l, 0 ≤ b ∧ b < st.1.length) → FoldW (fun x => x ∈ l) st (l.foldl (stepB s) st)
  | [], st, _ => (FoldW.refl st).iff (by simp)
  | b :: l, st, h => by
    have hb := h b (List.mem_cons_self ..)
    have h1 : FoldW (fun x => x = b) st (stepB s st b) := ⟨stepB_len s st b, fun c hc => stepB_mk s hs st b c hb hc, (stepB_nx s st b).1, (stepB_nx s st b).2, fun c hc hm => stepB_new s hs st b c hb hc hm⟩
    have h2 := foldB_w s hs l (stepB s st b) (fun x hx => by rw [h1.len]; exact h x (List.mem_cons_of_mem _ hx))
    exact (h1.trans h2).iff (by simp)
theorem foldA_w {N : Int} {E : List Ed} (hg : goodG N E = true) (s : Int) (hs : s ≠ 0) : ∀ (l : List Int) (st : FS), (st.1.length : Int) = N → FoldW (fun x => ∃ a ∈ l, (a, x) ∈ E) st (l.foldl (stepA N E s) st)
  | [], st, _ => (FoldW.refl st).iff (by simp)
  | a :: l, st, h => by
    have h1 := (foldB_w s hs (besL N E a 0) st (fun b hb => by have := besL_in hg hb; omega)).iff (fun x => mem_beh hg a x)
    have h2 := foldA_w hg s hs l (stepA N E s st a) (by unfold stepA; rw [h1.len]; exact h)
    exact (h1.trans h2).iff (by simp)
/-- what stays true from round to round -/
structure RndI (E : List Ed) (n : Int) (out at' : List Int) : Prop where
  snd : ∀ b, 0 ≤ b → mkd out b → Way E n b
  atS : ∀ a ∈ at', a = n ∨ Way E n a
  cmp : ∀ a c, (a = n ∨ (0 ≤ a ∧ mkd out a)) → (a, c) ∈ E → a ∈ at' ∨ mkd out c
theorem RndI.next {N : Int} {E : List Ed} (hg : goodG N E = true) {n : Int} {out at' : List Int} (h : RndI E n out at') (s : Int) (hs : s ≠ 0) (hl : (out.length : Int) = N) :
    RndI E n (at'.foldl (stepA N E s) (out, [])).1 (at'.foldl (stepA N E s) (out, [])).2 := by
  have W := foldA_w hg s hs at' (out, []) hl
  generalize at'.foldl (stepA N E s) (out, []) = st at *
  have hS : ∀ x, (∃ a ∈ at', (a, x) ∈ E) → Way E n x := by
    rintro x ⟨a, ha, hx⟩
    rcases h.atS a ha with rfl | hw
    · exact .one hx
    · exact .more hw hx
  refine ⟨fun b hb hm => ?_, fun a ha => ?_, fun a c hac hE => ?_⟩
  · rcases (W.marks b hb).1 hm with h1 | h1
    · exact h.snd b hb h1
    · exact hS b h1
  · rcases W.nx a ha with h1 | h1
    · cases h1
    · exact .inr (hS a h1)
  · have hc0 : 0 ≤ c := (good_mem hg hE).2.1.1
    have old : (a = n ∨ (0 ≤ a ∧ mkd out a)) → mkd st.1 c := fun ho => by
      rcases h.cmp a c ho hE with h1 | h1
      · exact (W.marks c hc0).2 (.inr ⟨a, h1, hE⟩)
      · exact (W.marks c hc0).2 (.inl h1)
    rcases hac with h1 | ⟨h1, h2⟩
    · exact .inr (old (.inl h1))
    · rcases W.new a h1 h2 with h3 | h3
      · exact .inr (old (.inr ⟨h1, h3⟩))
      · exact .inl h3
theorem farF_mk {N : Int} {E : List Ed} (hg : goodG N E = true) (n : Int) : ∀ (f : Nat) (s : Int) (out at' : List Int), 0 < s → (out.length : Int) = N → (at' ≠ [] → zers out + 2 ≤ f) → RndI E n out at' → ∀ b, 0 ≤ b → (mkd (farF N E f s out at') b ↔ Way E n b)
  | f, s, out, [], hs, hl, hz, hI, b, hb => by
    rw [farF_nil]
    refine ⟨hI.snd b hb, fun hw => ?_⟩
    induction hw with
    | one h =>
      rcases hI.cmp n _ (.inl rfl) h with h1 | h1
      · cases h1
      · exact h1
    | more hw h ih =>
      have hr := Way.in hg hw
      rcases hI.cmp _ _ (.inr ⟨hr.1, ih hr.1⟩) h with h1 | h1
      · cases h1
      · exact h1
  | 0, s, out, a :: l, hs, hl, hz, hI, b, hb => by have := hz (by simp); omega
  | f + 1, s, out, a :: l, hs, hl, hz, hI, b, hb => by
    have hzz := foldA_zer hg s (by omega) (a :: l) (out, []) hl
    have hzl := hz (by simp)
    rw [farF, if_neg (by simp)]
    refine farF_mk hg n f (s + 1) _ _ (by omega) (by rw [hzz.1]; exact hl) (fun hne => ?_) (hI.next hg s (by omega) hl) b hb
    have : 0 < ((a :: l).foldl (stepA N E s) (out, [])).2.length := List.length_pos_iff.2 hne
    simp only [List.length_nil, Nat.add_zero] at hzz
    omega
theorem farL_way {N : Int} {E : List Ed} (hg : goodG N E = true) (n b : Int) (hb : 0 ≤ b) : 0 < (farL N E n).getD b.toNat 0 ↔ Way E n b := by
  have hN := good_N hg
  have h0 : ∀ i, (List.replicate N.toNat (0 : Int)).getD i 0 = 0 := fun i => by
    simp only [List.getD_eq_getElem?_getD, List.getElem?_replicate]
    split <;> rfl
  have h := farF_mk hg n (N.toNat + 2) 1 (List.replicate N.toNat 0) [n] (by omega) (by simp; omega) (fun _ => by
    have := zers_le (List.replicate N.toNat (0 : Int))
    simp at this
    omega) ⟨fun c _ hm => absurd (h0 _) hm, fun a ha => by simp at ha; exact .inl ha, fun a c hac _ => by
      rcases hac with rfl | ⟨_, hm⟩
      · exact .inl (by simp)
      · exact absurd (h0 _) hm⟩ b hb
  have hbd := farL_bd hg n b.toNat
  unfold mkd at h
  rw [← h]
  show _ ↔ (farL N E n).getD b.toNat 0 ≠ 0
  omega
end Go.Proofs.Ytmejphlpcgochaa
