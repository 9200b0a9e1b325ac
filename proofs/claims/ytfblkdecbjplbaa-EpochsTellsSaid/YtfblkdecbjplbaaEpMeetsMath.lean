/- Two logs that began as one: what Meet tells of their tables (no program in sight). -/
import Derived.Test.YtfblkdecbjplbaaEpOf2
import Derived.Test.YtfblkdecbjplbaaEpMeet
set_option linter.unusedVariables false
set_option linter.unusedSimpArgs false
namespace Go.Proofs.Ytfblkdecbjplbaa
open Go.RowKit
theorem idxF_none {L : List Int} {s : Int} : ∀ f j, (∀ k, j ≤ k → k < j + f → L.getD k 0 ≠ s) → idxF L s f j = none
  | 0, _, _ => rfl
  | f + 1, j, h => by
    unfold idxF
    rw [if_neg (h j (Nat.le_refl _) (by omega))]
    exact idxF_none f (j + 1) fun k h1 h2 => h k (by omega) (by omega)
theorem idx_none {L : List Int} {s : Int} (h : ∀ k, k < L.length → L.getD k 0 ≠ s) : idx L s = none := idxF_none _ _ fun k _ h2 => h k (by omega)
theorem idxF_some {L : List Int} {s : Int} (t : Nat) (ht : L.getD t 0 = s) : ∀ f j, j ≤ t → t < j + f → (∀ k, j ≤ k → k < t → L.getD k 0 ≠ s) → idxF L s f j = some t
  | 0, j, h1, h2, _ => by omega
  | f + 1, j, h1, h2, h => by
    unfold idxF
    by_cases e : j = t
    · subst e; rw [if_pos ht]
    · rw [if_neg (h j (Nat.le_refl _) (by omega))]
      exact idxF_some t ht f (j + 1) (by omega) (by omega) fun k h3 h4 => h k (by omega) h4
theorem good_off {L : List Int} {E : Int} (hg : GoodT L E) : ∀ d i, i + d + 1 < L.length → ofI (L.getD i 0) < ofI (L.getD (i + d + 1) 0)
  | 0, i, h => by have := ((hg.1 (i + 1) h).2 (by omega)).2; simpa using this
  | d + 1, i, h => by
    have h1 := good_off hg d i (by omega)
    have h2 := ((hg.1 (i + d + 1 + 1) (by omega)).2 (by omega)).2
    rw [Nat.add_sub_cancel] at h2
    have e : i + (d + 1) + 1 = i + d + 1 + 1 := by omega
    rw [e]; omega
theorem idx_self {L : List Int} {E : Int} (hg : GoodT L E) (t : Nat) (ht : t < L.length) : idx L (L.getD t 0) = some t := by
  refine idxF_some t rfl _ _ (Nat.zero_le _) (by omega) fun k _ hk e => ?_
  have := good_off hg (t - k - 1) k (by omega)
  rw [show k + (t - k - 1) + 1 = t by omega, e] at this
  omega
theorem getD_left {A B : List Int} {i : Nat} (h : i < A.length) : (A ++ B).getD i 0 = A.getD i 0 := by simp [List.getD_eq_getElem?_getD, List.getElem?_append_left h]
theorem getD_right {A B : List Int} {i : Nat} (h : A.length ≤ i) : (A ++ B).getD i 0 = B.getD (i - A.length) 0 := by simp [List.getD_eq_getElem?_getD, List.getElem?_append_right h]
theorem getD_mem {A : List Int} {i : Nat} (h : i < A.length) : A.getD i 0 ∈ A := by rw [List.getD_eq_getElem?_getD, List.getElem?_eq_getElem h]; exact List.getElem_mem h
theorem ends_split {T R : List Int} {E N : Int} (h1 : R = [] → E = N) (h2 : R ≠ [] → ofI (R.getD 0 0) = N) (t : Nat) (ht : T.length = t + 1) : endsI (T ++ R) E t = N := by
  unfold endsI
  by_cases hr : R = []
  · subst hr
    rw [if_neg (by simp; omega)]; exact h1 rfl
  · have : 0 < R.length := List.length_pos_iff.2 hr
    rw [if_pos (by simp; omega), getD_right (by omega), show t + 1 - T.length = 0 by omega]
    exact h2 hr
theorem first_split {R : List Int} {E N : Int} (h1 : R = [] → E = N) (h2 : R ≠ [] → ofI (R.getD 0 0) = N) : firstI R E = N := by
  unfold firstI
  split
  · rename_i h; exact h1 h
  · rename_i h; exact h2 h
theorem meet_split (T RA RB : List Int) (EA EB N : Int) (gA : GoodT (T ++ RA) EA) (gB : GoodT (T ++ RB) EB) (hd : ∀ x ∈ RA, ∀ y ∈ T ++ RB, y ≠ x)
    (a1 : RA = [] → EA = N) (a2 : RA ≠ [] → ofI (RA.getD 0 0) = N) (b1 : RB = [] → EB = N) (b2 : RB ≠ [] → ofI (RB.getD 0 0) = N) : meetI (T ++ RA) EA (T ++ RB) EB = N := by
  unfold meetI
  rw [if_neg (by rintro (h | h); exact h gA; exact h gB)]
  have hdown : ∀ k, k ≤ RA.length → meetGo (T ++ RA) (T ++ RB) EA EB (T.length + k) = meetGo (T ++ RA) (T ++ RB) EA EB T.length := by
    intro k
    induction k with
    | zero => intro _; rfl
    | succ k ih =>
      intro hk
      rw [← Nat.add_assoc, meetGo, getD_right (by omega), show T.length + k - T.length = k by omega]
      rw [idx_none fun j hj => hd _ (getD_mem (by omega)) _ (getD_mem hj)]
      exact ih (by omega)
  rw [show (T ++ RA).length = T.length + RA.length by simp, hdown _ (Nat.le_refl _)]
  cases hT : T.length with
  | zero =>
    have : T = [] := List.eq_nil_of_length_eq_zero hT
    subst this
    rw [meetGo]
    simp only [List.nil_append]
    rw [first_split a1 a2, first_split b1 b2, if_pos rfl]
  | succ t =>
    rw [meetGo]
    have e1 : (T ++ RA).getD t 0 = (T ++ RB).getD t 0 := by rw [getD_left (by omega), getD_left (by omega)]
    rw [e1, idx_self gB t (by simp; omega)]
    show min (endsI (T ++ RA) EA t) (endsI (T ++ RB) EB t) = N
    rw [ends_split a1 a2 t hT, ends_split b1 b2 t hT]
    omega
/-- stamps of consecutive places, their epochs rising up to e -/
def Runs (l : List Int) (e : Int) : Prop := (∀ i, i < l.length → ofI (l.getD i 0) = i ∧ 1 ≤ epI (l.getD i 0) ∧ epI (l.getD i 0) ≤ e) ∧ ∀ i, i + 1 < l.length → epI (l.getD i 0) ≤ epI (l.getD (i + 1) 0)
theorem runs_nil (e : Int) : Runs [] e := ⟨fun i h => absurd h (by simp), fun i h => absurd h (by simp)⟩
theorem ep_of_pack (e o : Int) (o0 : 0 ≤ o) (o1 : o ≤ 17592186044415) : epI (e * 17592186044416 + o) = e ∧ ofI (e * 17592186044416 + o) = o := by unfold epI ofI; omega
theorem runs_snoc {l : List Int} {e e' : Int} (h : Runs l e) (he : e ≤ e') (h1 : 1 ≤ e') (hn : l.length ≤ 1000) : Runs (l ++ [e' * 17592186044416 + l.length]) e' := by
  obtain ⟨p, q⟩ := h
  obtain ⟨x1, x2⟩ := ep_of_pack e' l.length (by omega) (by omega)
  refine ⟨fun i hi => ?_, fun i hi => ?_⟩
  · simp at hi
    rcases Nat.lt_or_ge i l.length with hl | hl
    · rw [getD_left hl]; have := p i hl; exact ⟨this.1, this.2.1, by omega⟩
    · obtain rfl : i = l.length := by omega
      rw [getD_right (Nat.le_refl _), Nat.sub_self]
      show ofI (e' * 17592186044416 + l.length) = _ ∧ 1 ≤ epI (e' * 17592186044416 + l.length) ∧ epI (e' * 17592186044416 + l.length) ≤ e'
      rw [x1, x2]; exact ⟨rfl, h1, Int.le_refl _⟩
  · simp at hi
    rcases Nat.lt_or_ge (i + 1) l.length with hl | hl
    · rw [getD_left (by omega), getD_left hl]; exact q i hl
    · obtain hi' : i + 1 = l.length := by omega
      rw [getD_left (by omega), hi', getD_right (Nat.le_refl _), Nat.sub_self]
      show _ ≤ epI (e' * 17592186044416 + l.length)
      rw [x1]
      have := (p i (by omega)).2.2
      omega
theorem runs_rises {l : List Int} {e : Int} (h : Runs l e) : Rises l := fun i hi => ⟨by rw [(h.1 (i + 1) hi).1, (h.1 i (by omega)).1]; push_cast; rfl, h.2 i hi⟩
theorem runs_isW {l : List Int} {e : Int} (h : Runs l e) (he : e ≤ 1000) : IsW l := by
  intro i
  by_cases hi : i < l.length
  · have h1 := h.1 i hi
    unfold ofI epI at h1
    omega
  · rw [List.getD_eq_getElem?_getD, List.getElem?_eq_none (by omega)]; simp
theorem runs_end {l : List Int} {e : Int} (h : Runs l e) : endOf l = l.length := by
  unfold endOf
  split
  · rename_i h; rw [h]; rfl
  · rename_i hn
    have : 0 < l.length := List.length_pos_iff.2 hn
    rw [(h.1 0 this).1]; simp
theorem tabL_congr {l l' : List Int} : ∀ k, (∀ i, i < k → l.getD i 0 = l'.getD i 0) → tabL l k = tabL l' k
  | 0, _ => rfl
  | k + 1, h => by
    show addL (tabL l k) (l.getD k 0) = addL (tabL l' k) (l'.getD k 0)
    rw [tabL_congr k (fun i hi => h i (by omega)), h k (by omega)]
/-- the table of a log that goes on -/
theorem tabL_split {C P : List Int} (hr : Rises C) (hP : ∀ x ∈ P, ∀ i, i < C.length → epI (C.getD i 0) < epI x) : ∀ k, k ≤ P.length → ∃ R, tabL (C ++ P) (C.length + k) = tabL C C.length ++ R ∧ (∀ x ∈ R, x ∈ P) ∧ (0 < k → R ≠ [] ∧ R.getD 0 0 = P.getD 0 0)
  | 0, _ => ⟨[], (by rw [List.append_nil]; exact tabL_congr _ fun i hi => getD_left hi), (fun x hx => by cases hx), fun h => by omega⟩
  | k + 1, hk => by
    obtain ⟨R, h1, h2, h3⟩ := tabL_split hr hP k (by omega)
    have hs : tabL (C ++ P) (C.length + (k + 1)) = addL (tabL C C.length ++ R) (P.getD k 0) := by
      show addL (tabL (C ++ P) (C.length + k)) ((C ++ P).getD (C.length + k) 0) = _
      rw [h1, getD_right (by omega), show C.length + k - C.length = k by omega]
    unfold addL at hs
    by_cases hc : tabL C C.length ++ R = [] ∨ epI ((tabL C C.length ++ R).getD ((tabL C C.length ++ R).length - 1) 0) < epI (P.getD k 0)
    · rw [if_pos hc] at hs
      refine ⟨R ++ [P.getD k 0], by rw [hs, List.append_assoc], fun x hx => ?_, fun _ => ⟨by simp, ?_⟩⟩
      · rcases List.mem_append.1 hx with hx | hx
        · exact h2 x hx
        · rw [List.mem_singleton.1 hx]; exact getD_mem (by omega)
      · cases k with
        | zero =>
          cases R with
          | nil => rfl
          | cons r R => exact absurd (h2 r (by simp)) (by intro hm; exfalso; have := congrArg List.length h1; have hh := tabL_congr C.length (fun i hi => getD_left (A := C) (B := P) hi); rw [show C.length + 0 = C.length from rfl, hh] at this; simp at this)
        | succ k =>
          obtain ⟨n1, n2⟩ := h3 (by omega)
          rw [getD_left (List.length_pos_iff.2 n1)]; exact n2
    · rw [if_neg hc] at hs
      refine ⟨R, hs, h2, fun _ => ?_⟩
      cases k with
      | zero =>
        exfalso
        have hh := tabL_congr C.length (fun i hi => getD_left (A := C) (B := P) hi)
        have hR : R = [] := by
          have := congrArg List.length h1
          rw [show C.length + 0 = C.length from rfl, hh] at this
          simp at this
          exact this
        subst hR
        rw [List.append_nil] at hc
        apply hc
        by_cases hC : C.length = 0
        · left; have : C = [] := List.eq_nil_of_length_eq_zero hC; subst this; rfl
        · right
          obtain ⟨t, ht⟩ := Nat.exists_eq_succ_of_ne_zero hC
          have := (tabL_last hr t (by omega)).2
          rw [show t + 1 = C.length by omega] at this
          rw [this]
          exact hP _ (getD_mem (by omega)) t (by omega)
      | succ k => exact h3 (by omega)
theorem full_good {l : List Int} {e : Int} (h : Runs l e) (he : e ≤ 1000) (hn : l.length ≤ 1000) : GoodT (tabL l l.length) (endOf l) := by
  by_cases h0 : l.length = 0
  · have : l = [] := List.eq_nil_of_length_eq_zero h0
    subst this
    exact good_nil (by decide) (by decide)
  · have hl : 0 < l.length := by omega
    have h1 := (h.1 0 hl).1
    have hne : l ≠ [] := List.length_pos_iff.1 hl
    have := tab_good (runs_rises h) (runs_isW h he) hl (by rw [h1]; omega) l.length (Nat.le_refl _)
    unfold endOf
    rw [if_neg hne]
    exact this
theorem mem_getD {l : List Int} {x : Int} (h : x ∈ l) : ∃ i, i < l.length ∧ l.getD i 0 = x := by
  obtain ⟨i, hi, rfl⟩ := List.mem_iff_getElem.1 h
  exact ⟨i, hi, by rw [List.getD_eq_getElem?_getD, List.getElem?_eq_getElem hi]; rfl⟩
theorem split_facts {C P R : List Int} {x : Int} (hCP : Runs (C ++ P) x) (h3 : 0 < P.length → R ≠ [] ∧ R.getD 0 0 = P.getD 0 0) (hR : ∀ z ∈ R, z ∈ P) :
    (R = [] → endOf (C ++ P) = C.length) ∧ (R ≠ [] → ofI (R.getD 0 0) = C.length) := by
  constructor
  · intro h
    have hP : P.length = 0 := by
      rcases Nat.eq_zero_or_pos P.length with h' | h'
      · exact h'
      · exact absurd h (h3 h').1
    rw [runs_end hCP]; simp [hP]
  · intro h
    have hP : 0 < P.length := by
      obtain ⟨r, R', rfl⟩ := List.exists_cons_of_ne_nil h
      exact List.length_pos_of_mem (hR r (by simp))
    rw [(h3 hP).2]
    have := (hCP.1 C.length (by simp; omega)).1
    rw [getD_right (Nat.le_refl _), Nat.sub_self] at this
    exact this
theorem meets_half (C P Q : List Int) (e x y : Int) (hC : Runs C e) (hCP : Runs (C ++ P) x) (hCQ : Runs (C ++ Q) y) (hx : x ≤ 1000) (hy : y ≤ 1000)
    (hp : ∀ p ∈ P, e < epI p) (hq : ∀ q ∈ Q, e < epI q) (hpq : ∀ p ∈ P, ∀ q ∈ Q, q ≠ p) (n1 : (C ++ P).length ≤ 1000) (n2 : (C ++ Q).length ≤ 1000) :
    meetI (tabL (C ++ P) (C ++ P).length) (endOf (C ++ P)) (tabL (C ++ Q) (C ++ Q).length) (endOf (C ++ Q)) = C.length := by
  have hCl : ∀ z ∈ C, epI z ≤ e := fun z hz => by
    obtain ⟨i, hi, rfl⟩ := mem_getD hz
    exact (hC.1 i hi).2.2
  have gA := full_good hCP hx n1
  have gB := full_good hCQ hy n2
  obtain ⟨RA, a1, a2, a3⟩ := tabL_split (P := P) (runs_rises hC) (fun z hz i hi => by have := hCl _ (getD_mem hi); have := hp z hz; omega) P.length (Nat.le_refl _)
  obtain ⟨RB, b1, b2, b3⟩ := tabL_split (P := Q) (runs_rises hC) (fun z hz i hi => by have := hCl _ (getD_mem hi); have := hq z hz; omega) Q.length (Nat.le_refl _)
  rw [List.length_append] at gA gB ⊢
  rw [List.length_append]
  rw [a1] at gA ⊢
  rw [b1] at gB ⊢
  obtain ⟨fa1, fa2⟩ := split_facts hCP a3 a2
  obtain ⟨fb1, fb2⟩ := split_facts hCQ b3 b2
  refine meet_split _ _ _ _ _ _ gA gB (fun z hz w hw => ?_) fa1 fa2 fb1 fb2
  rcases List.mem_append.1 hw with hw | hw
  · have h1 := hCl _ (tabL_mem C C.length (Nat.le_refl _) _ hw)
    have h2 := hp z (a2 z hz)
    intro h; rw [h] at h1; omega
  · exact hpq z (a2 z hz) w (b2 w hw)
end Go.Proofs.Ytfblkdecbjplbaa
