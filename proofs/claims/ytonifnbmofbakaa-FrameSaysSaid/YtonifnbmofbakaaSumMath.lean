/- The plain mathematics of the sums: two sums of bytes modulo 65521, joined and turned. No program is in sight. -/
import Derived.Test.YtonifnbmofbakaaPlain
set_option linter.unusedVariables false
set_option linter.unusedSimpArgs false
namespace Go.Proofs.Ytonifnbmofbakaa
def step (p : Int × Int) (v : Int) : Int × Int := ((p.1 + v) % 65521, (p.2 + (p.1 + v) % 65521) % 65521)
def onF (p : Int × Int) (l : List Int) : Int × Int := l.foldl step p
def goodB (s : Int) : Bool := decide (s % 65536 < 65521) && decide (s / 65536 < 65521)
def word (p : Int × Int) : Int := p.2 * 65536 + p.1
def halves (s : Int) : Int × Int := (s % 65536, s / 65536)
def onV (s : Int) (l : List Int) : Int := word (onF (halves s) l)
def joinV (s t n : Int) : Int := word ((s % 65536 + t % 65536 - 1) % 65521, (s / 65536 + t / 65536 + n % 65521 * (s % 65536 - 1)) % 65521)
def turnV (s n at' f t : Int) : Int := word ((s % 65536 + (t - f)) % 65521, (s / 65536 + (n - at') % 65521 * (t - f)) % 65521)
def sumL : List Int → Int | [] => 0 | v :: l => v + sumL l
def wsum : List Int → Int | [] => 0 | v :: l => (l.length + 1) * v + wsum l
def Ok (p : Int × Int) : Prop := 0 ≤ p.1 ∧ p.1 < 65521 ∧ 0 ≤ p.2 ∧ p.2 < 65521
theorem step_ok (p : Int × Int) (v : Int) : Ok (step p v) := by unfold Ok step; dsimp only; omega
theorem onF_ok (l : List Int) : ∀ p, Ok p → Ok (onF p l) := by
  induction l with
  | nil => intro p h; exact h
  | cons v l ih => intro p _; exact ih _ (step_ok p v)
theorem onF_snoc (p : Int × Int) (l : List Int) (v : Int) : onF p (l ++ [v]) = step (onF p l) v := by simp [onF]
theorem onF_append (p : Int × Int) (l m : List Int) : onF p (l ++ m) = onF (onF p l) m := by simp [onF]
theorem halves_ok (s : Int) (h0 : 0 ≤ s) (h : goodB s = true) : Ok (halves s) := by
  simp [goodB] at h; unfold Ok halves; dsimp only; omega
theorem word_halves (p : Int × Int) (h : Ok p) : halves (word p) = p := by
  obtain ⟨h1, h2, h3, h4⟩ := h
  unfold halves word; apply Prod.ext <;> dsimp only <;> omega
theorem word_good (p : Int × Int) (h : Ok p) : goodB (word p) = true ∧ 0 ≤ word p ∧ word p ≤ 4294967295 := by
  obtain ⟨h1, h2, h3, h4⟩ := h
  unfold goodB word; simp; omega
theorem word_inj (p q : Int × Int) (h : Ok p) (k : Ok q) (e : word p = word q) : p = q := by
  rw [← word_halves p h, ← word_halves q k, e]
/-- congruence modulo 65521 -/
def Eqm (a b : Int) : Prop := ∃ k, a = b + 65521 * k
theorem Eqm.refl (a : Int) : Eqm a a := ⟨0, by omega⟩
theorem Eqm.symm {a b : Int} : Eqm a b → Eqm b a := fun ⟨k, h⟩ => ⟨-k, by omega⟩
theorem Eqm.trans {a b c : Int} : Eqm a b → Eqm b c → Eqm a c := fun ⟨k, h⟩ ⟨l, m⟩ => ⟨k + l, by omega⟩
theorem Eqm.add {a b c d : Int} : Eqm a b → Eqm c d → Eqm (a + c) (b + d) := fun ⟨k, h⟩ ⟨l, m⟩ => ⟨k + l, by omega⟩
theorem Eqm.sub {a b c d : Int} : Eqm a b → Eqm c d → Eqm (a - c) (b - d) := fun ⟨k, h⟩ ⟨l, m⟩ => ⟨k - l, by omega⟩
theorem Eqm.mul {a b c d : Int} : Eqm a b → Eqm c d → Eqm (a * c) (b * d) := by
  rintro ⟨k, rfl⟩ ⟨l, rfl⟩
  refine ⟨b * l + k * d + 65521 * (k * l), ?_⟩
  simp only [Int.mul_add, Int.add_mul, Int.mul_assoc, Int.mul_left_comm b 65521, Int.mul_left_comm k 65521]
  omega
theorem Eqm.mod (a : Int) : Eqm (a % 65521) a := ⟨-(a / 65521), by omega⟩
theorem Eqm.of_mod {a b : Int} (h : a % 65521 = b % 65521) : Eqm a b := ⟨a / 65521 - b / 65521, by omega⟩
theorem Eqm.emod {a b : Int} : Eqm a b → a % 65521 = b % 65521 := fun ⟨k, h⟩ => by omega
theorem Eqm.of_eq {a b : Int} (h : a = b) : Eqm a b := ⟨0, by omega⟩
/-- two pairs, congruent limb by limb -/
def Eqp (p q : Int × Int) : Prop := Eqm p.1 q.1 ∧ Eqm p.2 q.2
theorem Eqp.eq {p q : Int × Int} (h : Eqp p q) (hp : Ok p) (hq : Ok q) : p = q := by
  obtain ⟨⟨k, h1⟩, ⟨l, h2⟩⟩ := h
  obtain ⟨a1, a2, a3, a4⟩ := hp
  obtain ⟨b1, b2, b3, b4⟩ := hq
  apply Prod.ext <;> omega
theorem Eqp.trans {p q r : Int × Int} (h : Eqp p q) (k : Eqp q r) : Eqp p r := ⟨h.1.trans k.1, h.2.trans k.2⟩
theorem Eqp.symm {p q : Int × Int} (h : Eqp p q) : Eqp q p := ⟨h.1.symm, h.2.symm⟩
/-- the closed form -/
def closed (p : Int × Int) (l : List Int) : Int × Int := (p.1 + sumL l, p.2 + l.length * p.1 + wsum l)
theorem onF_closed (l : List Int) : ∀ p : Int × Int, Eqp (onF p l) (closed p l) := by
  induction l with
  | nil => intro p; simp only [onF, List.foldl_nil, closed, sumL, wsum, List.length_nil]; exact ⟨⟨0, by omega⟩, ⟨0, by simp⟩⟩
  | cons v l ih =>
    intro p
    refine (ih (step p v)).trans ⟨?_, ?_⟩
    · simp only [closed, step, sumL]
      exact ((Eqm.mod _).add (Eqm.refl _)).trans (Eqm.of_eq (by omega))
    · simp only [closed, step, wsum]
      have e : ((↑(v :: l).length : Int)) = l.length + 1 := by simp
      rw [e]
      refine ((((Eqm.mod _).trans ((Eqm.refl _).add (Eqm.mod _))).add ((Eqm.refl _).mul (Eqm.mod _))).add (Eqm.refl _)).trans (Eqm.of_eq ?_)
      simp only [Int.mul_add, Int.add_mul]
      omega
theorem sumL_append (l m : List Int) : sumL (l ++ m) = sumL l + sumL m := by
  induction l with
  | nil => simp [sumL]
  | cons v l ih => simp [sumL, ih]; omega
theorem wsum_append (l m : List Int) : wsum (l ++ m) = wsum l + m.length * sumL l + wsum m := by
  induction l with
  | nil => simp [sumL, wsum]
  | cons v l ih =>
    simp only [List.cons_append, sumL, wsum, ih, List.length_append, Int.natCast_add]
    simp only [Int.mul_add, Int.add_mul]
    omega
/-- one byte another -/
theorem sumL_set (l : List Int) (i : Nat) (v : Int) (h : i < l.length) : sumL (l.set i v) = sumL l + (v - l.getD i 0) := by
  induction l generalizing i with
  | nil => simp at h
  | cons u l ih => cases i with
    | zero => simp [sumL]; omega
    | succ i => simp [sumL, ih i (by simpa using h)]; omega
theorem wsum_set (l : List Int) (i : Nat) (v : Int) (h : i < l.length) : wsum (l.set i v) = wsum l + ((l.length : Int) - i) * (v - l.getD i 0) := by
  induction l generalizing i with
  | nil => simp at h
  | cons u l ih =>
    have el : ((u :: l).length : Int) = l.length + 1 := by simp
    rw [el]
    cases i with
    | zero =>
      have e0 : (l.length + 1 - ((0 : Nat) : Int)) = l.length + 1 := by omega
      rw [e0]
      simp only [List.set_cons_zero, wsum, List.getD_cons_zero]
      simp only [Int.mul_sub]
      omega
    | succ i =>
      have h' : i < l.length := by simpa using h
      have e0 : (l.length + 1 - ((i + 1 : Nat) : Int)) = l.length - i := by omega
      rw [e0]
      simp only [List.set_cons_succ, wsum, List.getD_cons_succ, ih i h', List.length_set]
      omega
def one : Int × Int := (1, 0)
theorem one_ok : Ok one := by unfold Ok one; decide
/-- the sum of bytes -/
def sumOf (l : List Int) : Int := word (onF one l)
theorem sumOf_eq (l : List Int) : onV 1 l = sumOf l := rfl
theorem sumOf_good (l : List Int) : goodB (sumOf l) = true ∧ 0 ≤ sumOf l ∧ sumOf l ≤ 4294967295 := word_good _ (onF_ok l one one_ok)
theorem halves_sumOf (l : List Int) : halves (sumOf l) = onF one l := word_halves _ (onF_ok l one one_ok)
theorem onV_sumOf (l m : List Int) : onV (sumOf l) m = sumOf (l ++ m) := by
  unfold onV; rw [halves_sumOf, ← onF_append]; rfl
theorem mk_ok (a c : Int) : Ok (a % 65521, c % 65521) := by unfold Ok; dsimp only; omega
/-- P2: two sums joined -/
theorem joinV_word (p q : Int × Int) (n : Int) (hp : Ok p) (hq : Ok q) : joinV (word p) (word q) n = word ((p.1 + q.1 - 1) % 65521, (p.2 + q.2 + n % 65521 * (p.1 - 1)) % 65521) := by
  have e1 := word_halves p hp
  have e2 := word_halves q hq
  unfold halves at e1 e2
  obtain ⟨a, c⟩ := p
  obtain ⟨b, d⟩ := q
  simp only [Prod.mk.injEq] at e1 e2
  unfold joinV
  rw [e1.1, e1.2, e2.1, e2.2]
theorem joinV_sumOf (l m : List Int) : joinV (sumOf l) (sumOf m) m.length = sumOf (l ++ m) := by
  unfold sumOf
  rw [joinV_word _ _ _ (onF_ok l one one_ok) (onF_ok m one one_ok)]
  congr 1
  have h1 := onF_closed l one
  have h2 := onF_closed m one
  have h3 := onF_closed (l ++ m) one
  refine Eqp.eq (Eqp.trans ?_ h3.symm) (mk_ok _ _) (onF_ok _ _ one_ok)
  refine ⟨?_, ?_⟩
  · refine (Eqm.mod _).trans (((h1.1.add h2.1).sub (Eqm.refl 1)).trans (Eqm.of_eq ?_))
    simp only [closed, one, sumL_append]; omega
  · refine (Eqm.mod _).trans (((h1.2.add h2.2).add ((Eqm.mod _).mul (h1.1.sub (Eqm.refl 1)))).trans (Eqm.of_eq ?_))
    simp only [closed, one, wsum_append, List.length_append, Int.natCast_add, Int.mul_sub, Int.mul_add]; omega
theorem turnV_word (p : Int × Int) (n i f t : Int) (hp : Ok p) : turnV (word p) n i f t = word ((p.1 + (t - f)) % 65521, (p.2 + (n - i) % 65521 * (t - f)) % 65521) := by
  have e1 := word_halves p hp
  unfold halves at e1
  obtain ⟨a, c⟩ := p
  simp only [Prod.mk.injEq] at e1
  unfold turnV
  rw [e1.1, e1.2]
theorem turnV_sumOf (l : List Int) (i : Nat) (t : Int) (h : i < l.length) : turnV (sumOf l) l.length i (l.getD i 0) t = sumOf (l.set i t) := by
  unfold sumOf
  rw [turnV_word _ _ _ _ _ (onF_ok l one one_ok)]
  congr 1
  have h1 := onF_closed l one
  have h3 := onF_closed (l.set i t) one
  refine Eqp.eq (Eqp.trans ?_ h3.symm) (mk_ok _ _) (onF_ok _ _ one_ok)
  refine ⟨?_, ?_⟩
  · refine (Eqm.mod _).trans ((h1.1.add (Eqm.refl _)).trans (Eqm.of_eq ?_))
    simp only [closed, one, sumL_set l i t h]; omega
  · refine (Eqm.mod _).trans ((h1.2.add ((Eqm.mod _).mul (Eqm.refl _))).trans (Eqm.of_eq ?_))
    simp only [closed, one, wsum_set l i t h, List.length_set]; omega
/-- the first halves tell bytes apart -/
theorem sumOf_set_eq (l : List Int) (i : Nat) (t : Int) (h : i < l.length) (hb : 0 ≤ l.getD i 0 ∧ l.getD i 0 ≤ 255) (ht : 0 ≤ t ∧ t ≤ 255) : (sumOf (l.set i t) = sumOf l) ↔ l.getD i 0 = t := by
  constructor
  · intro e
    have e2 := word_inj _ _ (onF_ok _ _ one_ok) (onF_ok _ _ one_ok) e
    have h1 := (onF_closed l one).1
    have h3 := (onF_closed (l.set i t) one).1
    rw [e2] at h3
    obtain ⟨k, hk⟩ := h1.symm.trans h3
    simp only [closed, one, sumL_set l i t h] at hk
    omega
  · intro e
    have : l.set i t = l := by
      rw [← e]
      apply List.ext_getElem (by simp)
      intro j h1 h2
      rw [List.getElem_set]
      split
      · subst_vars; simp [List.getD_eq_getElem?_getD, h2]
      · rfl
    rw [this]
theorem coprime_byte : ∀ j : Nat, j < 256 → 0 < j → Nat.gcd 65521 j = 1 := by decide +kernel
/-- two bytes that change places turn the sum, but where they are alike -/
theorem sumOf_swap_eq (l : List Int) (i k : Nat) (hik : i < k) (hk : k < l.length) (hl : l.length < 65521) (hi : 0 ≤ l.getD i 0 ∧ l.getD i 0 ≤ 255) (hkb : 0 ≤ l.getD k 0 ∧ l.getD k 0 ≤ 255) :
    (sumOf ((l.set i (l.getD k 0)).set k (l.getD i 0)) = sumOf l) ↔ l.getD i 0 = l.getD k 0 := by
  have hg : (l.set i (l.getD k 0)).getD k 0 = l.getD k 0 := by
    rw [List.getD_eq_getElem?_getD, List.getD_eq_getElem?_getD, List.getElem?_set_ne (by omega)]
  constructor
  · intro e
    have e2 := word_inj _ _ (onF_ok _ _ one_ok) (onF_ok _ _ one_ok) e
    have h1 := (onF_closed l one).2
    have h3 := (onF_closed ((l.set i (l.getD k 0)).set k (l.getD i 0)) one).2
    rw [e2] at h3
    obtain ⟨q, hq⟩ := h1.symm.trans h3
    simp only [closed, one] at hq
    rw [wsum_set _ k _ (by simpa using hk), wsum_set _ i _ (by omega), hg] at hq
    simp only [List.length_set] at hq
    generalize hx : l.getD i 0 = x at *
    generalize hy : l.getD k 0 = y at *
    generalize hn : l.length = n at *
    generalize wsum l = W at *
    have hm : ((k : Int) - i) * (y - x) = 65521 * (-q) := by
      simp only [Int.sub_mul, Int.mul_sub] at hq ⊢
      omega
    rcases Int.lt_trichotomy x y with h | h | h
    · exfalso
      obtain ⟨d, hd⟩ := Int.eq_ofNat_of_zero_le (show 0 ≤ y - x by omega)
      obtain ⟨m, hm'⟩ := Int.eq_ofNat_of_zero_le (show 0 ≤ (k : Int) - i by omega)
      rw [hd, hm'] at hm
      have hdv : 65521 ∣ m * d := by
        have : ((65521 : Nat) : Int) ∣ ((m * d : Nat) : Int) := ⟨-q, by rw [Int.natCast_mul]; exact hm⟩
        exact Int.natCast_dvd_natCast.1 this
      have := Nat.Coprime.dvd_of_dvd_mul_right (coprime_byte d (by omega) (by omega)) hdv
      have := Nat.le_of_dvd (by omega) this
      omega
    · exact h
    · exfalso
      obtain ⟨d, hd⟩ := Int.eq_ofNat_of_zero_le (show 0 ≤ x - y by omega)
      obtain ⟨m, hm'⟩ := Int.eq_ofNat_of_zero_le (show 0 ≤ (k : Int) - i by omega)
      rw [show y - x = -(x - y) by omega, hd, hm'] at hm
      have hdv : 65521 ∣ m * d := by
        have : ((65521 : Nat) : Int) ∣ ((m * d : Nat) : Int) := ⟨q, by rw [Int.natCast_mul]; rw [Int.mul_neg] at hm; show (m : Int) * d = 65521 * q; omega⟩
        exact Int.natCast_dvd_natCast.1 this
      have := Nat.Coprime.dvd_of_dvd_mul_right (coprime_byte d (by omega) (by omega)) hdv
      have := Nat.le_of_dvd (by omega) this
      omega
  · intro e
    have : (l.set i (l.getD k 0)).set k (l.getD i 0) = l := by
      rw [← e]
      apply List.ext_getElem (by simp)
      intro j h1 h2
      rw [List.getElem_set, List.getElem_set]
      split
      · subst_vars; rw [e]; simp [List.getD_eq_getElem?_getD, h2]
      · split
        · subst_vars; simp [List.getD_eq_getElem?_getD, h2]
        · rfl
    rw [this]
end Go.Proofs.Ytonifnbmofbakaa
