/- Paths in graphs, plainly. -/
import Derived.Test.YtmejphlpcgochaaToM1
set_option linter.unusedVariables false
set_option linter.unusedSimpArgs false
namespace Go.Proofs.Ytmejphlpcgochaa
open Go.RowKit
/-- how many ways of so many edges -/
def wlk (N : Int) (E : List Ed) : Nat → Int → Int → Nat
  | 0, a, b => if a = b then 1 else 0
  | j + 1, a, b => ((besL N E b 1).map fun k => wlk N E j a k).sum
def pthN (N : Int) (E : List Ed) : Nat → Int → Int → Nat
  | 0, _, _ => 0
  | J + 1, a, b => pthN N E J a b + wlk N E J a b
/-- how many ways -/
def pthP (N : Int) (E : List Ed) (a b : Int) : Nat := pthN N E 16 a b
theorem sum_add (f g : Int → Nat) : ∀ l : List Int, (l.map fun k => f k + g k).sum = (l.map f).sum + (l.map g).sum
  | [] => rfl
  | x :: l => by simp only [List.map_cons, List.sum_cons, sum_add f g l]; omega
theorem sum_zero (f : Int → Nat) : ∀ l : List Int, (∀ x ∈ l, f x = 0) → (l.map f).sum = 0
  | [], _ => rfl
  | x :: l, h => by simp only [List.map_cons, List.sum_cons, sum_zero f l fun y hy => h y (List.mem_cons_of_mem _ hy), h x (List.mem_cons_self ..)]
theorem sum_congr (f g : Int → Nat) (l : List Int) (h : ∀ x ∈ l, f x = g x) : (l.map f).sum = (l.map g).sum := by rw [List.map_congr_left h]
theorem sum_exch (f : Int → Int → Nat) (m : List Int) : ∀ l : List Int, (l.map fun k => (m.map fun c => f c k).sum).sum = (m.map fun c => (l.map fun k => f c k).sum).sum
  | [] => (sum_zero (fun c => (([] : List Int).map fun k => f c k).sum) m fun x _ => rfl).symm
  | x :: l => by
    rw [List.map_cons, List.sum_cons, sum_exch f m l, ← sum_add]
    exact sum_congr _ _ _ fun c _ => by rw [List.map_cons, List.sum_cons]
theorem sum_ind (a : Int) : ∀ l : List Int, l.Nodup → (l.map fun k => if a = k then 1 else 0).sum = if a ∈ l then 1 else 0
  | [], _ => rfl
  | x :: l, h => by
    obtain ⟨h1, h2⟩ := List.nodup_cons.1 h
    rw [List.map_cons, List.sum_cons, sum_ind a l h2]
    by_cases hx : a = x
    · subst hx; simp [h1]
    · simp [hx]
theorem sum_le (f : Int → Nat) (B : Nat) : ∀ l : List Int, (∀ x ∈ l, f x ≤ B) → (l.map f).sum ≤ l.length * B
  | [], _ => by simp
  | x :: l, h => by
    have h1 := sum_le f B l fun y hy => h y (List.mem_cons_of_mem _ hy)
    have h2 := h x (List.mem_cons_self ..)
    rw [List.map_cons, List.sum_cons, List.length_cons, Nat.add_mul, Nat.one_mul]
    omega
theorem sum_pos (f : Int → Nat) : ∀ l : List Int, 0 < (l.map f).sum ↔ ∃ x ∈ l, 0 < f x
  | [] => by simp
  | x :: l => by
    have := sum_pos f l
    rw [List.map_cons, List.sum_cons]
    constructor
    · intro h
      by_cases hx : 0 < f x
      · exact ⟨x, List.mem_cons_self .., hx⟩
      · obtain ⟨y, h1, h2⟩ := this.1 (by omega)
        exact ⟨y, List.mem_cons_of_mem _ h1, h2⟩
    · rintro ⟨y, h1, h2⟩
      rcases List.mem_cons.1 h1 with rfl | h1
      · omega
      · have := this.2 ⟨y, h1, h2⟩; omega
theorem srt_nd {l : List Int} (h : l.Pairwise (· < ·)) : l.Nodup := h.imp fun h => by omega
theorem wlk_fwd {N : Int} {E : List Ed} (hg : goodG N E = true) : ∀ (j : Nat) (a b : Int), wlk N E (j + 1) a b = ((besL N E a 0).map fun c => wlk N E j c b).sum
  | 0, a, b => by
    show ((besL N E b 1).map fun k => if a = k then 1 else 0).sum = ((besL N E a 0).map fun c => if c = b then 1 else 0).sum
    rw [sum_ind a _ (srt_nd (besL_srt hg b 1 (.inr rfl)))]
    rw [sum_congr (fun c => if c = b then 1 else 0) (fun c => if b = c then 1 else 0) _ fun c _ => by
      by_cases h : c = b
      · rw [if_pos h, if_pos h.symm]
      · rw [if_neg h, if_neg fun hh => h hh.symm]]
    rw [sum_ind b _ (srt_nd (besL_srt hg a 0 (.inl rfl)))]
    simp only [mem_ahd hg, mem_beh hg]
  | j + 1, a, b => by
    show ((besL N E b 1).map fun k => wlk N E (j + 1) a k).sum = ((besL N E a 0).map fun c => ((besL N E b 1).map fun k => wlk N E j c k).sum).sum
    rw [sum_congr _ (fun k => ((besL N E a 0).map fun c => wlk N E j c k).sum) _ fun k _ => wlk_fwd hg j a k]
    exact sum_exch (fun c k => wlk N E j c k) _ _
theorem wlk_pos {N : Int} {E : List Ed} (hg : goodG N E = true) : ∀ (j : Nat) (a b : Int), 0 < wlk N E j a b ↔ Walk E a j b
  | 0, a, b => by
    unfold wlk
    constructor
    · intro h
      by_cases hab : a = b
      · subst hab; exact .zero
      · rw [if_neg hab] at h; omega
    · intro h
      cases h
      simp
  | j + 1, a, b => by
    unfold wlk
    rw [sum_pos]
    constructor
    · rintro ⟨k, h1, h2⟩
      exact ((wlk_pos hg j a k).1 h2).succ ((mem_ahd hg k b).1 h1)
    · intro h
      cases h with
      | succ hw e => exact ⟨_, (mem_ahd hg _ _).2 e, (wlk_pos hg j a _).2 hw⟩
theorem walk_dep {N : Int} {E : List Ed} (hg : goodG N E = true) (hc : ∀ n, ¬ Way E n n) {a b : Int} {j : Nat} (w : Walk E a j b) : j ≤ depT N E b := by
  induction w with
  | zero => exact Nat.zero_le _
  | succ _ e ih => have := dep_edge hg hc e; omega
theorem wlk_far {N : Int} {E : List Ed} (hg : goodG N E = true) (hc : ∀ n, ¬ Way E n n) {a b : Int} (hb : 0 ≤ b ∧ b < N) {j : Nat} (hj : N.toNat ≤ j) : wlk N E j a b = 0 := by
  apply Classical.byContradiction
  intro h
  have := walk_dep hg hc ((wlk_pos hg j a b).1 (by omega))
  have := dep_lt hg hc hb
  omega
theorem pthN_back (N : Int) (E : List Ed) (a b : Int) : ∀ J, pthN N E (J + 1) a b = (if a = b then 1 else 0) + ((besL N E b 1).map (pthN N E J a)).sum
  | 0 => by
    rw [sum_zero (pthN N E 0 a) _ fun x _ => rfl]
    show 0 + (if a = b then 1 else 0) = _
    omega
  | J + 1 => by
    rw [pthN, pthN_back N E a b J]
    have h := sum_add (pthN N E J a) (wlk N E J a) (besL N E b 1)
    show _ + ((besL N E b 1).map (wlk N E J a)).sum = _ + ((besL N E b 1).map fun k => pthN N E J a k + wlk N E J a k).sum
    rw [h]
    omega
theorem pthN_fwd {N : Int} {E : List Ed} (hg : goodG N E = true) (a b : Int) : ∀ J, pthN N E (J + 1) a b = (if a = b then 1 else 0) + ((besL N E a 0).map fun c => pthN N E J c b).sum
  | 0 => by
    rw [sum_zero (fun c => pthN N E 0 c b) _ fun x _ => rfl]
    show 0 + (if a = b then 1 else 0) = _
    omega
  | J + 1 => by
    rw [pthN, pthN_fwd hg a b J, wlk_fwd hg J a b]
    have h := sum_add (fun c => pthN N E J c b) (fun c => wlk N E J c b) (besL N E a 0)
    show _ + _ = _ + ((besL N E a 0).map fun c => pthN N E J c b + wlk N E J c b).sum
    rw [h]
    omega
theorem pthP_back {N : Int} {E : List Ed} (hg : goodG N E = true) (hc : ∀ n, ¬ Way E n n) (a : Int) {b : Int} (hb : 0 ≤ b ∧ b < N) : pthP N E a b = (if a = b then 1 else 0) + ((besL N E b 1).map (pthP N E a)).sum := by
  have hN := good_N hg
  have h := pthN_back N E a b 16
  rw [pthN, wlk_far hg hc hb (by omega)] at h
  exact h
theorem pthP_fwd {N : Int} {E : List Ed} (hg : goodG N E = true) (hc : ∀ n, ¬ Way E n n) (a : Int) {b : Int} (hb : 0 ≤ b ∧ b < N) : pthP N E a b = (if a = b then 1 else 0) + ((besL N E a 0).map fun c => pthP N E c b).sum := by
  have hN := good_N hg
  have h := pthN_fwd hg a b 16
  rw [pthN, wlk_far hg hc hb (by omega)] at h
  exact h
theorem besL_len16 {N : Int} {E : List Ed} (hg : goodG N E = true) (b : Int) : (besL N E b 1).length ≤ 16 := by
  have hN := good_N hg
  rw [ahd_asc hg]
  have := ascL_len (fun x => hasE E (x, b)) N.toNat
  omega
theorem wlk_le {N : Int} {E : List Ed} (hg : goodG N E = true) (a : Int) : ∀ (j : Nat) (b : Int), wlk N E j a b ≤ 16 ^ j
  | 0, b => by unfold wlk; split <;> simp
  | j + 1, b => by
    unfold wlk
    have h1 := sum_le (fun k => wlk N E j a k) (16 ^ j) (besL N E b 1) fun k _ => wlk_le hg a j k
    have h2 := Nat.mul_le_mul_right (16 ^ j) (besL_len16 hg b)
    rw [Nat.pow_succ, Nat.mul_comm (16 ^ j) 16]
    omega
theorem pthN_le {N : Int} {E : List Ed} (hg : goodG N E = true) (a b : Int) : ∀ J, 15 * pthN N E J a b + 1 ≤ 16 ^ J
  | 0 => by simp [pthN]
  | J + 1 => by
    have h1 := pthN_le hg a b J
    have h2 := wlk_le hg a J b
    rw [pthN, Nat.pow_succ]
    omega
theorem pthP_lt {N : Int} {E : List Ed} (hg : goodG N E = true) (a b : Int) : pthP N E a b < 18446744073709551616 := by
  have := pthN_le hg a b 16
  unfold pthP
  omega
theorem pthN_pos {N : Int} {E : List Ed} (hg : goodG N E = true) (a b : Int) : ∀ J, 0 < pthN N E J a b ↔ ∃ j, j < J ∧ Walk E a j b
  | 0 => by simp [pthN]
  | J + 1 => by
    have h1 := pthN_pos hg a b J
    have h2 := wlk_pos hg J a b
    rw [pthN]
    constructor
    · intro h
      by_cases hp : 0 < pthN N E J a b
      · obtain ⟨j, h3, h4⟩ := h1.1 hp
        exact ⟨j, by omega, h4⟩
      · exact ⟨J, by omega, h2.1 (by omega)⟩
    · rintro ⟨j, h3, h4⟩
      by_cases hj : j = J
      · subst hj; have := h2.2 h4; omega
      · have := h1.2 ⟨j, by omega, h4⟩; omega
theorem pthP_pos {N : Int} {E : List Ed} (hg : goodG N E = true) (hc : ∀ n, ¬ Way E n n) {a b : Int} (hb : 0 ≤ b ∧ b < N) : 0 < pthP N E a b ↔ a = b ∨ Way E a b := by
  have hN := good_N hg
  unfold pthP
  rw [pthN_pos hg]
  constructor
  · rintro ⟨j, _, hw⟩
    match j, hw with
    | 0, .zero => exact .inl rfl
    | j + 1, hw => exact .inr hw.way
  · rintro (rfl | hw)
    · exact ⟨0, by omega, .zero⟩
    · obtain ⟨k, hk⟩ := hw.walk
      have := walk_dep hg hc hk
      have := dep_lt hg hc hb
      exact ⟨k + 1, by omega, hk⟩
end Go.Proofs.Ytmejphlpcgochaa
