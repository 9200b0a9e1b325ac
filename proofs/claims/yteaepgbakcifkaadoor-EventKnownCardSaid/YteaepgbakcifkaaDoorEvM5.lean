/- Events, plainly: what is read is what was written. -/
import Derived.Test.YteaepgbakcifkaaDoorEvM3
set_option linter.unusedVariables false
set_option linter.unusedSimpArgs false
namespace Go.Proofs.YteaepgbakcifkaaDoor
open Go.RowKit
theorem pow7s (k : Nat) : (2 : Int) ^ (7 * (k + 1)) = 128 * 2 ^ (7 * k) := by
  rw [show 7 * (k + 1) = 7 * k + 7 by omega, Int.pow_add]
  omega
/-- a number that was read stood there as it is written -/
theorem rdF_inv : ∀ (f k : Nat) (v : Int) (l : List Int), f + k = 10 → IsB l → ∀ x r, rdF f k v l = some (x, r) → ∃ y, 0 ≤ y ∧ (0 < k → 1 ≤ y) ∧ y ≤ 128 ^ (9 - k) * 2 - 1 ∧ x = v + y * 2 ^ (7 * k) ∧ l = encU y ++ r
  | 0, _, _, _, _, _, _, _, h => by cases h
  | _ + 1, _, _, [], _, _, _, _, h => by cases h
  | f + 1, k, v, b :: l, hk, hB, x, r, h => by
    have hb := isB_mem hB b (List.mem_cons_self ..)
    have hB2 : IsB l := isB_of_mem fun z hz => isB_mem hB z (List.mem_cons_of_mem _ hz)
    rw [rdF] at h
    split at h
    · rename_i hb2
      cases f with
      | zero => cases l <;> cases h
      | succ f =>
      obtain ⟨y, y0, y1, y2, hx, hl⟩ := rdF_inv (f + 1) (k + 1) _ l (by omega) hB2 x r h
      have y1 := y1 (by omega)
      have hpow : (128 : Int) ^ (9 - k) = 128 * 128 ^ (9 - (k + 1)) := by
        rw [show 9 - k = (9 - (k + 1)) + 1 by omega, Int.pow_succ]; omega
      refine ⟨(b - 128) + 128 * y, by omega, fun _ => by omega, by rw [hpow]; omega, ?_, ?_⟩
      · rw [hx, pow7s, Int.add_assoc, Int.add_mul]
        congr 1
        rw [show b % 128 = b - 128 by omega]
        congr 1
        rw [← Int.mul_assoc, Int.mul_comm y 128]
      · have hle : (b - 128) + 128 * y ≤ 18446744073709551615 := by
          have hp : (128 : Int) ^ (9 - (k + 1)) ≤ 128 ^ 8 := by
            have h : ∀ j : Fin 9, (128 : Int) ^ j.val ≤ 128 ^ 8 := by decide +kernel
            exact h ⟨9 - (k + 1), by omega⟩
          have h8 : (128 : Int) ^ 8 = 72057594037927936 := by decide +kernel
          omega
        rw [encU_ge _ (by omega) hle, show ((b - 128) + 128 * y) % 128 + 128 = b by omega, show ((b - 128) + 128 * y) / 128 = y by omega, hl]
        rfl
    · rename_i hb2
      split at h
      · cases h
      · rename_i hc
        injection h with h
        injection h with h1 h2
        subst h2
        refine ⟨b, by omega, fun hk => by omega, ?_, by rw [← h1, show b % 128 = b by omega], by rw [encU_lt b (by omega)]; rfl⟩
        by_cases h9 : k = 9
        · subst h9
          have : ¬ 1 < b := fun hh => hc (.inr ⟨rfl, hh⟩)
          simp
          omega
        · have hp : (128 : Int) ≤ 128 ^ (9 - k) := by
            have h : ∀ j : Fin 9, (128 : Int) ≤ 128 ^ (j.val + 1) := by decide +kernel
            have := h ⟨9 - k - 1, by omega⟩
            rwa [show 9 - k - 1 + 1 = 9 - k by omega] at this
          omega
theorem isB_app {a b : List Int} (h : IsB (a ++ b)) : IsB b := isB_of_mem fun x hx => isB_mem h x (List.mem_append_right _ hx)
theorem isB_appl {a b : List Int} (h : IsB (a ++ b)) : IsB a := isB_of_mem fun x hx => isB_mem h x (List.mem_append_left _ hx)
theorem stU_inv {l r : List Int} {x : Int} (hB : IsB l) (h : stU (l, false) = (x, r, false)) : l = encU x ++ r ∧ 0 ≤ x := by
  simp only [stU, rdV, Bool.false_eq_true, if_false] at h
  cases hr : rdU l with
  | none => rw [hr] at h; simp at h
  | some p =>
    obtain ⟨v, q⟩ := p
    rw [hr] at h
    simp only [Prod.mk.injEq, and_true] at h
    obtain ⟨rfl, rfl⟩ := h
    obtain ⟨y, y0, _, _, hx, hl⟩ := rdF_inv 10 0 0 l rfl hB v q hr
    simp at hx
    subst hx
    exact ⟨hl, y0⟩
/-- a state is either good, or empty and bad -/
theorem stU_shape (s : St) (h : s.2 = true → s.1 = []) : ((stU s).2.2 = true → (stU s).2.1 = []) := by
  unfold stU
  split
  · intro _; rfl
  · unfold rdV
    split <;> simp
theorem stSmall_inv {m : Int} {l r : List Int} {x : Int} (hB : IsB l) (h : stSmall m (l, false) = (x, r, false)) : l = encU x ++ r ∧ 0 ≤ x ∧ x ≤ m := by
  unfold stSmall at h
  split at h
  · simp at h
  · rename_i hc
    obtain ⟨h1, h2⟩ := stU_inv hB (show stU (l, false) = (x, r, false) from by rw [← h])
    have : (stU (l, false)).1 = x := by rw [show stU (l, false) = (x, r, false) from by rw [← h]]
    exact ⟨h1, h2, by rw [this] at hc; omega⟩
theorem stS_inv {m : Int} {l r : List Int} {s : List Int} (hB : IsB l) (h : stS m (l, false) = (s, r, false)) : l = encS s ++ r ∧ (s.length : Int) ≤ m := by
  unfold stS at h
  split at h
  · simp at h
  · rename_i hc
    cases hu : stU (l, false) with
    | mk v st =>
      obtain ⟨q, b⟩ := st
      rw [hu] at h hc
      dsimp only at h hc
      have hb : b = false := by cases b; rfl; exact absurd (.inl rfl) hc
      subst hb
      obtain ⟨h1, h2⟩ := stU_inv hB hu
      simp only [Prod.mk.injEq, and_true] at h
      obtain ⟨h3, h4⟩ := h
      have hlen : s.length = v.toNat := by rw [← h3, List.length_take]; omega
      refine ⟨?_, by omega⟩
      unfold encS
      rw [show (s.length : Int) = v by omega, List.append_assoc, ← h3, ← h4, List.take_append_drop]
      exact h1
/-- a step that reads a field -/
structure StepOk (F : EV × St → UInt8 → EV × St) : Prop where
  kind : ∀ p c, (F p c).1.k = p.1.k
  bad : ∀ x c, (F (x, [], true) c).2 = ([], true)
  shape : ∀ x l c, ltr c → (F (x, l, false) c).2.2 = true → (F (x, l, false) c).2.1 = []
  back : ∀ x y l r c, ltr c → IsB l → F (x, l, false) c = (y, r, false) → okF y c.toNat = true → y = setF y x c ∧ l = encFld y c ++ r
  isB : ∀ x y q r c, ltr c → IsB q → F (x, q, false) c = (y, r, false) → IsB r
  fwd : ∀ e x r c, ltr c → okF e c.toNat = true → F (x, encFld e c ++ r, false) c = (setF e x c, r, false)
def getG (F : EV × St → UInt8 → EV × St) (zs : List Int) (l : List UInt8) : EV × St := l.foldl F (kindE (getK zs), (stSmall 9 (zs, false)).2)
theorem fold_k {F : EV × St → UInt8 → EV × St} (hF : StepOk F) : ∀ (l : List UInt8) (p : EV × St), (l.foldl F p).1.k = p.1.k
  | [], p => rfl
  | c :: l, p => by rw [List.foldl_cons, fold_k hF l, hF.kind]
theorem setF_k (e x : EV) (c : UInt8) : (setF e x c).k = x.k := by
  unfold setF
  repeat' split
  all_goals rfl
theorem onlyE_k (e : EV) (l : List UInt8) : (onlyE e l).k = e.k := by
  unfold onlyE
  suffices h : ∀ x : EV, (l.foldl (setF e) x).k = x.k by exact h _
  induction l with
  | nil => intro x; rfl
  | cons c l ih => intro x; rw [List.foldl_cons, ih, setF_k]
set_option maxRecDepth 100000 in
theorem encFld_set (e x : EV) (c : UInt8) (d : UInt8) (hcd : c ≠ d) (hd : ltr d) : encFld (setF e x c) d = encFld x d := by
  rcases hd with rfl | rfl | rfl | rfl | rfl | rfl | rfl
  all_goals
    simp [encFld]
    simp only [setF]
    repeat' split
    all_goals first | rfl | (exfalso; exact hcd (by assumption))
set_option maxRecDepth 100000 in
theorem okF_set (e x : EV) (c : UInt8) (d : UInt8) (hcd : c ≠ d) (hd : ltr d) : okF (setF e x c) d.toNat = okF x d.toNat := by
  rcases hd with rfl | rfl | rfl | rfl | rfl | rfl | rfl
  all_goals
    unfold setF
    repeat' split
    all_goals first | rfl | (exfalso; exact hcd (by assumption))
set_option maxRecDepth 100000 in
theorem setF_set (e x z : EV) (c : UInt8) (d : UInt8) (hcd : c ≠ d) (hd : ltr d) : setF (setF e x c) z d = setF x z d := by
  have h : ∀ e x : EV, setF e x 82 = { x with r := e.r } ∧ setF e x 84 = { x with t := e.t } ∧ setF e x 89 = { x with y := e.y } ∧ setF e x 78 = { x with n := e.n } ∧ setF e x 77 = { x with nm := e.nm } ∧ setF e x 75 = { x with ky := e.ky } ∧ setF e x 68 = { x with dt := e.dt } := by intro e x; simp [setF]
  rcases hd with rfl | rfl | rfl | rfl | rfl | rfl | rfl
  all_goals
    obtain ⟨a1, a2, a3, a4, a5, a6, a7⟩ := h (setF e x c) z
    obtain ⟨b1, b2, b3, b4, b5, b6, b7⟩ := h x z
    first | rw [a1, b1] | rw [a2, b2] | rw [a3, b3] | rw [a4, b4] | rw [a5, b5] | rw [a6, b6] | rw [a7, b7]
    simp only [setF]
    repeat' split
    all_goals first | rfl | (exfalso; exact hcd (by assumption))
theorem fold_far (e : EV) (d : UInt8) (hd : ltr d) : ∀ (l : List UInt8) (x z : EV), d ∉ l → encFld (l.foldl (setF e) x) d = encFld x d ∧ okF (l.foldl (setF e) x) d.toNat = okF x d.toNat ∧ setF (l.foldl (setF e) x) z d = setF x z d
  | [], x, z, _ => ⟨rfl, rfl, rfl⟩
  | c :: l, x, z, h => by
    have hc : c ≠ d := fun e => h (by rw [e]; exact List.mem_cons_self ..)
    obtain ⟨h1, h2, h3⟩ := fold_far e d hd l (setF e x c) z (fun hm => h (List.mem_cons_of_mem _ hm))
    rw [List.foldl_cons]
    exact ⟨h1.trans (encFld_set e x c d hc hd), h2.trans (okF_set e x c d hc hd), h3.trans (setF_set e x z c d hc hd)⟩
/-- forward: what was written is read -/
theorem getG_fwd {F : EV × St → UInt8 → EV × St} (hF : StepOk F) (e : EV) (hk : 1 ≤ e.k ∧ e.k ≤ 9) (r : List Int) : ∀ l : List UInt8, (∀ c ∈ l, ltr c) → (∀ c ∈ l, okF e c.toNat = true) → ∀ r, getG F (encL e l ++ r) l = (onlyE e l, r, false) := by
  have h0 : ∀ l : List UInt8, (∀ c ∈ l, ltr c) → (∀ c ∈ l, okF e c.toNat = true) → ∀ (x : EV) r, l.foldl F (x, l.flatMap (encFld e) ++ r, false) = (l.foldl (setF e) x, r, false) := by
    intro l
    induction l with
    | nil => intro _ _ x r; rfl
    | cons c l ih =>
      intro h1 h2 x r
      rw [List.foldl_cons, List.flatMap_cons, List.append_assoc, hF.fwd e x _ c (h1 c (List.mem_cons_self ..)) (h2 c (List.mem_cons_self ..)), ih (fun d hd => h1 d (List.mem_cons_of_mem _ hd)) (fun d hd => h2 d (List.mem_cons_of_mem _ hd))]
      rfl
  intro l h1 h2 r
  have hs : stSmall 9 (encL e l ++ r, false) = (e.k, l.flatMap (encFld e) ++ r, false) := by
    unfold encL
    rw [List.append_assoc]
    have := stU_enc e.k (l.flatMap (encFld e) ++ r) (by omega) (by omega)
    unfold stSmall
    rw [this]
    dsimp only
    rw [if_neg (by simp; omega)]
  unfold getG getK
  rw [hs]
  dsimp only
  rw [h0 l h1 h2]
  rfl
/-- a bad state stays bad -/
theorem getG_bad {F : EV × St → UInt8 → EV × St} (hF : StepOk F) : ∀ (l : List UInt8) (x : EV), (l.foldl F (x, [], true)).2 = ([], true)
  | [], x => rfl
  | c :: l, x => by
    rw [List.foldl_cons]
    have h := hF.bad x c
    rcases hy : F (x, [], true) c with ⟨y, s⟩
    rw [hy] at h
    dsimp only at h
    rw [h]
    exact getG_bad hF l y
/-- backward: what was read had been written -/
theorem fold_back {F : EV × St → UInt8 → EV × St} (hF : StepOk F) : ∀ (l : List UInt8) (x : EV) (q : List Int), IsB q → (∀ c ∈ l, ltr c) → l.Nodup → ∀ y r, l.foldl F (x, q, false) = (y, r, false) → (∀ c ∈ l, okF y c.toNat = true) → q = l.flatMap (encFld y) ++ r ∧ y = l.foldl (setF y) x
  | [], x, q, _, _, _, y, r, h, _ => by
    rw [List.foldl_nil] at h
    simp only [Prod.mk.injEq, and_true] at h
    exact ⟨h.2, h.1.symm⟩
  | c :: l, x, q, hB, hl, hn, y, r, h, hok => by
    rw [List.foldl_cons] at h
    rcases hx : F (x, q, false) c with ⟨x', q', b'⟩
    have hlc := hl c (List.mem_cons_self ..)
    have hnc : c ∉ l := (List.nodup_cons.1 hn).1
    cases b' with
    | true =>
      exfalso
      have h1 := hF.shape x q c hlc
      rw [hx] at h1
      have h1 : q' = [] := h1 rfl
      subst h1
      rw [hx] at h
      have := getG_bad hF l x'
      rw [h] at this
      simp at this
    | false =>
      rw [hx] at h
      have hq' : IsB q' → q' = l.flatMap (encFld y) ++ r ∧ y = l.foldl (setF y) x' := fun hB' => fold_back hF l x' q' hB' (fun d hd => hl d (List.mem_cons_of_mem _ hd)) (List.nodup_cons.1 hn).2 y r h (fun d hd => hok d (List.mem_cons_of_mem _ hd))
      have hB' : IsB q' := hF.isB x x' q q' c hlc hB hx
      obtain ⟨h1, h2⟩ := hq' hB'
      obtain ⟨f1, f2, f3⟩ := fold_far y c hlc l x' x hnc
      rw [← h2] at f1 f2 f3
      have hokc : okF x' c.toNat = true := by rw [← f2]; exact hok c (List.mem_cons_self ..)
      obtain ⟨g1, g2⟩ := hF.back x x' q q' c hlc hB hx hokc
      refine ⟨by rw [g2, h1, List.flatMap_cons, f1, List.append_assoc], ?_⟩
      rw [List.foldl_cons, f3, ← g1]
      exact h2
theorem getG_back {F : EV × St → UInt8 → EV × St} (hF : StepOk F) (zs : List Int) (hB : IsB zs) (l : List UInt8) (hl : ∀ c ∈ l, ltr c) (hn : l.Nodup) (y : EV) (r : List Int) (h : getG F zs l = (y, r, false)) (hok : ∀ c ∈ l, okF y c.toNat = true) : zs = encL y l ++ r ∧ y = onlyE y l ∧ y.k = getK zs := by
  unfold getG at h
  rcases hs : stSmall 9 (zs, false) with ⟨k, q, b⟩
  rw [hs] at h
  have hk : getK zs = k := by unfold getK; rw [hs]
  cases b with
  | true =>
    exfalso
    have hq : q = [] := by
      unfold stSmall at hs
      split at hs
      · simp only [Prod.mk.injEq] at hs; exact hs.2.1.symm
      · rename_i hc
        rw [Prod.mk.injEq] at hs
        rw [hs.2] at hc
        exact absurd (.inl rfl) hc
    subst hq
    have := getG_bad hF l (kindE (getK zs))
    rw [h] at this
    simp at this
  | false =>
    obtain ⟨h1, h2, h3⟩ := stSmall_inv hB hs
    have hq : IsB q := by rw [h1] at hB; exact isB_app hB
    obtain ⟨g1, g2⟩ := fold_back hF l _ q hq hl hn y r h hok
    have hyk : y.k = getK zs := by
      have := onlyE_k { y with k := getK zs } l
      rw [g2]
      suffices hh : ∀ (l : List UInt8) (e x : EV), (l.foldl (setF e) x).k = x.k by rw [hh]; rfl
      intro l
      induction l with
      | nil => intro e x; rfl
      | cons c l ih => intro e x; rw [List.foldl_cons, ih, setF_k]
    refine ⟨?_, ?_, hyk⟩
    · rw [h1]
      unfold encL
      rw [hyk, hk, List.append_assoc, g1]
    · unfold onlyE
      rw [hyk]
      exact g2
end Go.Proofs.YteaepgbakcifkaaDoor
