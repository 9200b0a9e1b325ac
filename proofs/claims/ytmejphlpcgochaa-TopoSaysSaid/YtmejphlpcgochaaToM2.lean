/- Levels of graphs, plainly. -/
import Derived.Test.YtmejphlpcgochaaToM1
set_option linter.unusedVariables false
set_option linter.unusedSimpArgs false
namespace Go.Proofs.Ytmejphlpcgochaa
open Go.RowKit
theorem besL_len16' {N : Int} {E : List Ed} (hg : goodG N E = true) (b : Int) : (besL N E b 1).length ≤ 16 := by
  have hN := good_N hg
  rw [ahd_asc hg]
  have := ascL_len (fun x => hasE E (x, b)) N.toNat
  omega
/-- one node ahead looked at -/
def lvA (n : Int) (d : List Int) (a : Int) : List Int := d.set n.toNat (max (d.getD n.toNat 0) (d.getD a.toNat 0 + 1))
def lvN (N : Int) (E : List Ed) (d : List Int) (n : Int) : List Int := (besL N E n 1).foldl (lvA n) d
def lvF (N : Int) (E : List Ed) (l : List Int) : List Int := l.foldl (lvN N E) (List.replicate N.toNat 0)
def levT (N : Int) (E : List Ed) : Option (List Int) := (orderT N E).map (lvF N E)
/-- the greatest of what the nodes ahead ask -/
def mxA (d : List Int) (ys : List Int) (m : Int) : Int := ys.foldl (fun m a => max m (d.getD a.toNat 0 + 1)) m
theorem mxA_ge (d : List Int) : ∀ (ys : List Int) (m : Int), m ≤ mxA d ys m ∧ ∀ a ∈ ys, d.getD a.toNat 0 + 1 ≤ mxA d ys m
  | [], m => ⟨Int.le_refl _, fun a h => (by cases h)⟩
  | x :: ys, m => by
    have h := mxA_ge d ys (max m (d.getD x.toNat 0 + 1))
    unfold mxA at h ⊢
    rw [List.foldl_cons]
    refine ⟨by have := h.1; omega, fun a ha => ?_⟩
    rcases List.mem_cons.1 ha with rfl | ha
    · have := h.1; omega
    · exact h.2 a ha
theorem mxA_is (d : List Int) : ∀ (ys : List Int) (m : Int), mxA d ys m = m ∨ ∃ a ∈ ys, mxA d ys m = d.getD a.toNat 0 + 1
  | [], m => .inl rfl
  | x :: ys, m => by
    have h := mxA_is d ys (max m (d.getD x.toNat 0 + 1))
    unfold mxA at h ⊢
    rw [List.foldl_cons]
    rcases h with h | ⟨a, h1, h2⟩
    · rw [h]
      rcases (by omega : max m (d.getD x.toNat 0 + 1) = m ∨ max m (d.getD x.toNat 0 + 1) = d.getD x.toNat 0 + 1) with h3 | h3
      · exact .inl h3
      · exact .inr ⟨x, List.mem_cons_self .., h3⟩
    · exact .inr ⟨a, List.mem_cons_of_mem _ h1, h2⟩
theorem lvA_fold (n : Int) (hn : 0 ≤ n) : ∀ (ys : List Int) (d : List Int), n.toNat < d.length → (∀ a ∈ ys, 0 ≤ a ∧ a ≠ n) → ys.foldl (lvA n) d = d.set n.toNat (mxA d ys (d.getD n.toNat 0))
  | [], d, h, _ => by
    refine List.ext_getElem? fun i => ?_
    rw [List.foldl_nil, List.getElem?_set]
    by_cases hi : n.toNat = i
    · subst hi
      rw [if_pos rfl, if_pos h, List.getElem?_eq_getElem h]
      simp [mxA, List.getD_eq_getElem?_getD, h]
    · rw [if_neg hi]
  | x :: ys, d, h, ha => by
    have hx := ha x (List.mem_cons_self ..)
    rw [List.foldl_cons, lvA_fold n hn ys _ (by unfold lvA; simpa using h) fun a h2 => ha a (List.mem_cons_of_mem _ h2)]
    unfold lvA
    rw [List.set_set]
    congr 1
    have hg : ∀ (v : Int) (a : Int), 0 ≤ a ∧ a ≠ n → (d.set n.toNat v).getD a.toNat 0 = d.getD a.toNat 0 := fun v a h2 => by
      rw [getD_set, if_neg (by omega)]
    have hs : ∀ v : Int, (d.set n.toNat v).getD n.toNat 0 = v := fun v => by rw [getD_set, if_pos ⟨rfl, h⟩]
    rw [hs]
    have hcg : ∀ (ys : List Int) (v m : Int), (∀ a ∈ ys, 0 ≤ a ∧ a ≠ n) → mxA (d.set n.toNat v) ys m = mxA d ys m := by
      intro ys v
      induction ys with
      | nil => intro m _; rfl
      | cons y ys ih =>
        intro m hy
        unfold mxA at ih ⊢
        rw [List.foldl_cons, List.foldl_cons, hg v y (hy y (List.mem_cons_self ..))]
        exact ih _ fun a h2 => hy a (List.mem_cons_of_mem _ h2)
    rw [hcg ys _ _ fun a h2 => ha a (List.mem_cons_of_mem _ h2)]
    unfold mxA
    rw [List.foldl_cons]
theorem ahd_ne {N : Int} {E : List Ed} (hg : goodG N E = true) {n : Int} : ∀ a ∈ besL N E n 1, 0 ≤ a ∧ a ≠ n := fun a ha => by
  have := good_mem hg ((mem_ahd hg a n).1 ha)
  exact ⟨this.1.1, this.2.2⟩
theorem lvN_eq {N : Int} {E : List Ed} (hg : goodG N E = true) (d : List Int) (n : Int) (hn : 0 ≤ n) (hl : n.toNat < d.length) : lvN N E d n = d.set n.toNat (mxA d (besL N E n 1) (d.getD n.toNat 0)) :=
  lvA_fold n hn _ d hl (ahd_ne hg)
/-- what levels are -/
structure LvS (N : Int) (E : List Ed) (f : Int → Int) : Prop where
  ge : ∀ a b, (a, b) ∈ E → f a + 1 ≤ f b
  is : ∀ b, 0 ≤ b → b < N → f b = 0 ∨ ∃ a, (a, b) ∈ E ∧ f b = f a + 1
/-- the state when so much of an order is done -/
structure LvI (N : Int) (E : List Ed) (l : List Int) (i : Nat) (d : List Int) : Prop where
  len : d.length = N.toNat
  ge : ∀ a b, b ∈ l.take i → (a, b) ∈ E → d.getD a.toNat 0 + 1 ≤ d.getD b.toNat 0
  is : ∀ b, b ∈ l.take i → d.getD b.toNat 0 = 0 ∨ ∃ a, (a, b) ∈ E ∧ d.getD b.toNat 0 = d.getD a.toNat 0 + 1
  rest : ∀ b, 0 ≤ b → b < N → b ∉ l.take i → d.getD b.toNat 0 = 0
  bd : ∀ j, 0 ≤ d.getD j 0 ∧ d.getD j 0 ≤ i
theorem LvI.init (N : Int) (E : List Ed) (l : List Int) : LvI N E l 0 (List.replicate N.toNat 0) := by
  have h0 : ∀ j, (List.replicate N.toNat (0 : Int)).getD j 0 = 0 := fun j => by
    simp only [List.getD_eq_getElem?_getD, List.getElem?_replicate]
    split <;> rfl
  exact ⟨by simp, fun a b h => by simp at h, fun b h => by simp at h, fun b _ _ _ => h0 _, fun j => by rw [h0]; omega⟩
theorem LvI.step {N : Int} {E : List Ed} {l : List Int} (hg : goodG N E = true) (ht : OrdP N E l) {i : Nat} {d : List Int} (h : LvI N E l i d) {n : Int} (hn : l[i]? = some n) : LvI N E l (i + 1) (lvN N E d n) := by
  have hnr := ht.rng n (List.mem_of_getElem? hn)
  have hnl : n.toNat < d.length := by rw [h.len]; omega
  have hno : n ∉ l.take i := fun hm => by
    obtain ⟨j, hj⟩ := List.getElem?_of_mem hm
    have hji : j < i := by
      have := (List.getElem?_eq_some_iff.1 hj).1
      rw [List.length_take] at this; omega
    rw [List.getElem?_take, if_pos hji] at hj
    have := nodup_at ht.nd hj hn
    omega
  have hdone : ∀ a, (a, n) ∈ E → a ∈ l.take i := fun a ha => by
    obtain ⟨j, h1, h2⟩ := ht.top i n hn a ha
    exact List.mem_of_getElem? (i := j) (by rw [List.getElem?_take, if_pos h1]; exact h2)
  have htk : ∀ b, b ∈ l.take (i + 1) ↔ b ∈ l.take i ∨ b = n := fun b => by rw [List.take_add_one, hn, List.mem_append]; simp
  have h0 := h.rest n hnr.1 hnr.2 hno
  rw [lvN_eq hg d n hnr.1 hnl, h0]
  have hv' : ∀ (M b : Int), 0 ≤ b → (d.set n.toNat M).getD b.toNat 0 = if b = n then M else d.getD b.toNat 0 := fun M b hb => by
    rw [getD_set]
    by_cases hbn : b = n
    · subst hbn; rw [if_pos ⟨rfl, hnl⟩, if_pos rfl]
    · rw [if_neg (by omega), if_neg hbn]
  obtain ⟨M, hM⟩ : ∃ M, mxA d (besL N E n 1) 0 = M := ⟨_, rfl⟩
  have hge := mxA_ge d (besL N E n 1) 0
  have his := mxA_is d (besL N E n 1) 0
  rw [hM] at hge his ⊢
  have hv := hv' M
  have hold : ∀ b ∈ l.take i, 0 ≤ b ∧ b ≠ n := fun b hb => ⟨(ht.rng b (List.mem_of_mem_take hb)).1, fun e => hno (e ▸ hb)⟩
  have hpre : ∀ b ∈ l.take i, ∀ a, (a, b) ∈ E → a ∈ l.take i := fun b hb a ha => by
    obtain ⟨j, hj⟩ := List.getElem?_of_mem hb
    have hji : j < i := by
      have := (List.getElem?_eq_some_iff.1 hj).1
      rw [List.length_take] at this; omega
    rw [List.getElem?_take, if_pos hji] at hj
    obtain ⟨k, h1, h2⟩ := ht.top j b hj a ha
    exact List.mem_of_getElem? (i := k) (by rw [List.getElem?_take, if_pos (by omega)]; exact h2)
  refine ⟨by rw [List.length_set]; exact h.len, fun a b hb ha => ?_, fun b hb => ?_, fun b h1 h2 hb => ?_, fun j => ?_⟩
  · rcases (htk b).1 hb with hb | rfl
    · have hb' := hold b hb
      have ha' := hold a (hpre b hb a ha)
      rw [hv a ha'.1, hv b hb'.1, if_neg ha'.2, if_neg hb'.2]
      exact h.ge a b hb ha
    · have ha' := hold a (hdone a ha)
      rw [hv a ha'.1, hv b hnr.1, if_neg ha'.2, if_pos rfl]
      exact hge.2 a ((mem_ahd hg a b).2 ha)
  · rcases (htk b).1 hb with hb | rfl
    · have hb' := hold b hb
      rw [hv b hb'.1, if_neg hb'.2]
      rcases h.is b hb with h1 | ⟨a, h1, h2⟩
      · exact .inl h1
      · have ha' := hold a (hpre b hb a h1)
        exact .inr ⟨a, h1, by rw [hv a ha'.1, if_neg ha'.2]; exact h2⟩
    · rw [hv b hnr.1, if_pos rfl]
      rcases his with h1 | ⟨a, h1, h2⟩
      · exact .inl h1
      · have hE := (mem_ahd hg a b).1 h1
        have ha' := hold a (hdone a hE)
        exact .inr ⟨a, hE, by rw [hv a ha'.1, if_neg ha'.2]; exact h2⟩
  · have hb2 : b ∉ l.take i ∧ b ≠ n := ⟨fun hh => hb ((htk b).2 (.inl hh)), fun hh => hb ((htk b).2 (.inr hh))⟩
    rw [hv b h1, if_neg hb2.2]
    exact h.rest b h1 h2 hb2.1
  · rw [getD_set]
    have hb := h.bd
    split
    · rcases his with h1 | ⟨a, _, h2⟩
      · omega
      · have := hb a.toNat; omega
    · have := hb j; omega
theorem foldl_take {α β : Type} (f : β → α → β) (l : List α) (i : Nat) (x : α) (s : β) (hx : l[i]? = some x) : (l.take (i + 1)).foldl f s = f ((l.take i).foldl f s) x := by
  rw [List.take_add_one, hx, List.foldl_append]; rfl
theorem lv_pre {N : Int} {E : List Ed} {l : List Int} (hg : goodG N E = true) (ht : OrdP N E l) : ∀ i, i ≤ l.length → LvI N E l i ((l.take i).foldl (lvN N E) (List.replicate N.toNat 0))
  | 0, _ => LvI.init N E l
  | i + 1, h => by
    have hx : l[i]? = some l[i] := List.getElem?_eq_getElem (by omega)
    rw [foldl_take _ _ _ _ _ hx]
    exact (lv_pre hg ht i (by omega)).step hg ht hx
theorem levT_some {N : Int} {E : List Ed} {d : List Int} (h : levT N E = some d) : ∃ l, orderT N E = some l ∧ d = lvF N E l := by
  unfold levT at h
  cases ho : orderT N E with
  | none => rw [ho] at h; cases h
  | some l => rw [ho] at h; injection h with h; exact ⟨l, rfl, h.symm⟩
theorem lvF_spec {N : Int} {E : List Ed} {l : List Int} (ho : orderT N E = some l) : (lvF N E l).length = N.toNat ∧ LvS N E (fun b => (lvF N E l).getD b.toNat 0) ∧ ∀ j, 0 ≤ (lvF N E l).getD j 0 ∧ (lvF N E l).getD j 0 ≤ N := by
  obtain ⟨hg, ht⟩ := orderT_some ho
  have hN := good_N hg
  have h := lv_pre hg ht.toOrdP l.length (Nat.le_refl _)
  rw [List.take_length] at h
  have hl := ht.len
  unfold lvF
  have htk : l.take l.length = l := List.take_length
  refine ⟨h.len, ⟨fun a b hab => ?_, fun b h1 h2 => ?_⟩, fun j => ?_⟩
  · exact h.ge a b (by rw [htk]; exact ht.all b (good_mem hg hab).2.1) hab
  · exact h.is b (by rw [htk]; exact ht.all b ⟨h1, h2⟩)
  · have := h.bd j; omega
theorem LvS.uniq {N : Int} {E : List Ed} (hg : goodG N E = true) (hc : ∀ n, ¬ Way E n n) {f g : Int → Int} (hf : LvS N E f) (hgg : LvS N E g) : ∀ (m : Nat) (b : Int), depT N E b ≤ m → 0 ≤ b → b < N → (0 ≤ f b ∧ 0 ≤ g b) → (∀ a, (a, b) ∈ E → 0 ≤ f a ∧ 0 ≤ g a) → (∀ x, 0 ≤ x → x < N → 0 ≤ f x ∧ 0 ≤ g x) → f b = g b
  | m, b, hm, h1, h2, h3, h4, h5 => by
    have ih : ∀ a, (a, b) ∈ E → f a = g a := fun a ha => by
      have hd := dep_edge hg hc ha
      have hr := (good_mem hg ha).1
      match m, hm with
      | 0, hm => omega
      | m + 1, hm => exact LvS.uniq hg hc hf hgg m a (by omega) hr.1 hr.2 (h5 a hr.1 hr.2) (fun x hx => h5 x (good_mem hg hx).1.1 (good_mem hg hx).1.2) h5
    rcases hf.is b h1 h2 with e1 | ⟨a, ha, e1⟩ <;> rcases hgg.is b h1 h2 with e2 | ⟨c, hcc, e2⟩
    · omega
    · have := hf.ge c b hcc; have := ih c hcc; have := h4 c hcc; omega
    · have := hgg.ge a b ha; have := ih a ha; have := h4 a ha; omega
    · have := ih a ha; have := ih c hcc; have := hf.ge c b hcc; have := hgg.ge a b ha; omega
theorem LvS.way {N : Int} {E : List Ed} {f : Int → Int} (hf : LvS N E f) {a b : Int} (w : Way E a b) : f a + 1 ≤ f b := by
  induction w with
  | one e => exact hf.ge _ _ e
  | more _ e ih => have := hf.ge _ _ e; omega
/-- Short keeps levels -/
theorem LvS.short {N : Int} {E : List Ed} (hg : goodG N E = true) (hcy : cycleL N E = []) {f : Int → Int} (hf : LvS N E f) : LvS N (shortL N E) f := by
  refine ⟨fun a b h => hf.ge a b ((shortL_sub N E).subset h), fun b h1 h2 => ?_⟩
  rcases hf.is b h1 h2 with h | ⟨a, ha, h⟩
  · exact .inl h
  · right
    cases har : aroundB N E (a, b) with
    | false =>
      refine ⟨a, ?_, h⟩
      unfold shortL
      rw [List.mem_filter, cyclic_false hg hcy, har]
      exact ⟨ha, rfl⟩
    | true =>
      obtain ⟨n, h3, h4, h5⟩ := (around_iff hg a b h1).1 har
      have := hf.ge a n h3
      have := hf.way h5
      omega
theorem lev_short {N : Int} {E : List Ed} (hg : goodG N E = true) {l l' : List Int} (ho : orderT N E = some l) (ho' : orderT N (shortL N E) = some l') : lvF N (shortL N E) l' = lvF N E l := by
  have hN := good_N hg
  have hc : cycleL N E = [] := by
    apply Classical.byContradiction
    intro hh
    rw [(orderT_none hg).2 hh] at ho
    cases ho
  obtain ⟨hg', ht'⟩ := orderT_some ho'
  obtain ⟨hl1, hs1, hb1⟩ := lvF_spec ho
  obtain ⟨hl2, hs2, hb2⟩ := lvF_spec ho'
  refine List.ext_getElem? fun i => ?_
  by_cases hi : i < N.toNat
  · have e1 : (lvF N E l)[i]? = some ((lvF N E l).getD i 0) := by rw [List.getD_eq_getElem?_getD, List.getElem?_eq_getElem (by omega)]; rfl
    have e2 : (lvF N (shortL N E) l')[i]? = some ((lvF N (shortL N E) l').getD i 0) := by rw [List.getD_eq_getElem?_getD, List.getElem?_eq_getElem (by omega)]; rfl
    rw [e1, e2]
    have := LvS.uniq hg' (ht'.acyc hg') hs2 (hs1.short hg hc) _ (i : Int) (Nat.le_refl _) (by omega) (by omega) ⟨(hb2 _).1, (hb1 _).1⟩ (fun a _ => ⟨(hb2 _).1, (hb1 _).1⟩) (fun x _ _ => ⟨(hb2 _).1, (hb1 _).1⟩)
    rw [show (lvF N (shortL N E) l').getD i 0 = (lvF N E l).getD i 0 from this]
  · rw [List.getElem?_eq_none (by omega), List.getElem?_eq_none (by omega)]
end Go.Proofs.Ytmejphlpcgochaa
