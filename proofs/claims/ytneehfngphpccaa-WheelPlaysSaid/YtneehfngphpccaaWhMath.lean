/- The wheel, plainly: the map's entries against the sorted row of dues. -/
import Derived.Test.YtneehfngphpccaaWhRef4
import Derived.Test.YtneehfngphpccaaWhAll
set_option linter.unusedVariables false
set_option linter.unusedSimpArgs false
namespace Go.Proofs.Ytneehfngphpccaa
open Go.RowKit
/-- where one stands in the row -/
def insK (x : Du) : List Du → Nat
  | [] => 0
  | y :: l => if lessD y x = true then insK x l + 1 else 0
def insD (x : Du) (L : List Du) : List Du := L.take (insK x L) ++ [x] ++ L.drop (insK x L)
theorem insK_le (x : Du) : ∀ L : List Du, insK x L ≤ L.length
  | [] => Nat.le_refl _
  | y :: l => by
    have := insK_le x l
    unfold insK
    split <;> simp <;> omega
theorem insK_at (x : Du) : ∀ (L : List Du) (j : Nat), (∀ q y, q < j → L[q]? = some y → lessD y x = true) → j ≤ L.length → (∀ y, L[j]? = some y → ¬ lessD y x = true) → insK x L = j
  | [], j, h1, h2, h3 => by simp at h2; subst h2; rfl
  | y :: l, 0, h1, h2, h3 => by unfold insK; rw [if_neg (h3 y rfl)]
  | y :: l, j + 1, h1, h2, h3 => by
    unfold insK
    rw [if_pos (h1 0 y (by omega) rfl), insK_at x l j (fun q z hq hz => h1 (q + 1) z (by omega) (by simpa using hz)) (by simpa using h2) (fun z hz => h3 z (by simpa using hz))]
theorem insD_nil (x : Du) : insD x [] = [x] := rfl
theorem insD_cons (x y : Du) (l : List Du) : insD x (y :: l) = if lessD y x = true then y :: insD x l else x :: y :: l := by
  unfold insD
  rw [insK]
  split <;> simp
theorem lessD_iff (x y : Du) : lessD x y = true ↔ (x.2.2 < y.2.2 ∨ x.2.2 = y.2.2 ∧ (x.1 < y.1 ∨ x.1 = y.1 ∧ x.2.1 < y.2.1)) := by
  obtain ⟨a, b, c⟩ := x
  obtain ⟨a', b', c'⟩ := y
  unfold lessD
  dsimp only
  by_cases h1 : c = c'
  · by_cases h2 : a = a' <;> simp [h1, h2]
  · by_cases h3 : c < c' <;> simp [h1, h3]
theorem lessD_no (x y : Du) : lessD x y = false ↔ ¬ (x.2.2 < y.2.2 ∨ x.2.2 = y.2.2 ∧ (x.1 < y.1 ∨ x.1 = y.1 ∧ x.2.1 < y.2.1)) := by
  rw [← lessD_iff]; simp
theorem lessD_trans {x y z : Du} (h1 : lessD x y = true) (h2 : lessD y z = true) : lessD x z = true := by rw [lessD_iff] at *; omega
theorem lessD_irr (x : Du) : ¬ lessD x x = true := by rw [lessD_iff]; omega
def SrtD (L : List Du) : Prop := L.Pairwise (fun x y => lessD x y = true)
theorem SrtD.nodup {L : List Du} (h : SrtD L) : L.Nodup := List.Pairwise.imp (fun {a b} h => by rintro rfl; exact lessD_irr _ h) h
def KeyD (L : List Du) : Prop := ∀ x ∈ L, ∀ y ∈ L, x.1 = y.1 → x.2.1 = y.2.1 → x = y
theorem mem_insD (x y : Du) : ∀ L : List Du, y ∈ insD x L ↔ y = x ∨ y ∈ L
  | [] => by simp [insD_nil]
  | z :: l => by
    rw [insD_cons]
    split
    · rw [List.mem_cons, mem_insD x y l, List.mem_cons]
      constructor
      · rintro (h | h | h); exact .inr (.inl h); exact .inl h; exact .inr (.inr h)
      · rintro (h | h | h); exact .inr (.inl h); exact .inl h; exact .inr (.inr h)
    · rw [List.mem_cons]
theorem srt_insD (x : Du) : ∀ L : List Du, SrtD L → (∀ y ∈ L, y ≠ x) → SrtD (insD x L)
  | [], _, _ => by rw [insD_nil]; exact List.pairwise_singleton _ _
  | z :: l, h, hn => by
    obtain ⟨h1, h2⟩ := List.pairwise_cons.1 h
    rw [insD_cons]
    split
    · rename_i hz
      refine List.pairwise_cons.2 ⟨fun y hy => ?_, srt_insD x l h2 (fun y hy => hn y (List.mem_cons_of_mem _ hy))⟩
      rcases (mem_insD x y l).1 hy with rfl | hy
      · exact hz
      · exact h1 y hy
    · rename_i hz
      have hxz : lessD x z = true := by
        have hne := hn z (List.mem_cons_self ..)
        rw [lessD_iff] at hz ⊢
        obtain ⟨a, b, c⟩ := x
        obtain ⟨a', b', c'⟩ := z
        dsimp only at hz ⊢
        by_cases e1 : c = c'
        · by_cases e2 : a = a'
          · by_cases e3 : b = b'
            · exact absurd (by rw [e1, e2, e3]) hne
            · omega
          · omega
        · omega
      exact List.pairwise_cons.2 ⟨fun y hy => by rcases List.mem_cons.1 hy with rfl | hy; exact hxz; exact lessD_trans hxz (h1 y hy), h⟩
theorem dropD_sub (a b : Int) : ∀ L : List Du, (dropD a b L).Sublist L
  | [] => List.Sublist.refl _
  | x :: l => by
    unfold dropD
    split
    · exact List.sublist_cons_self _ _
    · exact (dropD_sub a b l).cons_cons x
theorem mem_dropD (a b : Int) (x : Du) : ∀ L : List Du, L.Nodup → KeyD L → (x ∈ dropD a b L ↔ x ∈ L ∧ ¬ (x.1 = a ∧ x.2.1 = b))
  | [], _, _ => by simp [dropD]
  | y :: l, hn, hk => by
    obtain ⟨h1, h2⟩ := List.nodup_cons.1 hn
    have hk' : KeyD l := fun u hu v hv => hk u (List.mem_cons_of_mem _ hu) v (List.mem_cons_of_mem _ hv)
    unfold dropD
    split
    · rename_i hy
      constructor
      · intro hx
        refine ⟨List.mem_cons_of_mem _ hx, fun hxx => h1 ?_⟩
        rw [← hk x (List.mem_cons_of_mem _ hx) y (List.mem_cons_self ..) (by rw [hxx.1, hy.1]) (by rw [hxx.2, hy.2])]
        exact hx
      · rintro ⟨hx, hxx⟩
        rcases List.mem_cons.1 hx with rfl | hx
        · exact absurd hy hxx
        · exact hx
    · rename_i hy
      rw [List.mem_cons, mem_dropD a b x l h2 hk', List.mem_cons]
      constructor
      · rintro (rfl | ⟨h, h'⟩)
        · exact ⟨.inl rfl, hy⟩
        · exact ⟨.inr h, h'⟩
      · rintro ⟨rfl | h, h'⟩
        · exact .inl rfl
        · exact .inr ⟨h, h'⟩
theorem fnd_none (a b : Int) : ∀ (M : List ME) (i : Nat), fnd a b M i = none → ∀ m ∈ M, ¬ (m.a = a ∧ m.b = b)
  | [], _, _, m, hm => by cases hm
  | x :: l, i, h, m, hm => by
    unfold fnd at h
    split at h
    · cases h
    · rename_i hx
      rcases List.mem_cons.1 hm with rfl | hm
      · rintro ⟨rfl, rfl⟩; exact hx ⟨rfl, rfl⟩
      · exact fnd_none a b l (i + 1) h m hm
theorem fnd_split (a b : Int) : ∀ (M : List ME) (i j : Nat) (v : Value), fnd a b M i = some (j, v) → ∃ A m B, M = A ++ m :: B ∧ j = i + A.length ∧ m.a = a ∧ m.b = b ∧ m.v = v
  | [], i, j, v, h => by cases h
  | x :: l, i, j, v, h => by
    unfold fnd at h
    split at h
    · rename_i hx
      injection h with h
      injection h with h1 h2
      exact ⟨[], x, l, rfl, by simp [h1], hx.1.symm, hx.2.symm, h2⟩
    · obtain ⟨A, m, B, h1, h2, h3⟩ := fnd_split a b l (i + 1) j v h
      exact ⟨x :: A, m, B, by rw [h1]; rfl, by simp; omega, h3⟩
theorem mid_not {α : Type} {A B : List α} {m : α} (h : (A ++ m :: B).Nodup) : m ∉ A ++ B := by
  obtain ⟨h1, h2, h3⟩ := List.nodup_append.1 h
  intro hm
  rcases List.mem_append.1 hm with hm | hm
  · exact h3 m hm m (List.mem_cons_self ..) rfl
  · exact (List.nodup_cons.1 h2).1 hm
theorem modify_mid {α : Type} (f : α → α) (m : α) (B : List α) : ∀ A : List α, (A ++ m :: B).modify A.length f = A ++ f m :: B
  | [] => rfl
  | x :: A => by simp [modify_mid f m B A]
/-- the map's entries and the row -/
structure WOk (M : List ME) (ck : Nat) (L : List Du) : Prop where
  st : Stamped M ck
  iv : ∀ m ∈ M, ∃ t, m.v = .int .i64 t
  key : (M.map fun m => (m.a, m.b)).Nodup
  mem : ∀ x, x ∈ M.map duE ↔ x ∈ L
  srt : SrtD L
theorem WOk.nil : WOk [] 0 [] := ⟨⟨by simp, by simp⟩, by simp, by simp, by simp, List.Pairwise.nil⟩
theorem eq_of_key {M : List ME} (h : (M.map fun m => (m.a, m.b)).Nodup) {x y : ME} (hx : x ∈ M) (hy : y ∈ M) (e1 : x.a = y.a) (e2 : x.b = y.b) : x = y := by
  induction M with
  | nil => cases hx
  | cons z l ih =>
    simp only [List.map_cons, List.nodup_cons, List.mem_map, not_exists, not_and] at h
    rcases List.mem_cons.1 hx with h1 | h1
    · rcases List.mem_cons.1 hy with h2 | h2
      · rw [h1, h2]
      · exact absurd (by rw [← h1, e1, e2]) (h.1 y h2)
    · rcases List.mem_cons.1 hy with h2 | h2
      · exact absurd (by rw [← h2, e1, e2]) (h.1 x h1)
      · exact ih h.2 h1 h2
theorem WOk.keyD {M : List ME} {ck : Nat} {L : List Du} (h : WOk M ck L) : KeyD L := by
  intro x hx y hy e1 e2
  obtain ⟨m, hm, rfl⟩ := List.mem_map.1 ((h.mem x).2 hx)
  obtain ⟨m', hm', rfl⟩ := List.mem_map.1 ((h.mem y).2 hy)
  rw [eq_of_key h.key hm hm' e1 e2]
theorem WOk.nodE {M : List ME} {ck : Nat} {L : List Du} (h : WOk M ck L) : (M.map duE).Nodup := by
  have : (M.map duE).map (fun x => (x.1, x.2.1)) = M.map fun m => (m.a, m.b) := by simp [duE, Function.comp_def]
  exact nodup_of_map (fun x : Du => (x.1, x.2.1)) (by rw [this]; exact h.key)
theorem WOk.perm {M : List ME} {ck : Nat} {L : List Du} (h : WOk M ck L) : (M.map duE).Perm L := (List.perm_ext_iff_of_nodup h.nodE h.srt.nodup).2 h.mem
theorem WOk.len {M : List ME} {ck : Nat} {L : List Du} (h : WOk M ck L) : M.length = L.length := by have := h.perm.length_eq; simpa using this
theorem WOk.sorted {M D : List ME} {ck : Nat} {L : List Du} (h : WOk M ck L) (hD : D.Perm M) : sortD (D.map duE) = L := by
  have hp : (D.map duE).Perm L := (hD.map duE).trans h.perm
  unfold sortD
  refine List.Perm.eq_of_pairwise (le := fun x y => (!lessD y x) = true) ?_ (List.pairwise_mergeSort ?_ ?_ _) (h.srt.imp fun {x y} hxy => ?_) ((List.mergeSort_perm _ _).trans hp)
  · intro x y _ _ h1 h2
    simp only [Bool.not_eq_true', lessD_no] at h1 h2
    obtain ⟨a, b, c⟩ := x
    obtain ⟨a', b', c'⟩ := y
    dsimp only at h1 h2
    have e1 : c = c' := by omega
    have e2 : a = a' := by omega
    have e3 : b = b' := by omega
    rw [e1, e2, e3]
  · intro x y z h1 h2
    simp only [Bool.not_eq_true', lessD_no] at *
    omega
  · intro x y
    rw [Bool.or_eq_true]
    simp only [Bool.not_eq_true', lessD_no]
    omega
  · simp only [Bool.not_eq_true', lessD_no]
    rw [lessD_iff] at hxy
    omega
theorem WOk.look {M : List ME} {ck : Nat} {L : List Du} (h : WOk M ck L) (a b : Int) : lookB a b M = hasD a b L ∧ lookV (.int .i64 0) a b M = .int .i64 (atD a b L) := by
  unfold lookB lookV
  cases hf : fnd a b M 0 with
  | none =>
    have hno := fnd_none a b M 0 hf
    have hL : ∀ x ∈ L, ¬ (x.1 = a ∧ x.2.1 = b) := fun x hx => by
      obtain ⟨m, hm, rfl⟩ := List.mem_map.1 ((h.mem x).2 hx)
      exact hno m hm
    have h1 : fndD a b L 0 = -1 := by
      rcases fndD_spec a b L 0 with ⟨h1, _⟩ | ⟨k, x, _, hk, h3, h4, _⟩
      · exact h1
      · exact absurd ⟨h3, h4⟩ (hL x (List.mem_of_getElem? hk))
    have h2 : atD a b L = 0 := by
      rcases atD_spec a b L 0 with ⟨_, h2⟩ | ⟨k, x, h3, _⟩
      · exact h2
      · rw [h1] at h3; omega
    exact ⟨by unfold hasD; rw [h1]; rfl, by rw [h2]⟩
  | some p =>
    obtain ⟨j, v⟩ := p
    obtain ⟨A, m, B, hM, _, ha, hb, hv⟩ := fnd_split a b M 0 j v hf
    have hm : m ∈ M := by rw [hM]; simp
    have hx : duE m ∈ L := (h.mem _).1 (List.mem_map.2 ⟨m, hm, rfl⟩)
    obtain ⟨t, ht⟩ := h.iv m hm
    have hd : duE m = (a, b, t) := by unfold duE; rw [ha, hb, ht]; rfl
    rw [hd] at hx
    rcases fndD_spec a b L 0 with ⟨_, _, h1⟩ | ⟨k, x, h1, hk, h3, h4, _⟩
    · exact absurd ⟨rfl, rfl⟩ (h1 _ hx)
    · have hxe : x = (a, b, t) := h.keyD x (List.mem_of_getElem? hk) _ hx h3 h4
      subst hxe
      have hat : atD a b L = t := by
        rcases atD_spec a b L 0 with ⟨h5, _⟩ | ⟨k', x', h5, h6, h7⟩
        · rw [h5] at h1; omega
        · have : k = k' := by rw [h5] at h1; omega
          subst this
          rw [hk] at h6
          injection h6 with h6
          rw [h7, ← h6]
      refine ⟨by unfold hasD; rw [h1]; simp, ?_⟩
      dsimp only
      rw [← hv, ht, hat]
theorem WOk.drop {M : List ME} {ck : Nat} {L : List Du} (h : WOk M ck L) (a b : Int) : WOk (delM a b M) ck (dropD a b L) := by
  have hsub := dropD_sub a b L
  unfold delM
  cases hf : fnd a b M 0 with
  | none =>
    have hno := fnd_none a b M 0 hf
    refine ⟨h.st, h.iv, h.key, fun x => ?_, h.srt.sublist hsub⟩
    rw [mem_dropD a b x L h.srt.nodup h.keyD, h.mem]
    refine ⟨fun hx => ⟨hx, ?_⟩, fun hx => hx.1⟩
    obtain ⟨m, hm, rfl⟩ := List.mem_map.1 ((h.mem x).2 hx)
    exact hno m hm
  | some p =>
    obtain ⟨j, v⟩ := p
    obtain ⟨A, m, B, hM, hj, ha, hb, hv⟩ := fnd_split a b M 0 j v hf
    have hj' : j = A.length := by omega
    subst hj'
    have hE : M.eraseIdx A.length = A ++ B := by rw [hM, List.eraseIdx_append_of_length_le (Nat.le_refl _)]; simp
    show WOk (M.eraseIdx A.length) ck (dropD a b L)
    rw [hE]
    have hsM : (A ++ B).Sublist M := by rw [hM]; exact (List.Sublist.refl A).append (List.sublist_cons_self _ _)
    refine ⟨⟨(h.st.1).sublist (hsM.map _), fun x hx => h.st.2 x (hsM.subset hx)⟩, fun x hx => h.iv x (hsM.subset hx), h.key.sublist (hsM.map _), fun x => ?_, h.srt.sublist hsub⟩
    rw [mem_dropD a b x L h.srt.nodup h.keyD, ← h.mem]
    constructor
    · intro hx
      obtain ⟨m', hm', rfl⟩ := List.mem_map.1 hx
      refine ⟨List.mem_map.2 ⟨m', hsM.subset hm', rfl⟩, fun hk => ?_⟩
      have hmm : m' = m := eq_of_key h.key (hsM.subset hm') (by rw [hM]; simp) (by rw [ha]; exact hk.1) (by rw [hb]; exact hk.2)
      subst hmm
      have := nodup_of_map _ h.key
      rw [hM] at this
      exact mid_not this hm'
    · rintro ⟨hx, hk⟩
      obtain ⟨m', hm', rfl⟩ := List.mem_map.1 hx
      refine List.mem_map.2 ⟨m', ?_, rfl⟩
      rw [hM] at hm'
      rcases List.mem_append.1 hm' with h1 | h1
      · exact List.mem_append_left _ h1
      · rcases List.mem_cons.1 h1 with rfl | h1
        · exact absurd ⟨ha, hb⟩ hk
        · exact List.mem_append_right _ h1
theorem WOk.put {M : List ME} {ck : Nat} {L : List Du} (h : WOk M ck L) (a b t : Int) : WOk (putM a b (.int .i64 t) ck M).1 (putM a b (.int .i64 t) ck M).2 (insD (a, b, t) (dropD a b L)) := by
  have hsub := dropD_sub a b L
  have hne : ∀ y ∈ dropD a b L, y ≠ (a, b, t) := fun y hy e => by
    have := ((mem_dropD a b y L h.srt.nodup h.keyD).1 hy).2
    rw [e] at this
    exact this ⟨rfl, rfl⟩
  have hsrt := srt_insD (a, b, t) (dropD a b L) (h.srt.sublist hsub) hne
  unfold putM
  cases hf : fnd a b M 0 with
  | none =>
    have hno := fnd_none a b M 0 hf
    refine ⟨⟨?_, ?_⟩, ?_, ?_, fun x => ?_, hsrt⟩
    · rw [List.map_append, List.nodup_append]
      refine ⟨h.st.1, by simp, fun x hx y hy => ?_⟩
      obtain ⟨m, hm, rfl⟩ := List.mem_map.1 hx
      have := h.st.2 m hm
      simp at hy
      omega
    · intro m hm
      rcases List.mem_append.1 hm with hm | hm
      · have := h.st.2 m hm; dsimp only; omega
      · simp at hm; subst hm; dsimp only; omega
    · intro m hm
      rcases List.mem_append.1 hm with hm | hm
      · exact h.iv m hm
      · simp at hm; subst hm; exact ⟨t, rfl⟩
    · rw [List.map_append, List.nodup_append]
      refine ⟨h.key, by simp, fun x hx y hy => ?_⟩
      obtain ⟨m, hm, rfl⟩ := List.mem_map.1 hx
      simp at hy
      subst hy
      intro e
      injection e with e1 e2
      exact hno m hm ⟨e1, e2⟩
    · rw [mem_insD, mem_dropD a b x L h.srt.nodup h.keyD, ← h.mem, List.map_append, List.mem_append]
      constructor
      · rintro (hx | hx)
        · obtain ⟨m, hm, rfl⟩ := List.mem_map.1 hx
          exact .inr ⟨hx, hno m hm⟩
        · simp [duE, intOf] at hx
          exact .inl hx
      · rintro (hx | ⟨hx, _⟩)
        · exact .inr (by simp [duE, intOf, hx])
        · exact .inl hx
  | some p =>
    obtain ⟨j, v⟩ := p
    obtain ⟨A, m, B, hM, hj, ha, hb, hv⟩ := fnd_split a b M 0 j v hf
    have hj' : j = A.length := by omega
    subst hj'
    have hE : (M.modify A.length fun m => { m with v := .int .i64 t }) = A ++ { m with v := .int .i64 t } :: B := by
      rw [hM]
      exact modify_mid _ _ _ _
    show WOk (M.modify A.length fun m => { m with v := .int .i64 t }) ck (insD (a, b, t) (dropD a b L))
    rw [hE]
    have hn1 : (A ++ { m with v := .int .i64 t } :: B).map (·.n) = M.map (·.n) := by rw [hM]; simp
    have hn2 : (A ++ { m with v := .int .i64 t } :: B).map (fun m => (m.a, m.b)) = M.map fun m => (m.a, m.b) := by rw [hM]; simp
    have hin : ∀ x ∈ A ++ { m with v := .int .i64 t } :: B, x = { m with v := .int .i64 t } ∨ (x ∈ M ∧ x ≠ m) := by
      intro x hx
      have hnd := nodup_of_map _ h.key
      rw [hM] at hnd
      have hnn := mid_not hnd
      rcases List.mem_append.1 hx with h1 | h1
      · exact .inr ⟨by rw [hM]; simp [h1], fun e => hnn (by rw [← e]; simp [h1])⟩
      · rcases List.mem_cons.1 h1 with h1 | h1
        · exact .inl h1
        · exact .inr ⟨by rw [hM]; simp [h1], fun e => hnn (by rw [← e]; simp [h1])⟩
    refine ⟨⟨by rw [hn1]; exact h.st.1, fun x hx => ?_⟩, fun x hx => ?_, by rw [hn2]; exact h.key, fun x => ?_, hsrt⟩
    · rcases hin x hx with rfl | ⟨h1, _⟩
      · exact h.st.2 m (by rw [hM]; simp)
      · exact h.st.2 x h1
    · rcases hin x hx with rfl | ⟨h1, _⟩
      · exact ⟨t, rfl⟩
      · exact h.iv x h1
    · rw [mem_insD, mem_dropD a b x L h.srt.nodup h.keyD, ← h.mem]
      constructor
      · intro hx
        obtain ⟨m', hm', rfl⟩ := List.mem_map.1 hx
        rcases hin m' hm' with rfl | ⟨h1, h2⟩
        · exact .inl (by simp [duE, intOf, ha, hb])
        · refine .inr ⟨List.mem_map.2 ⟨m', h1, rfl⟩, fun hk => h2 ?_⟩
          exact eq_of_key h.key h1 (by rw [hM]; simp) (by rw [ha]; exact hk.1) (by rw [hb]; exact hk.2)
      · rintro (rfl | ⟨hx, hk⟩)
        · exact List.mem_map.2 ⟨{ m with v := .int .i64 t }, by simp, by simp [duE, intOf, ha, hb]⟩
        · obtain ⟨m', hm', rfl⟩ := List.mem_map.1 hx
          refine List.mem_map.2 ⟨m', ?_, rfl⟩
          rw [hM] at hm'
          rcases List.mem_append.1 hm' with h1 | h1
          · exact List.mem_append_left _ h1
          · rcases List.mem_cons.1 h1 with rfl | h1
            · exact absurd ⟨ha, hb⟩ hk
            · exact List.mem_append_right _ (List.mem_cons_of_mem _ h1)
end Go.Proofs.Ytneehfngphpccaa
