/- Two tables of which one is the other's beginning, and more (no program in sight). -/
import Derived.Test.YtmkoabalakfehaaEpAdd1
import Derived.Test.YtmkoabalakfehaaShipRec
set_option linter.unusedVariables false
set_option linter.unusedSimpArgs false
namespace Go.Proofs.Ytmkoabalakfehaa
open Go.RowKit
/-- a table from the first place on, its epochs at most e -/
def TOk (T : List Int) (E e : Int) : Prop := GoodT T E ∧ IsW T ∧ (∀ x ∈ T, 1 ≤ epI x ∧ epI x ≤ e) ∧ (T ≠ [] → ofI (T.getD 0 0) = 0) ∧ (T = [] → E = 0)
theorem tOk_nil (e : Int) : TOk [] 0 e := ⟨good_nil (by decide) (by decide), fun i => by simp, fun x h => absurd h (by simp), fun h => absurd rfl h, fun _ => rfl⟩
theorem ep_of_pack (e o : Int) (o0 : 0 ≤ o) (o1 : o ≤ 17592186044415) : epI (e * 17592186044416 + o) = e ∧ ofI (e * 17592186044416 + o) = o := by unfold epI ofI; omega
theorem last_mem {T : List Int} (h : T ≠ []) : T.getD (T.length - 1) 0 ∈ T := getD_mem (by have := List.length_pos_iff.2 h; omega)
theorem addL_mem {T : List Int} {s x : Int} (h : x ∈ addL T s) : x ∈ T ∨ x = s := by
  unfold addL at h
  split at h
  · rcases List.mem_append.1 h with h | h
    · exact .inl h
    · exact .inr (List.mem_singleton.1 h)
  · exact .inl h
theorem addL_len (T : List Int) (s : Int) : (addL T s).length ≤ T.length + 1 := by unfold addL; split <;> simp
theorem isW_add {T : List Int} {s : Int} (h : IsW T) (s0 : 0 ≤ s) (s1 : s ≤ 18446744073709551615) : IsW (addL T s) := isW_of_mem fun x hx => by
  rcases addL_mem hx with hx | rfl
  · exact isW_mem h x hx
  · exact ⟨s0, s1⟩
theorem addL_first {T : List Int} {s : Int} (h : T ≠ []) : (addL T s).getD 0 0 = T.getD 0 0 := by
  unfold addL
  split
  · rw [getD_left (List.length_pos_iff.2 h)]
  · rfl
theorem addL_nil (s : Int) : addL [] s = [s] := if_pos (.inl rfl)
theorem tOk_add {T : List Int} {E e e' : Int} (h : TOk T E e) (he : e ≤ e') (h1 : 1 ≤ e') (h2 : e' ≤ 1000) (hE : E ≤ 1000) :
    0 ≤ e' * 17592186044416 + E ∧ e' * 17592186044416 + E ≤ 18446744073709551615 ∧ ofI (e' * 17592186044416 + E) = E ∧ (T ≠ [] → epI (T.getD (T.length - 1) 0) ≤ epI (e' * 17592186044416 + E)) ∧ TOk (addL T (e' * 17592186044416 + E)) (E + 1) e' := by
  obtain ⟨g, w, b, f, n⟩ := h
  obtain ⟨x1, x2⟩ := ep_of_pack e' E g.2.1 (by omega)
  have g0 := g.2.1
  have hl : T ≠ [] → epI (T.getD (T.length - 1) 0) ≤ epI (e' * 17592186044416 + E) := fun hne => by
    rw [x1]; have := b _ (last_mem hne); omega
  refine ⟨by omega, by omega, x2, hl, good_add g x2 hl (by omega), isW_add w (by omega) (by omega), fun x hx => ?_, fun hne => ?_, fun hn => ?_⟩
  · rcases addL_mem hx with hx | rfl
    · have := b x hx; omega
    · rw [x1]; omega
  · by_cases ht : T = []
    · subst ht
      rw [addL_nil]
      show ofI (e' * 17592186044416 + E) = 0
      rw [x2]; exact n rfl
    · rw [addL_first ht]; exact f ht
  · exact absurd hn (addL_last T _ hl).1
/-- where T is cut: k of it lie ahead -/
def CutK (T : List Int) (cut : Int) (k : Nat) : Prop := k ≤ T.length ∧ (∀ j, j < k → ofI (T.getD j 0) < cut) ∧ ∀ j, k ≤ j → j < T.length → cut ≤ ofI (T.getD j 0)
/-- the other table when i records have come -/
def othT (T : List Int) (k : Nat) (e cut : Int) (i : Nat) : List Int := T.take k ++ (if i = 0 then [] else [(e + 1) * 17592186044416 + cut])
theorem oth_good {T : List Int} {E e cut : Int} {k : Nat} (h : TOk T E e) (he : 1 ≤ e) (he2 : e ≤ 500) (hE : E ≤ 500) (c0 : 0 ≤ cut) (c1 : cut ≤ E) (hk : CutK T cut k) : ∀ i : Nat, i ≤ 400 →
    GoodT (othT T k e cut i) (cut + i) ∧ (othT T k e cut i ≠ [] → epI ((othT T k e cut i).getD ((othT T k e cut i).length - 1) 0) ≤ e + 1) ∧ addL (othT T k e cut i) ((e + 1) * 17592186044416 + (cut + i)) = othT T k e cut (i + 1)
  | 0, _ => by
    have hU : othT T k e cut 0 = T.take k := by unfold othT; simp
    have hg : GoodT (T.take k) cut := good_take h.1 k hk.1 hk.2.1 c0 (by omega)
    have hlast : T.take k ≠ [] → epI ((T.take k).getD ((T.take k).length - 1) 0) ≤ e := fun hne => (h.2.2.1 _ (List.mem_of_mem_take (last_mem hne))).2
    rw [hU]
    refine ⟨by simpa using hg, fun hne => by have := hlast hne; omega, ?_⟩
    obtain ⟨x1, x2⟩ := ep_of_pack (e + 1) cut c0 (by omega)
    have hadd : addL (T.take k) ((e + 1) * 17592186044416 + (cut + ((0 : Nat) : Int))) = T.take k ++ [(e + 1) * 17592186044416 + cut] := by
      rw [show cut + ((0 : Nat) : Int) = cut by simp]
      unfold addL
      rw [x1, if_pos]
      by_cases hne : T.take k = []
      · exact .inl hne
      · exact .inr (by have := hlast hne; omega)
    rw [hadd]
    unfold othT
    rw [if_neg (by omega)]
  | i + 1, hi => by
    obtain ⟨g, l, ha⟩ := oth_good h he he2 hE c0 c1 hk i (by omega)
    obtain ⟨x1, x2⟩ := ep_of_pack (e + 1) (cut + i) (by omega) (by omega)
    obtain ⟨x3, x4⟩ := ep_of_pack (e + 1) (cut + (i + 1 : Nat)) (by omega) (by omega)
    obtain ⟨x5, x6⟩ := ep_of_pack (e + 1) cut c0 (by omega)
    have hne : othT T k e cut (i + 1) ≠ [] := by unfold othT; rw [if_neg (by omega)]; simp
    have hl : (othT T k e cut (i + 1)).getD ((othT T k e cut (i + 1)).length - 1) 0 = (e + 1) * 17592186044416 + cut := by
      unfold othT; rw [if_neg (by omega)]; simp [List.getD_eq_getElem?_getD]
    have hg := good_add g x2 (fun hne => by rw [x1]; exact l hne) (by omega)
    rw [ha] at hg
    refine ⟨by rw [show cut + ((i + 1 : Nat) : Int) = cut + (i : Int) + 1 by push_cast; omega]; exact hg, fun _ => by rw [hl, x5]; omega, ?_⟩
    unfold addL
    rw [if_neg]
    · unfold othT; rw [if_neg (by omega), if_neg (by omega)]
    · rintro (h' | h')
      · exact hne h'
      · rw [hl, x5, x3] at h'; omega
theorem oth_mem {T : List Int} {E e cut : Int} {k : Nat} (h : TOk T E e) (he : 1 ≤ e) (he2 : e ≤ 500) (c0 : 0 ≤ cut) (c1 : cut ≤ 500) (i : Nat) : IsW (othT T k e cut i) := isW_of_mem fun x hx => by
  unfold othT at hx
  rcases List.mem_append.1 hx with hx | hx
  · exact isW_mem h.2.1 x (List.mem_of_mem_take hx)
  · split at hx
    · cases hx
    · rw [List.mem_singleton.1 hx]; omega
theorem oth_len (T : List Int) (k : Nat) (e cut : Int) (i : Nat) : (othT T k e cut i).length ≤ T.length + 1 := by
  unfold othT
  split <;> simp <;> omega
/-- where they part -/
theorem oth_meet {T : List Int} {E e cut : Int} {k : Nat} (h : TOk T E e) (he : 1 ≤ e) (he2 : e ≤ 500) (hE : E ≤ 500) (c0 : 0 ≤ cut) (c1 : cut ≤ E) (hk : CutK T cut k) (i : Nat) (hi : i ≤ 400) :
    meetI T E (othT T k e cut i) (cut + i) = cut := by
  obtain ⟨gU, _, _⟩ := oth_good h he he2 hE c0 c1 hk i hi
  obtain ⟨x5, x6⟩ := ep_of_pack (e + 1) cut c0 (by omega)
  have gT := h.1
  have hkl := hk.1
  have hlen : (T.take k).length = k := by simp; omega
  have hR : ∀ x ∈ (if i = 0 then [] else [(e + 1) * 17592186044416 + cut]), epI x = e + 1 := by
    intro x hx
    split at hx
    · cases hx
    · rw [List.mem_singleton.1 hx, x5]
  unfold meetI
  rw [if_neg (by rintro (h | h); exact h gT; exact h gU)]
  -- beyond k nothing of T is there
  have hno : ∀ j, k ≤ j → j < T.length → idx (othT T k e cut i) (T.getD j 0) = none := by
    intro j h1 h2
    refine idx_none fun q hq => ?_
    intro heq
    have hm : T.getD j 0 ∈ othT T k e cut i := heq ▸ getD_mem hq
    have hT := h.2.2.1 _ (getD_mem h2)
    unfold othT at hm
    rcases List.mem_append.1 hm with hm | hm
    · obtain ⟨q', hq', he'⟩ := List.mem_iff_getElem.1 hm
      have hq2 : q' < k := by rw [hlen] at hq'; exact hq'
      have e1 := hk.2.1 q' hq2
      have e2 := hk.2.2 j h1 h2
      rw [← he'] at e2
      rw [List.getElem_take] at e2
      rw [List.getD_eq_getElem?_getD, List.getElem?_eq_getElem (by omega)] at e1
      simp at e1; omega
    · have := hR _ hm; omega
  have hdown : ∀ d, k + d ≤ T.length → meetGo T (othT T k e cut i) E (cut + i) (k + d) = meetGo T (othT T k e cut i) E (cut + i) k := by
    intro d
    induction d with
    | zero => intro _; rfl
    | succ d ih =>
      intro hd
      rw [← Nat.add_assoc, meetGo, hno (k + d) (by omega) (by omega)]
      exact ih (by omega)
  have hd := hdown (T.length - k) (by omega)
  rw [show k + (T.length - k) = T.length by omega] at hd
  rw [hd]
  cases k with
  | zero =>
    rw [meetGo]
    dsimp only
    have hcut : cut = 0 := by
      by_cases hn : T = []
      · have := h.2.2.2.2 hn; omega
      · have := hk.2.2 0 (Nat.le_refl _) (List.length_pos_iff.2 hn)
        rw [h.2.2.2.1 hn] at this; omega
    have f1 : firstI T E = 0 := by
      unfold firstI
      split
      · rename_i hn; exact h.2.2.2.2 hn
      · rename_i hn; exact h.2.2.2.1 hn
    have f2 : firstI (othT T 0 e cut i) (cut + i) = 0 := by
      unfold firstI othT
      by_cases hi0 : i = 0
      · subst hi0; simp [hcut]
      · rw [if_neg hi0]
        rw [if_neg (by simp)]
        show ofI ((e + 1) * 17592186044416 + cut) = 0
        rw [x6, hcut]
    rw [f1, f2, if_pos rfl, hcut]
  | succ t =>
    rw [meetGo]
    have hUt : (othT T (t + 1) e cut i).getD t 0 = T.getD t 0 := by
      unfold othT
      rw [getD_left (by omega), getD_take (by omega)]
    have hUl : t < (othT T (t + 1) e cut i).length := by unfold othT; rw [List.length_append, hlen]; omega
    rw [← hUt, idx_self gU t hUl]
    show min (endsI T E t) (endsI (othT T (t + 1) e cut i) (cut + i) t) = cut
    have e1 : cut ≤ endsI T E t := by
      unfold endsI
      split
      · rename_i hl; exact hk.2.2 (t + 1) (Nat.le_refl _) hl
      · exact c1
    have e2 : endsI (othT T (t + 1) e cut i) (cut + i) t = cut := by
      unfold endsI othT
      by_cases hi0 : i = 0
      · subst hi0
        rw [if_pos rfl, if_neg (by rw [List.append_nil, hlen]; omega)]; simp
      · rw [if_neg hi0, if_pos (by rw [List.length_append, hlen]; simp), getD_right (by omega), hlen, Nat.sub_self]
        exact x6
    rw [e2]; omega
/-- the epoch ahead of where they part -/
theorem oth_at {T : List Int} {E e cut : Int} {k : Nat} (h : TOk T E e) (he : 1 ≤ e) (he2 : e ≤ 500) (hE : E ≤ 500) (c0 : 0 < cut) (c1 : cut ≤ E) (hk : CutK T cut k) (i : Nat) (hi : i ≤ 400) :
    ∃ p, atI T E (cut - 1) = (p, true) ∧ atI (othT T k e cut i) (cut + i) (cut - 1) = (p, true) ∧ 0 ≤ p ∧ p ≤ e := by
  obtain ⟨gU, _, _⟩ := oth_good h he he2 hE (by omega) c1 hk i hi
  obtain ⟨x5, x6⟩ := ep_of_pack (e + 1) cut (by omega) (by omega)
  have gT := h.1
  have hkl := hk.1
  have hne : T ≠ [] := fun hn => by have := h.2.2.2.2 hn; omega
  have h0 := h.2.2.2.1 hne
  have hk0 : 0 < k := by
    rcases Nat.eq_zero_or_pos k with h' | h'
    · have := hk.2.2 0 (by omega) (List.length_pos_iff.2 hne); omega
    · exact h'
  have hlen : (T.take k).length = k := by simp; omega
  have hU0 : (othT T k e cut i).getD 0 0 = T.getD 0 0 := by unfold othT; rw [getD_left (by omega), getD_take hk0]
  have hUne : othT T k e cut i ≠ [] := by unfold othT; intro hh; have := congrArg List.length hh; simp at this; rcases this.1 with h' | h'; omega; exact hne h'
  have hb : ∀ m, m ≤ T.length → 0 ≤ atF T (cut - 1) m ∧ atF T (cut - 1) m ≤ e := by
    intro m
    induction m with
    | zero => intro _; exact ⟨Int.le_refl _, by show (0 : Int) ≤ e; omega⟩
    | succ m ih =>
      intro hm
      rw [atF]
      split
      · have := h.2.2.1 _ (getD_mem (show m < T.length by omega)); omega
      · exact ih (by omega)
  have hdown : ∀ d, k + d ≤ T.length → atF T (cut - 1) (k + d) = atF T (cut - 1) k := by
    intro d
    induction d with
    | zero => intro _; rfl
    | succ d ih =>
      intro hd
      rw [← Nat.add_assoc, atF, if_neg (by have := hk.2.2 (k + d) (by omega) (by omega); omega)]
      exact ih (by omega)
  have hd := hdown (T.length - k) (by omega)
  rw [show k + (T.length - k) = T.length by omega] at hd
  have hUk : atF (othT T k e cut i) (cut - 1) k = atF T (cut - 1) k := atF_congr k fun j hj => by unfold othT; rw [getD_left (by omega), getD_take hj]
  have hUa : atF (othT T k e cut i) (cut - 1) (othT T k e cut i).length = atF T (cut - 1) k := by
    by_cases hi0 : i = 0
    · rw [show (othT T k e cut i).length = k by unfold othT; rw [if_pos hi0, List.append_nil, hlen], hUk]
    · rw [show (othT T k e cut i).length = k + 1 by unfold othT; rw [if_neg hi0, List.length_append, hlen]; rfl, atF, if_neg, hUk]
      unfold othT
      rw [if_neg hi0, getD_right (by omega), hlen, Nat.sub_self]
      show ¬ ofI ((e + 1) * 17592186044416 + cut) ≤ cut - 1
      rw [x6]; omega
  have hbT := hb T.length (Nat.le_refl _)
  refine ⟨atF T (cut - 1) T.length, ?_, ?_, hbT.1, hbT.2⟩
  · unfold atI
    rw [if_pos ⟨gT, by unfold firstI; rw [if_neg hne, h0]; omega, by omega⟩]
  · unfold atI
    rw [if_pos ⟨gU, by unfold firstI; rw [if_neg hUne, hU0, h0]; omega, by omega⟩, hUa, hd]
end Go.Proofs.Ytmkoabalakfehaa
