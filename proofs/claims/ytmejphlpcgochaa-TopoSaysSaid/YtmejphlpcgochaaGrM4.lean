/- Graphs, plainly: the document's reckoning of steps is the same. -/
import Derived.Test.YtmejphlpcgochaaGrM3
import Derived.Test.YtmejphlpcgochaaGrReach
set_option linter.unusedVariables false
set_option linter.unusedSimpArgs false
namespace Go.Proofs.Ytmejphlpcgochaa
open Go.RowKit
theorem Far.prev {E : List Ed} {a c : Int} {k : Nat} (h : Far E a (k + 2) c) : ∃ b, (b, c) ∈ E ∧ Far E a (k + 1) b := by
  obtain ⟨_, hw, hm⟩ := h
  cases hw with
  | succ hw e =>
    rename_i b
    refine ⟨b, e, by omega, hw, fun j h1 h2 h3 => hm (j + 1) (by omega) (by omega) (h3.succ e)⟩
/-- how many nodes are so near -/
def nearN (N : Int) (E : List Ed) (a : Int) (j : Nat) : Nat := (List.range N.toNat).countP fun (i : Nat) => decide (0 < dst N E a (i : Int) ∧ dst N E a (i : Int) ≤ (j : Int))
theorem near_ge {N : Int} {E : List Ed} (hg : goodG N E = true) (a : Int) : ∀ (k : Nat) (c : Int), Far E a (k + 1) c → k + 1 ≤ nearN N E a (k + 1)
  | k, c, h => by
    have hc := h.2.1.way.in hg
    have hd := far_dst hg hc.1 h
    have hlt : nearN N E a k < nearN N E a (k + 1) := by
      refine countP_lt _ _ _ (fun i _ hi => ?_) ⟨c.toNat, List.mem_range.2 (by omega), ?_, ?_⟩
      · have := of_decide_eq_true hi
        exact decide_eq_true (by omega)
      · refine decide_eq_true ?_
        rw [Int.toNat_of_nonneg hc.1, hd]
        omega
      · refine decide_eq_false ?_
        rw [Int.toNat_of_nonneg hc.1, hd]
        omega
    match k, h, hlt with
    | 0, _, hlt => omega
    | k + 1, h, hlt =>
      obtain ⟨b, _, hb⟩ := h.prev
      have := near_ge hg a k b hb
      omega
theorem near_le (N : Int) (E : List Ed) (a : Int) (j : Nat) : nearN N E a j ≤ N.toNat := by
  unfold nearN
  have := List.countP_le_length (p := fun (i : Nat) => decide (0 < dst N E a (i : Int) ∧ dst N E a (i : Int) ≤ (j : Int))) (l := List.range N.toNat)
  rwa [List.length_range] at this
theorem far_N {N : Int} {E : List Ed} (hg : goodG N E = true) {a c : Int} {k : Nat} (h : Far E a k c) : k ≤ N.toNat := by
  obtain ⟨k', rfl⟩ : ∃ k', k = k' + 1 := ⟨k - 1, by have := h.1; omega⟩
  exact Nat.le_trans (near_ge hg a k' c h) (near_le N E a _)
/-- one edge looked at -/
def rlx (d : List Int) (x y : Nat) : List Int := if 0 ≤ d.getD x 0 ∧ (d.getD y 0 < 0 ∨ d.getD x 0 + 1 < d.getD y 0) then d.set y (d.getD x 0 + 1) else d
/-- the answer: how far, -1 where no way leads -/
def stpV (N : Int) (E : List Ed) (a : Int) (i : Nat) : Int := if dst N E a (i : Int) = 0 then -1 else dst N E a (i : Int)
def stpL (N : Int) (E : List Ed) (a : Int) : List Int := (List.range N.toNat).map (stpV N E a)
structure StJ (N : Int) (E : List Ed) (a : Int) (r j : Nat) (d : List Int) : Prop where
  len : d.length = N.toNat
  snd : ∀ i : Nat, i < d.length → d.getD i 0 = -1 ∨ 0 < d.getD i 0 ∧ Walk E a (d.getD i 0).toNat (i : Int)
  cmp : ∀ (i k : Nat), 0 < k → k ≤ r + 1 → Walk E a k (i : Int) → 0 ≤ d.getD i 0 ∧ d.getD i 0 ≤ k
  par : ∀ x y : Nat, ((x : Int), (y : Int)) ∈ E.take j → ∀ k, 0 < k → k ≤ r + 1 → Walk E a k (x : Int) → 0 ≤ d.getD y 0 ∧ d.getD y 0 ≤ (k : Int) + 1
  bd : ∀ i : Nat, d.getD i 0 ≤ 1000 * (r : Int) + j + 1
theorem getD_set (d : List Int) (i j : Nat) (v : Int) : (d.set i v).getD j 0 = if i = j ∧ i < d.length then v else d.getD j 0 := by
  simp only [List.getD_eq_getElem?_getD, List.getElem?_set]
  by_cases h1 : i = j
  · subst h1
    by_cases h2 : i < d.length
    · simp [h2]
    · simp [h2]
  · simp [h1]
theorem StJ.rlx {N : Int} {E : List Ed} {a : Int} {r j : Nat} {d : List Int} (h : StJ N E a r j d) {x y : Nat} (hx : x < d.length) (hy : y < d.length) (he : E[j]? = some ((x : Int), (y : Int))) : StJ N E a r (j + 1) (rlx d x y) := by
  have hE := List.mem_of_getElem? he
  have hv : ∀ i, (Ytmejphlpcgochaa.rlx d x y).getD i 0 = if i = y ∧ 0 ≤ d.getD x 0 ∧ (d.getD y 0 < 0 ∨ d.getD x 0 + 1 < d.getD y 0) then d.getD x 0 + 1 else d.getD i 0 := by
    intro i
    unfold Ytmejphlpcgochaa.rlx
    by_cases hc : 0 ≤ d.getD x 0 ∧ (d.getD y 0 < 0 ∨ d.getD x 0 + 1 < d.getD y 0)
    · rw [if_pos hc, getD_set]
      by_cases hiy : i = y
      · subst hiy
        rw [if_pos ⟨rfl, hy⟩, if_pos ⟨rfl, hc⟩]
      · rw [if_neg (fun hh => hiy hh.1.symm), if_neg (fun hh => hiy hh.1)]
    · rw [if_neg hc, if_neg (fun hh => hc hh.2)]
  have hdec : ∀ i (k : Int), 0 ≤ d.getD i 0 ∧ d.getD i 0 ≤ k → 0 ≤ (Ytmejphlpcgochaa.rlx d x y).getD i 0 ∧ (Ytmejphlpcgochaa.rlx d x y).getD i 0 ≤ k := by
    intro i k hk
    rw [hv]
    split
    · rename_i hc
      obtain ⟨rfl, h1, h2⟩ := hc
      omega
    · exact hk
  have hxs := h.snd x hx
  refine ⟨?_, fun i hi => ?_, fun i k h1 h2 h3 => hdec i k (h.cmp i k h1 h2 h3), fun u v huv k h1 h2 h3 => ?_, fun i => ?_⟩
  · unfold Ytmejphlpcgochaa.rlx; split
    · rw [List.length_set]; exact h.len
    · exact h.len
  · have hi' : i < d.length := by
      unfold Ytmejphlpcgochaa.rlx at hi; split at hi
      · rwa [List.length_set] at hi
      · exact hi
    rw [hv]
    split
    · rename_i hc
      obtain ⟨rfl, h1, h2⟩ := hc
      right
      rcases hxs with h3 | ⟨h3, h4⟩
      · omega
      · refine ⟨by omega, ?_⟩
        rw [show (d.getD x 0 + 1).toNat = (d.getD x 0).toNat + 1 by omega]
        exact h4.succ hE
    · exact h.snd i hi'
  · rcases (by rw [List.take_add_one, he, List.mem_append] at huv; refine huv.imp id fun h => ?_; simp at h; omega : ((u : Int), (v : Int)) ∈ E.take j ∨ u = x ∧ v = y) with h4 | ⟨rfl, rfl⟩
    · exact hdec v _ (h.par u v h4 k h1 h2 h3)
    · have hc := h.cmp u k h1 h2 h3
      rw [hv]
      split
      · rename_i hcc
        omega
      · rename_i hcc
        have : ¬ (0 ≤ d.getD u 0 ∧ (d.getD v 0 < 0 ∨ d.getD u 0 + 1 < d.getD v 0)) := fun h => hcc ⟨rfl, h⟩
        omega
  · rw [hv]
    have := h.bd x
    have := h.bd i
    split <;> omega
theorem StJ.next {N : Int} {E : List Ed} {a : Int} {r j : Nat} {d : List Int} (hg : goodG N E = true) (h : StJ N E a r j d) (hj : E.length ≤ j) (hj2 : j ≤ 1000) : StJ N E a (r + 1) 0 d := by
  refine ⟨h.len, h.snd, fun i k h1 h2 h3 => ?_, fun x y hxy => by simp at hxy, fun i => by have := h.bd i; omega⟩
  by_cases hk : k ≤ r + 1
  · exact h.cmp i k h1 hk h3
  · obtain ⟨k', rfl⟩ : ∃ k', k = k' + 1 := ⟨k - 1, by omega⟩
    cases h3 with
    | succ hw e =>
      rename_i b
      have hb := (good_mem hg e).1
      have hp := h.par b.toNat i (by rw [List.take_of_length_le hj, Int.toNat_of_nonneg hb.1]; exact e) k' (by omega) (by omega) (by rw [Int.toNat_of_nonneg hb.1]; exact hw)
      rw [Int.natCast_add]
      exact hp
theorem StJ.fin {N : Int} {E : List Ed} {a : Int} {r : Nat} {d : List Int} (hg : goodG N E = true) (h : StJ N E a r 0 d) (hr : N.toNat ≤ r) : d = stpL N E a := by
  have hN := good_N hg
  refine List.ext_getElem? fun i => ?_
  unfold stpL
  by_cases hi : i < N.toNat
  · rw [List.getElem?_map, List.getElem?_range hi]
    have hl : i < d.length := by rw [h.len]; exact hi
    have hdi : d[i]? = some (d.getD i 0) := by rw [List.getD_eq_getElem?_getD, List.getElem?_eq_getElem hl]; rfl
    rw [hdi]
    show some (d.getD i 0) = some (stpV N E a i)
    congr 1
    unfold stpV
    have hs := h.snd i hl
    split
    · rename_i h0
      rcases hs with h1 | ⟨h1, h2⟩
      · exact h1
      · have := (dst_le hg (k := (d.getD i 0).toNat) (by omega) (by omega) h2).1
        omega
    · rename_i h0
      have hb := dst_bd hg a (i : Int)
      have hf := dst_far hg (a := a) (b := (i : Int)) (by omega) (by omega)
      have hfn := far_N hg hf
      have hc := h.cmp i _ hf.1 (by omega) hf.2.1
      rcases hs with h1 | ⟨h1, h2⟩
      · omega
      · have := (dst_le hg (k := (d.getD i 0).toNat) (by omega) (by omega) h2).2
        omega
  · rw [List.getElem?_eq_none (by rw [h.len]; omega), List.getElem?_eq_none (by simp; omega)]
/-- what is laid ahead of the rounds -/
def stp0 (E : List Ed) (a : Int) (i : Nat) : Int := if hasE E (a, (i : Int)) = true then 1 else -1
theorem StJ.init {N : Int} {E : List Ed} {a : Int} (hg : goodG N E = true) : StJ N E a 0 0 ((List.range N.toNat).map (stp0 E a)) := by
  have hN := good_N hg
  have hv : ∀ i, ((List.range N.toNat).map (stp0 E a)).getD i 0 = if i < N.toNat then stp0 E a i else 0 := by
    intro i
    rw [List.getD_eq_getElem?_getD, List.getElem?_map]
    split
    · rename_i h; rw [List.getElem?_range h]; rfl
    · rename_i h; rw [List.getElem?_eq_none (by simp; omega)]; rfl
  refine ⟨by simp, fun i hi => ?_, fun i k h1 h2 h3 => ?_, fun x y hxy => by simp at hxy, fun i => ?_⟩
  · have hi' : i < N.toNat := by simpa using hi
    rw [hv, if_pos hi']
    unfold stp0
    split
    · rename_i h
      exact .inr ⟨by omega, by simpa using (Walk.succ .zero (hasE_iff.1 h) : Walk E a (0 + 1) (i : Int))⟩
    · exact .inl rfl
  · obtain rfl : k = 0 + 1 := by omega
    cases h3 with
    | succ hw e =>
      cases hw
      have := (good_mem hg e).2.1
      rw [hv, if_pos (by omega)]
      unfold stp0
      rw [if_pos (hasE_iff.2 e)]
      omega
  · rw [hv]
    unfold stp0
    split
    · split <;> omega
    · omega
theorem stpL_at {N : Int} {E : List Ed} {a : Int} {i : Nat} (hi : i < N.toNat) : (stpL N E a).getD i 0 = stpV N E a i := by
  unfold stpL
  rw [List.getD_eq_getElem?_getD, List.getElem?_map, List.getElem?_range hi]; rfl
/-- numbers from nought on, those of which something holds -/
def ascL (p : Int → Bool) (k : Nat) : List Int := ((List.range k).filter fun (i : Nat) => p (i : Int)).map Int.ofNat
theorem ascL_succ (p : Int → Bool) (k : Nat) : ascL p (k + 1) = if p (k : Int) = true then ascL p k ++ [(k : Int)] else ascL p k := by
  unfold ascL
  rw [List.range_succ, List.filter_append, List.map_append]
  split <;> rename_i h
  · simp only [List.filter_cons, List.filter_nil, h, if_true]; rfl
  · simp only [List.filter_cons, List.filter_nil, h]; simp
theorem ascL_mem (p : Int → Bool) (k : Nat) (b : Int) : b ∈ ascL p k ↔ 0 ≤ b ∧ b < k ∧ p b = true := by
  unfold ascL
  simp only [List.mem_map, List.mem_filter, List.mem_range]
  constructor
  · rintro ⟨i, ⟨h1, h2⟩, rfl⟩
    exact ⟨Int.natCast_nonneg i, by exact Int.ofNat_lt.2 h1, h2⟩
  · rintro ⟨h1, h2, h3⟩
    exact ⟨b.toNat, ⟨by omega, by rw [Int.toNat_of_nonneg h1]; exact h3⟩, Int.toNat_of_nonneg h1⟩
theorem ascL_srt (p : Int → Bool) : ∀ k, (ascL p k).Pairwise (· < ·)
  | 0 => List.Pairwise.nil
  | k + 1 => by
    rw [ascL_succ]
    split
    · refine List.pairwise_append.2 ⟨ascL_srt p k, List.pairwise_singleton _ _, fun x hx y hy => ?_⟩
      simp at hy
      have := (ascL_mem p k x).1 hx
      omega
    · exact ascL_srt p k
theorem ascL_len (p : Int → Bool) (k : Nat) : (ascL p k).length ≤ k := by
  unfold ascL
  rw [List.length_map]
  have := List.length_filter_le (fun i : Nat => p (i : Int)) (List.range k)
  rwa [List.length_range] at this
theorem besL_srt {N : Int} {E : List Ed} (hg : goodG N E = true) (n d : Int) (hd : d = 0 ∨ d = 1) : (besL N E n d).Pairwise (· < ·) := by
  have hn := ((good_iff N E).1 hg).2.2
  unfold besL
  rw [if_pos hg]
  have hnd : (sortI (besA E n d)).Nodup := by
    rw [(sortI_perm _).nodup_iff]
    unfold besA
    unfold List.Nodup
    rw [List.pairwise_map]
    refine List.Pairwise.imp_of_mem ?_ (List.Pairwise.filter _ hn)
    rintro ⟨x1, x2⟩ ⟨y1, y2⟩ hx hy hne heq
    have h1 := of_decide_eq_true (List.mem_filter.1 hx).2
    have h2 := of_decide_eq_true (List.mem_filter.1 hy).2
    rcases hd with rfl | rfl <;> simp [endOf] at h1 h2 heq <;> exact hne (by rw [h1, h2, heq])
  refine ((sortI_srt _).and hnd).imp fun h => ?_
  rename_i a b
  have := h.1
  have := h.2
  omega
theorem beh_asc {N : Int} {E : List Ed} (hg : goodG N E = true) (n : Int) : besL N E n 0 = ascL (fun b => hasE E (n, b)) N.toNat :=
  srt_ext (besL_srt hg n 0 (.inl rfl)) (ascL_srt _ _) fun b => by
    rw [mem_beh hg, ascL_mem]
    exact ⟨fun h => by have := (good_mem hg h).2.1; exact ⟨this.1, by omega, hasE_iff.2 h⟩, fun h => hasE_iff.1 h.2.2⟩
theorem ahd_asc {N : Int} {E : List Ed} (hg : goodG N E = true) (n : Int) : besL N E n 1 = ascL (fun b => hasE E (b, n)) N.toNat :=
  srt_ext (besL_srt hg n 1 (.inr rfl)) (ascL_srt _ _) fun b => by
    rw [mem_ahd hg, ascL_mem]
    exact ⟨fun h => by have := (good_mem hg h).1; exact ⟨this.1, by omega, hasE_iff.2 h⟩, fun h => hasE_iff.1 h.2.2⟩
theorem reach_asc {N : Int} {E : List Ed} (hg : goodG N E = true) {n : Int} (hn : inG N n = true) : reachL N E n = ascL (fun b => decide (0 ≤ stpV N E n b.toNat)) N.toNat :=
  srt_ext (reachL_srt N E n) (ascL_srt _ _) fun b => by
    rw [mem_reachL hg hn, ascL_mem]
    constructor
    · intro h
      have hb := h.in hg
      have hd := (farL_way hg n b hb.1).2 h
      refine ⟨hb.1, by omega, decide_eq_true ?_⟩
      unfold stpV
      rw [Int.toNat_of_nonneg hb.1]
      unfold dst
      split <;> omega
    · rintro ⟨h1, _, h2⟩
      have h2 := of_decide_eq_true h2
      unfold stpV at h2
      rw [Int.toNat_of_nonneg h1] at h2
      refine (farL_way hg n b h1).1 ?_
      have := dst_bd hg n b
      unfold dst at h2 this
      split at h2 <;> omega
end Go.Proofs.Ytmejphlpcgochaa
