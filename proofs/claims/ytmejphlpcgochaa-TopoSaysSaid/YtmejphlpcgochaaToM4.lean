/- Paths in graphs, plainly: drawn and pushed along an order. -/
import Derived.Test.YtmejphlpcgochaaToM2
import Derived.Test.YtmejphlpcgochaaToM3
set_option linter.unusedVariables false
set_option linter.unusedSimpArgs false
namespace Go.Proofs.Ytmejphlpcgochaa
open Go.RowKit
def wU (x : Int) : Int := IntKind.u64.wrap x
theorem wU_eq (x : Int) : wU x = x % 18446744073709551616 := by unfold wU; rw [IntKind.wrap_u64]
theorem wU_bd (x : Int) : 0 ≤ wU x ∧ wU x < 18446744073709551616 := by rw [wU_eq]; omega
theorem wU_in {x : Int} (h : 0 ≤ x ∧ x < 18446744073709551616) : wU x = x := by rw [wU_eq]; omega
theorem wU_add (x y : Int) : wU (wU x + y) = wU (x + y) := by rw [wU_eq, wU_eq, wU_eq]; omega
def isum (f : Int → Int) (l : List Int) : Int := l.foldl (fun s k => s + f k) 0
theorem isum_acc (f : Int → Int) : ∀ (l : List Int) (s : Int), l.foldl (fun s k => s + f k) s = s + isum f l
  | [], s => by simp [isum]
  | x :: l, s => by
    unfold isum
    rw [List.foldl_cons, List.foldl_cons, isum_acc f l, isum_acc f l (0 + f x)]
    omega
theorem isum_cons (f : Int → Int) (x : Int) (l : List Int) : isum f (x :: l) = f x + isum f l := by
  unfold isum
  rw [List.foldl_cons, isum_acc f l]
  unfold isum
  omega
theorem isum_snoc (f : Int → Int) (x : Int) (l : List Int) : isum f (l ++ [x]) = isum f l + f x := by
  unfold isum
  rw [List.foldl_append]; rfl
theorem isum_cast (f : Int → Int) (g : Int → Nat) : ∀ l : List Int, (∀ k ∈ l, f k = g k) → isum f l = ((l.map g).sum : Nat)
  | [], _ => rfl
  | x :: l, h => by
    rw [isum_cons, isum_cast f g l fun k hk => h k (List.mem_cons_of_mem _ hk), h x (List.mem_cons_self ..), List.map_cons, List.sum_cons, Int.natCast_add]
theorem isum_congr (f g : Int → Int) : ∀ l : List Int, (∀ k ∈ l, f k = g k) → isum f l = isum g l
  | [], _ => rfl
  | x :: l, h => by rw [isum_cons, isum_cons, isum_congr f g l fun k hk => h k (List.mem_cons_of_mem _ hk), h x (List.mem_cons_self ..)]
def pullK (n : Int) (v : List Int) (k : Int) : List Int := v.set n.toNat (wU (v.getD n.toNat 0 + v.getD k.toNat 0))
def pullN (N : Int) (E : List Ed) (v : List Int) (n : Int) : List Int := (besL N E n 1).foldl (pullK n) v
def pull0 (N a : Int) : List Int := (List.replicate N.toNat (0 : Int)).set a.toNat 1
theorem set_self (v : List Int) (i : Nat) (h : i < v.length) : v.set i (v.getD i 0) = v := by
  refine List.ext_getElem? fun j => ?_
  rw [List.getElem?_set]
  by_cases hj : i = j
  · subst hj
    rw [if_pos rfl, if_pos h, List.getD_eq_getElem?_getD, List.getElem?_eq_getElem h]; rfl
  · rw [if_neg hj]
theorem pull_fold (n : Int) (hn : 0 ≤ n) : ∀ (ys : List Int) (v : List Int), n.toNat < v.length → (∀ a ∈ ys, 0 ≤ a ∧ a ≠ n) → (0 ≤ v.getD n.toNat 0 ∧ v.getD n.toNat 0 < 18446744073709551616) → ys.foldl (pullK n) v = v.set n.toNat (wU (v.getD n.toNat 0 + isum (fun k => v.getD k.toNat 0) ys))
  | [], v, h, _, hb => by
    rw [List.foldl_nil, show isum (fun k => v.getD k.toNat 0) [] = 0 from rfl, Int.add_zero, wU_in hb, set_self v _ h]
  | x :: ys, v, h, ha, hb => by
    have hx := ha x (List.mem_cons_self ..)
    have hs : ∀ u : Int, (v.set n.toNat u).getD n.toNat 0 = u := fun u => by rw [getD_set, if_pos ⟨rfl, h⟩]
    rw [List.foldl_cons, pull_fold n hn ys _ (by unfold pullK; simpa using h) (fun a h2 => ha a (List.mem_cons_of_mem _ h2)) (by unfold pullK; rw [hs]; exact wU_bd _)]
    unfold pullK
    rw [List.set_set, hs]
    congr 1
    rw [wU_add, isum_cons]
    rw [isum_congr (fun k => (v.set n.toNat (wU (v.getD n.toNat 0 + v.getD x.toNat 0))).getD k.toNat 0) (fun k => v.getD k.toNat 0) ys fun k hk => by
      have := ha k (List.mem_cons_of_mem _ hk)
      rw [getD_set, if_neg (by omega)]]
    congr 1
    omega
structure PtI (N : Int) (E : List Ed) (a : Int) (l : List Int) (i : Nat) (v : List Int) : Prop where
  len : v.length = N.toNat
  done : ∀ b, b ∈ l.take i → v.getD b.toNat 0 = (pthP N E a b : Nat)
  rest : ∀ b, 0 ≤ b → b < N → b ∉ l.take i → v.getD b.toNat 0 = if a = b then 1 else 0
  bd : ∀ j, 0 ≤ v.getD j 0 ∧ v.getD j 0 < 18446744073709551616
theorem pull0_get {N a : Int} (ha : 0 ≤ a ∧ a < N) (b : Int) (hb : 0 ≤ b) : (pull0 N a).getD b.toNat 0 = if a = b then 1 else 0 := by
  unfold pull0
  rw [getD_set]
  by_cases h : a = b
  · subst h; rw [if_pos ⟨rfl, by simp; omega⟩, if_pos rfl]
  · rw [if_neg (by omega), if_neg h]
    simp only [List.getD_eq_getElem?_getD, List.getElem?_replicate]
    split <;> rfl
theorem pull0_len (N a : Int) : (pull0 N a).length = N.toNat := by unfold pull0; simp
theorem pull0_bd (N a : Int) (j : Nat) : 0 ≤ (pull0 N a).getD j 0 ∧ (pull0 N a).getD j 0 < 18446744073709551616 := by
  unfold pull0
  rw [getD_set]
  split
  · omega
  · simp only [List.getD_eq_getElem?_getD, List.getElem?_replicate]
    split <;> simp
theorem PtI.init {N a : Int} (E : List Ed) (l : List Int) (ha : 0 ≤ a ∧ a < N) : PtI N E a l 0 (pull0 N a) :=
  ⟨pull0_len N a, fun b h => (by simp at h), fun b h1 _ _ => pull0_get ha b h1, pull0_bd N a⟩
theorem ord_not {N : Int} {E : List Ed} {l : List Int} (ht : OrdP N E l) {i : Nat} {n : Int} (hn : l[i]? = some n) : n ∉ l.take i := fun hm => by
  obtain ⟨j, hj⟩ := List.getElem?_of_mem hm
  have hji : j < i := by
    have := (List.getElem?_eq_some_iff.1 hj).1
    rw [List.length_take] at this; omega
  rw [List.getElem?_take, if_pos hji] at hj
  have := nodup_at ht.nd hj hn
  omega
theorem ord_done {N : Int} {E : List Ed} {l : List Int} (ht : OrdP N E l) {i : Nat} {n : Int} (hn : l[i]? = some n) (a : Int) (ha : (a, n) ∈ E) : a ∈ l.take i := by
  obtain ⟨j, h1, h2⟩ := ht.top i n hn a ha
  exact List.mem_of_getElem? (i := j) (by rw [List.getElem?_take, if_pos h1]; exact h2)
theorem take_succ_mem {l : List Int} {i : Nat} {n : Int} (hn : l[i]? = some n) (b : Int) : b ∈ l.take (i + 1) ↔ b ∈ l.take i ∨ b = n := by rw [List.take_add_one, hn, List.mem_append]; simp
theorem PtI.step {N : Int} {E : List Ed} {a : Int} {l : List Int} (hg : goodG N E = true) (hc : ∀ n, ¬ Way E n n) (ht : OrdP N E l) {i : Nat} {v : List Int} (h : PtI N E a l i v) {n : Int} (hn : l[i]? = some n) : PtI N E a l (i + 1) (pullN N E v n) := by
  have hnr := ht.rng n (List.mem_of_getElem? hn)
  have hnl : n.toNat < v.length := by rw [h.len]; omega
  have hno := ord_not ht hn
  have htk := take_succ_mem hn
  have hP : pullN N E v n = v.set n.toNat (pthP N E a n : Nat) := by
    unfold pullN
    rw [pull_fold n hnr.1 _ v hnl (ahd_ne hg) (h.bd _), h.rest n hnr.1 hnr.2 hno]
    congr 1
    rw [isum_cast (fun k => v.getD k.toNat 0) (pthP N E a) _ fun k hk => h.done k (ord_done ht hn k ((mem_ahd hg k n).1 hk))]
    have hb := pthP_back hg hc a hnr
    have hlt := pthP_lt hg a n
    rw [hb] at hlt ⊢
    generalize ((besL N E n 1).map (pthP N E a)).sum = S at *
    rw [Int.natCast_add]
    by_cases han : a = n
    · simp only [if_pos han] at *
      rw [wU_in (by omega)]; rfl
    · simp only [if_neg han] at *
      rw [wU_in (by omega)]; rfl
  have hv : ∀ b, 0 ≤ b → (pullN N E v n).getD b.toNat 0 = if b = n then ((pthP N E a n : Nat) : Int) else v.getD b.toNat 0 := fun b hb => by
    rw [hP, getD_set]
    by_cases hbn : b = n
    · subst hbn; rw [if_pos ⟨rfl, hnl⟩, if_pos rfl]
    · rw [if_neg (by omega), if_neg hbn]
  refine ⟨by rw [hP, List.length_set]; exact h.len, fun b hb => ?_, fun b h1 h2 hb => ?_, fun j => ?_⟩
  · rcases (htk b).1 hb with hb | rfl
    · rw [hv b (ht.rng b (List.mem_of_mem_take hb)).1, if_neg (fun (e : b = n) => hno (e ▸ hb))]
      exact h.done b hb
    · rw [hv b hnr.1, if_pos rfl]
  · rw [hv b h1, if_neg (fun e => hb ((htk b).2 (.inr e)))]
    exact h.rest b h1 h2 fun hh => hb ((htk b).2 (.inl hh))
  · rw [hP, getD_set]
    have := pthP_lt hg a n
    split
    · omega
    · exact h.bd j
theorem PtI.fin {N : Int} {E : List Ed} {a : Int} {l : List Int} (ht : TopS N E l) {v : List Int} (h : PtI N E a l l.length v) (b : Int) (hb : 0 ≤ b ∧ b < N) : v.getD b.toNat 0 = (pthP N E a b : Nat) :=
  h.done b (by rw [List.take_length]; exact ht.all b hb)
/-- pushed -/
def pushK (n : Int) (v : List Int) (b : Int) : List Int := v.set b.toNat (wU (v.getD b.toNat 0 + v.getD n.toNat 0))
def pushN (N : Int) (E : List Ed) (v : List Int) (n : Int) : List Int := (besL N E n 0).foldl (pushK n) v
theorem push_fold (n : Int) (hn : 0 ≤ n) : ∀ (bs : List Int) (v : List Int), bs.Nodup → (∀ b ∈ bs, 0 ≤ b ∧ b ≠ n ∧ b.toNat < v.length) → (bs.foldl (pushK n) v).length = v.length ∧ ∀ c, 0 ≤ c → (bs.foldl (pushK n) v).getD c.toNat 0 = if c ∈ bs then wU (v.getD c.toNat 0 + v.getD n.toNat 0) else v.getD c.toNat 0
  | [], v, _, _ => ⟨rfl, fun c _ => rfl⟩
  | x :: bs, v, hnd, h => by
    obtain ⟨h1, h2⟩ := List.nodup_cons.1 hnd
    have hx := h x (List.mem_cons_self ..)
    have hk : ∀ c, 0 ≤ c → (pushK n v x).getD c.toNat 0 = if c = x then wU (v.getD x.toNat 0 + v.getD n.toNat 0) else v.getD c.toNat 0 := fun c hc => by
      unfold pushK
      rw [getD_set]
      by_cases hcx : c = x
      · subst hcx; rw [if_pos ⟨rfl, hx.2.2⟩, if_pos rfl]
      · rw [if_neg (by omega), if_neg hcx]
    have hlen : (pushK n v x).length = v.length := by unfold pushK; simp
    obtain ⟨r1, r2⟩ := push_fold n hn bs (pushK n v x) h2 fun b hb => by rw [hlen]; exact h b (List.mem_cons_of_mem _ hb)
    rw [List.foldl_cons]
    refine ⟨r1.trans hlen, fun c hc => ?_⟩
    have hkn : (pushK n v x).getD n.toNat 0 = v.getD n.toNat 0 := by rw [hk n hn, if_neg (fun (e : n = x) => hx.2.1 e.symm)]
    rw [r2 c hc, hk c hc, hkn]
    by_cases hcx : c = x
    · subst hcx
      rw [if_neg h1, if_pos rfl, if_pos (List.mem_cons_self ..)]
    · rw [if_neg hcx]
      by_cases hcb : c ∈ bs
      · rw [if_pos hcb, if_pos (List.mem_cons_of_mem _ hcb)]
      · rw [if_neg hcb, if_neg (fun hh => (List.mem_cons.1 hh).elim hcx hcb)]
/-- what has come from the nodes that are done -/
def gotS (f : Int → Nat) (D : List Int) (ys : List Int) : Nat := ((ys.filter fun k => D.contains k).map f).sum
theorem gotS_add (f : Int → Nat) (D : List Int) (n : Int) (hD : n ∉ D) : ∀ ys : List Int, ys.Nodup → gotS f (D ++ [n]) ys = gotS f D ys + if n ∈ ys then f n else 0
  | [], _ => rfl
  | x :: ys, h => by
    obtain ⟨h1, h2⟩ := List.nodup_cons.1 h
    have ih := gotS_add f D n hD ys h2
    unfold gotS at ih ⊢
    by_cases hxn : x = n
    · subst hxn
      have e1 : (D ++ [x]).contains x = true := List.contains_iff_mem.2 (by simp)
      have e2 : D.contains x = false := Bool.eq_false_iff.2 fun hh => hD (List.contains_iff_mem.1 hh)
      rw [if_neg h1] at ih
      rw [List.filter_cons, if_pos e1, List.filter_cons, if_neg (by rw [e2]; simp), if_pos (List.mem_cons_self ..), List.map_cons, List.sum_cons, ih]
      omega
    · have hm : n ∈ x :: ys ↔ n ∈ ys := by simp [Ne.symm hxn]
      have e1 : (D ++ [n]).contains x = D.contains x := by
        rw [Bool.eq_iff_iff, List.contains_iff_mem, List.contains_iff_mem]
        simp [hxn]
      rw [List.filter_cons, List.filter_cons, e1]
      cases hd : D.contains x with
      | true =>
        rw [if_pos rfl, if_pos rfl, List.map_cons, List.sum_cons, List.map_cons, List.sum_cons, ih]
        simp only [hm]
        omega
      | false =>
        rw [if_neg (by simp), if_neg (by simp), ih]
        simp only [hm]
structure PsI (N : Int) (E : List Ed) (a : Int) (l : List Int) (i : Nat) (v : List Int) : Prop where
  len : v.length = N.toNat
  val : ∀ b, 0 ≤ b → b < N → v.getD b.toNat 0 = wU ((if a = b then 1 else 0) + (gotS (pthP N E a) (l.take i) (besL N E b 1) : Nat))
theorem PsI.init {N a : Int} (E : List Ed) (l : List Int) (ha : 0 ≤ a ∧ a < N) : PsI N E a l 0 (pull0 N a) := by
  refine ⟨pull0_len N a, fun b h1 _ => ?_⟩
  rw [pull0_get ha b h1]
  have : gotS (pthP N E a) (l.take 0) (besL N E b 1) = 0 := by
    unfold gotS
    rw [List.take_zero, List.filter_eq_nil_iff.2 (by simp)]; rfl
  rw [this]
  split <;> rfl
theorem gotS_all (f : Int → Nat) (D : List Int) (ys : List Int) (h : ∀ k ∈ ys, k ∈ D) : gotS f D ys = (ys.map f).sum := by
  unfold gotS
  rw [List.filter_eq_self.2 fun k hk => List.contains_iff_mem.2 (h k hk)]
theorem PsI.now {N : Int} {E : List Ed} {a : Int} {l : List Int} (hg : goodG N E = true) (hc : ∀ n, ¬ Way E n n) {i : Nat} {v : List Int} (h : PsI N E a l i v) {b : Int} (hb : 0 ≤ b ∧ b < N) (hd : ∀ k, (k, b) ∈ E → k ∈ l.take i) : v.getD b.toNat 0 = (pthP N E a b : Nat) := by
  rw [h.val b hb.1 hb.2, gotS_all _ _ _ fun k hk => hd k ((mem_ahd hg k b).1 hk)]
  have hlt := pthP_lt hg a b
  rw [pthP_back hg hc a hb] at hlt ⊢
  generalize ((besL N E b 1).map (pthP N E a)).sum = S at *
  rw [Int.natCast_add]
  by_cases han : a = b
  · simp only [if_pos han] at *
    rw [wU_in (by omega)]; rfl
  · simp only [if_neg han] at *
    rw [wU_in (by omega)]; rfl
theorem PsI.step {N : Int} {E : List Ed} {a : Int} {l : List Int} (hg : goodG N E = true) (hc : ∀ n, ¬ Way E n n) (ht : OrdP N E l) {i : Nat} {v : List Int} (h : PsI N E a l i v) {n : Int} (hn : l[i]? = some n) : PsI N E a l (i + 1) (pushN N E v n) := by
  have hnr := ht.rng n (List.mem_of_getElem? hn)
  have hvn := h.now hg hc hnr (fun k hk => ord_done ht hn k hk)
  obtain ⟨r1, r2⟩ := push_fold n hnr.1 (besL N E n 0) v (srt_nd (besL_srt hg n 0 (.inl rfl))) fun b hb => by
    have := good_mem hg ((mem_beh hg n b).1 hb)
    dsimp only at this
    exact ⟨this.2.1.1, Ne.symm this.2.2, by rw [h.len]; omega⟩
  unfold pushN
  refine ⟨r1.trans h.len, fun b h1 h2 => ?_⟩
  have htk : l.take (i + 1) = l.take i ++ [n] := by rw [List.take_add_one, hn]; rfl
  have hm : n ∈ besL N E b 1 ↔ b ∈ besL N E n 0 := by rw [mem_ahd hg, mem_beh hg]
  rw [r2 b h1, htk, gotS_add _ _ _ (ord_not ht hn) _ (srt_nd (besL_srt hg b 1 (.inr rfl))), h.val b h1 h2, hvn]
  simp only [hm]
  split
  · rw [wU_add]
    congr 1
    rw [Int.natCast_add]
    omega
  · rfl
theorem PsI.fin {N : Int} {E : List Ed} {a : Int} {l : List Int} (hg : goodG N E = true) (ht : TopS N E l) {v : List Int} (h : PsI N E a l l.length v) (b : Int) (hb : 0 ≤ b ∧ b < N) : v.getD b.toNat 0 = (pthP N E a b : Nat) :=
  h.now hg (ht.acyc hg) hb fun k hk => by rw [List.take_length]; exact ht.all k (good_mem hg hk).1
theorem pt_pre {N : Int} {E : List Ed} {a : Int} {l : List Int} (hg : goodG N E = true) (ht : TopS N E l) (ha : 0 ≤ a ∧ a < N) : ∀ i, i ≤ l.length → PtI N E a l i ((l.take i).foldl (pullN N E) (pull0 N a))
  | 0, _ => PtI.init E l ha
  | i + 1, h => by
    have hx : l[i]? = some l[i] := List.getElem?_eq_getElem (by omega)
    rw [foldl_take _ _ _ _ _ hx]
    exact (pt_pre hg ht ha i (by omega)).step hg (ht.acyc hg) ht.toOrdP hx
theorem ps_pre {N : Int} {E : List Ed} {a : Int} {l : List Int} (hg : goodG N E = true) (ht : TopS N E l) (ha : 0 ≤ a ∧ a < N) : ∀ i, i ≤ l.length → PsI N E a l i ((l.take i).foldl (pushN N E) (pull0 N a))
  | 0, _ => PsI.init E l ha
  | i + 1, h => by
    have hx : l[i]? = some l[i] := List.getElem?_eq_getElem (by omega)
    rw [foldl_take _ _ _ _ _ hx]
    exact (ps_pre hg ht ha i (by omega)).step hg (ht.acyc hg) ht.toOrdP hx
/-- whether paths are told, and how many -/
def okP (N : Int) (E : List Ed) (a b : Int) : Bool := (orderT N E).isSome && (inG N a && inG N b)
def pthR (N : Int) (E : List Ed) (a b : Int) : Int := if okP N E a b = true then (pthP N E a b : Nat) else 0
end Go.Proofs.Ytmejphlpcgochaa
