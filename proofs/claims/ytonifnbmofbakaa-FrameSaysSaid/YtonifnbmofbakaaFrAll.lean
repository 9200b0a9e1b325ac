/- Get as one contract; All. -/
import Derived.Test.YtonifnbmofbakaaFrMath
set_option linter.unusedVariables false
set_option linter.unusedSimpArgs false
namespace Go.Proofs.Ytonifnbmofbakaa
open Go.RowKit
/-- what Get tells of bytes -/
def getR (zs : List Int) : Int × List Int × Nat × Int :=
  if zs.length < 4 then (0, [], 0, 3)
  else if 1024 < rdN zs 4 then (0, [], 0, 14)
  else if (zs.length : Int) < 16 + rdN zs 4 then (0, [], 0, 3)
  else if sumOf (zs.take 12 ++ (zs.take (16 + (rdN zs 4).toNat)).drop 16) = rdN ((zs.take 16).drop 12) 4 then (rdN ((zs.take 12).drop 4) 8, (zs.take (16 + (rdN zs 4).toNat)).drop 16, 16 + (rdN zs 4).toNat, 0)
  else (0, [], 0, 2)
theorem getR_yes {zs : List Int} (N : Nat) (h1 : rdN zs 4 = N) (h2 : N ≤ 1024) (h3 : 16 + N ≤ zs.length) (h4 : sumOf (zs.take 12 ++ (zs.take (16 + N)).drop 16) = rdN ((zs.take 16).drop 12) 4) :
    getR zs = (rdN ((zs.take 12).drop 4) 8, (zs.take (16 + N)).drop 16, 16 + N, 0) := by
  unfold getR
  rw [h1, if_neg (by omega), if_neg (by omega), if_neg (by omega), Int.toNat_natCast, if_pos h4]
theorem getR_rec (at' : Int) (p R : List Int) (hn2 : p.length ≤ 1024) (a0 : 0 ≤ at') (a1 : at' ≤ 18446744073709551615) : getR (recB at' p ++ R) = (at', p, 16 + p.length, 0) := by
  obtain ⟨h1, h2, h3, h4⟩ := rec_ok at' p R p.length rfl hn2 a0 a1
  rw [getR_yes p.length h1 hn2 (by rw [List.length_append, recB_len]; omega) h2, h3, h4]
theorem getR_cases {zs : List Int} (hB : IsB zs) : ((getR zs).2.2.2 ≠ 0 ∧ (getR zs).1 = 0 ∧ (getR zs).2.1 = [] ∧ (getR zs).2.2.1 = 0 ∧ ((getR zs).2.2.2 = 2 ∨ (getR zs).2.2.2 = 3 ∨ (getR zs).2.2.2 = 14)) ∨
    ((getR zs).2.2.2 = 0 ∧ (getR zs).2.2.1 = 16 + (getR zs).2.1.length ∧ (getR zs).2.2.1 ≤ zs.length ∧ (getR zs).2.1.length ≤ 1024) := by
  unfold getR
  split
  · exact .inl (by simp)
  · split
    · exact .inl (by simp)
    · split
      · exact .inl (by simp)
      · split
        · rename_i h1 h2 h3 h4
          have h0 := (rdN_bd hB 4 (by omega)).1
          refine .inr ⟨rfl, ?_, ?_, ?_⟩ <;> simp <;> omega
        · exact .inl (by simp)
theorem getR_isB {zs : List Int} (h : IsB zs) : IsB (getR zs).2.1 := by
  unfold getR
  split
  · exact fun i => by simp
  · split
    · exact fun i => by simp
    · split
      · exact fun i => by simp
      · split
        · exact isB_drop (isB_take h _) _
        · exact fun i => by simp
theorem getR_at {zs : List Int} (h : IsB zs) : 0 ≤ (getR zs).1 ∧ (getR zs).1 ≤ 18446744073709551615 := by
  unfold getR
  split
  · simp
  · split
    · simp
    · split
      · simp
      · split
        · have := rdN_bd (isB_drop (isB_take h 12) 4) 8 (by omega)
          dsimp only
          have h2 : (2 : Int) ^ (8 * 8) = 18446744073709551616 := by decide
          omega
        · simp
theorem fr_get (a : Option Addr) (n c : Nat) (zs : List Int) (w : World) (hS : Sl .u8 w a n c zs) (hB : IsB zs) (hn2 : n ≤ 100000) :
    Calls Try.prog 11 #[.slice a n c] w fun e w' => ∃ a' c', e = .returned (.tuple #[recV (getR zs).1 a' (getR zs).2.1.length c', .int .i64 ((getR zs).2.2.1 : Nat), .int .i64 (getR zs).2.2.2]) ∧ Sl .u8 w' a' (getR zs).2.1.length c' (getR zs).2.1 ∧ Kept w w' ∧ (∀ x, a' = some x → w.heap.size ≤ x.block) := by
  have hl := hS.1
  have hb := rdN_bd hB 4 (by omega)
  by_cases c1 : n < 4
  · have e : getR zs = (0, [], 0, 3) := by unfold getR; rw [if_pos (by omega)]
    refine (fr_get_short a n c zs w hS c1).mono ?_
    rintro E w' ⟨rfl, K⟩
    rw [e]
    exact ⟨none, 0, rfl, sl_nil _ _, K, by simp⟩
  · by_cases c2 : 1024 < rdN zs 4 ∨ (n : Int) < 16 + rdN zs 4
    · have e : getR zs = (0, [], 0, if 1024 < rdN zs 4 then 14 else 3) := by
        unfold getR
        rw [if_neg (by omega)]
        split
        · rfl
        · rw [if_pos (by omega)]
      refine (fr_get_size a n c zs w hS hB (by omega) hn2 c2).mono ?_
      rintro E w' ⟨rfl, K⟩
      rw [e]
      exact ⟨none, 0, rfl, sl_nil _ _, K, by simp⟩
    · obtain ⟨N, hN⟩ := Int.eq_ofNat_of_zero_le hb.1
      rw [hN] at c2
      by_cases c3 : sumOf (zs.take 12 ++ (zs.take (16 + N)).drop 16) = rdN ((zs.take 16).drop 12) 4
      · have e := getR_yes N hN (by omega) (by omega) c3
        have hpl : ((zs.take (16 + N)).drop 16).length = N := by simp; omega
        refine (fr_get_ok2 a n c N zs w hS hB hn2 hN (by omega) (by omega) c3).mono ?_
        rintro E w' ⟨a', c', rfl, hS', K, hf⟩
        rw [e]
        dsimp only
        rw [hpl]
        exact ⟨a', c', by rw [show ((16 + N : Nat) : Int) = 16 + (N : Int) by push_cast; rfl], hS', K, hf⟩
      · have e : getR zs = (0, [], 0, 2) := by
          unfold getR
          rw [hN, if_neg (by omega), if_neg (by omega), if_neg (by omega), Int.toNat_natCast, if_neg c3]
        refine (fr_get_form a n c N zs w hS hB hn2 hN (by omega) (by omega) c3).mono ?_
        rintro E w' ⟨rfl, K⟩
        rw [e]
        exact ⟨none, 0, rfl, sl_nil _ _, K, by simp⟩
/-- the first k records, and how far they go -/
def Rd (zs : List Int) : Nat → List (Int × List Int) → Nat → Prop
  | 0, L, n => L = [] ∧ n = 0
  | k + 1, L, n => ∃ L' n' a p m, Rd zs k L' n' ∧ n' < zs.length ∧ getR (zs.drop n') = (a, p, m, 0) ∧ L = L' ++ [(a, p)] ∧ n = n' + m
/-- where All stops, and with what -/
def Stop (zs : List Int) (n : Nat) (e : Int) : Prop := (n = zs.length ∧ e = 0) ∨ (n < zs.length ∧ (getR (zs.drop n)).2.2.2 = e ∧ e ≠ 0)
theorem Rd.len {zs : List Int} (hB : IsB zs) : ∀ {k : Nat} {L : List (Int × List Int)} {n : Nat}, Rd zs k L n → L.length = k ∧ n ≤ zs.length ∧ 16 * k ≤ n
  | 0, L, n, h => by obtain ⟨rfl, rfl⟩ := h; simp
  | k + 1, L, n, ⟨L', n', a, p, m, h, h2, h3, h4, h5⟩ => by
    obtain ⟨q1, q2, q3⟩ := Rd.len hB h
    have := getR_cases (isB_drop hB n')
    rw [h3] at this
    simp at this
    subst h4 h5
    simp
    omega
/-- a record as its value: the stamp, the slice of its bytes -/
structure RV where
  at' : Int
  a : Option Addr
  n : Nat
  c : Nat
def RV.cs (r : RV) : List Value := [.int .u64 r.at', .slice r.a r.n r.c]
def rvs (R : List RV) : List Value := R.flatMap RV.cs
theorem rvs_len (R : List RV) : (rvs R).length = R.length * 2 := by induction R with | nil => rfl | cons x l ih => simp [rvs, RV.cs] at ih ⊢; omega
theorem rvs_append (l m : List RV) : rvs (l ++ m) = rvs l ++ rvs m := by simp [rvs]
theorem rvs_at : ∀ (l : List RV) (i : Nat) (x : RV), l[i]? = some x → (rvs l)[i * 2]? = some (.int .u64 x.at') ∧ (rvs l)[i * 2 + 1]? = some (.slice x.a x.n x.c)
  | [], i, x, h => by cases h
  | y :: l, 0, x, h => by
    obtain rfl : y = x := by simpa using h
    exact ⟨rfl, rfl⟩
  | y :: l, i + 1, x, h => by
    have := rvs_at l i x (by simpa using h)
    simpa [rvs, RV.cs, Nat.add_mul] using this
theorem elemR : Elem Try.prog 35 30 (.agg #[.int .u64 0, .slice none 0 0]) 2 32 :=
  ⟨Try.underlying35, info_parts (by kernel_rfl), rfl, by omega⟩
theorem only_sl' {S : List Nat} {k : IntKind} {w w' : World} {a : Option Addr} {n c : Nat} {zs : List Int} (h : Only S w w') (hs : Sl k w a n c zs) (ha : 0 < n → inB a S) : Sl k w' a n c zs := by
  rcases Nat.eq_zero_or_pos n with h0 | h0
  · exact ⟨hs.1, hs.2.1, hs.2.2.1, fun i hi => by omega⟩
  · exact h.sl hs (ha h0)
theorem sl_lt {k : IntKind} {w : World} {a : Option Addr} {n c : Nat} {zs : List Int} (h : Sl k w a n c zs) (hn : 0 < n) (x : Addr) (hx : a = some x) : x.block < w.heap.size := by
  obtain ⟨b, o, he, hlt, _⟩ := h.2.2.2 0 hn
  rw [he] at hx
  injection hx with hx
  rw [← hx]
  exact hlt
/-- the values stand for the records -/
def RAt (w : World) (g : Option Nat) (R : List RV) (L : List (Int × List Int)) : Prop :=
  R.length = L.length ∧ ∀ (i : Nat) (r : RV) (l : Int × List Int), R[i]? = some r → L[i]? = some l → r.at' = l.1 ∧ Sl .u8 w r.a r.n r.c l.2 ∧ (0 < r.n → inB r.a g.toList)
theorem RAt.only {w w' : World} {g : Option Nat} {R : List RV} {L : List (Int × List Int)} (o : Only g.toList w w') (h : RAt w g R L) : RAt w' g R L :=
  ⟨h.1, fun i r l h1 h2 => by obtain ⟨q1, q2, q3⟩ := h.2 i r l h1 h2; exact ⟨q1, only_sl' o q2 q3, q3⟩⟩
theorem RAt.kept {w w' : World} {g : Option Nat} {R : List RV} {L : List (Int × List Int)} (k : Kept w w') (h : RAt w g R L) : RAt w' g R L := h.only (k.only.mono (by simp))
theorem RAt.snoc {w : World} {g : Option Nat} {R : List RV} {L : List (Int × List Int)} (h : RAt w g R L) (r : RV) (l : Int × List Int) (h1 : r.at' = l.1) (h2 : Sl .u8 w r.a r.n r.c l.2) (h3 : 0 < r.n → inB r.a g.toList) : RAt w g (R ++ [r]) (L ++ [l]) := by
  refine ⟨by simp [h.1], fun i r' l' e1 e2 => ?_⟩
  rcases Nat.lt_or_ge i R.length with hi | hi
  · rw [List.getElem?_append_left hi] at e1
    rw [List.getElem?_append_left (by rw [← h.1]; exact hi)] at e2
    exact h.2 i r' l' e1 e2
  · obtain rfl : i = R.length := by
      rcases Nat.lt_or_ge R.length i with h' | h'
      · rw [List.getElem?_eq_none (by simp; omega)] at e1; cases e1
      · omega
    simp at e1
    rw [h.1] at e2
    simp at e2
    subst e1 e2
    exact ⟨h1, h2, h3⟩
/-- the row lies elsewhere now -/
theorem RAt.moved {w : World} {g : Option Nat} {R : List RV} {L : List (Int × List Int)} (h : RAt w g R L) (q : Nat) (hq : w.heap.size ≤ q) : RAt w (some q) R L :=
  ⟨h.1, fun i r l h1 h2 => by obtain ⟨q1, q2, q3⟩ := h.2 i r l h1 h2; exact ⟨q1, q2, fun h0 x hx hm => by have := sl_lt q2 h0 x hx; simp at hm; omega⟩⟩
/-- a slice of records that reads as L -/
def SlR (w : World) (a : Option Addr) (k c : Nat) (L : List (Int × List Int)) : Prop :=
  L.length = k ∧ k ≤ c ∧ c ≤ maxLen ∧ ∀ i l, L[i]? = some l → ∃ b o x m d, a = some ⟨b, o, none⟩ ∧ w.cell? ⟨b, o + i * 2, none⟩ = some (.int .u64 l.1) ∧ w.cell? ⟨b, o + i * 2 + 1, none⟩ = some (.slice x m d) ∧ Sl .u8 w x m d l.2
theorem SlR.kept {w w' : World} {a : Option Addr} {k c : Nat} {L : List (Int × List Int)} (h : Kept w w') (hs : SlR w a k c L) : SlR w' a k c L :=
  ⟨hs.1, hs.2.1, hs.2.2.1, fun i l hi => by obtain ⟨b, o, x, m, d, h1, h2, h3, h4⟩ := hs.2.2.2 i l hi; exact ⟨b, o, x, m, d, h1, h.cel h2, h.cel h3, h.sl h4⟩⟩
theorem app_slR {w : World} {a : Option Addr} {k c : Nat} {g : Option Nat} {R : List RV} {L : List (Int × List Int)} (h : App w 30 2 (.slice a k c) k g (rvs R)) (hr : RAt w g R L) : SlR w a k c L := by
  have hl : R.length = k := by have := h.len; rw [rvs_len] at this; omega
  obtain ⟨⟨h1, h2⟩, h3⟩ := h
  rcases h2 with ⟨hn, rfl⟩ | ⟨b, cap, cur, hv, _, hh, hnc, hcm, hcs, htake⟩
  · injection hn with e1 e2 e3
    subst e3
    have : L = [] := List.eq_nil_of_length_eq_zero (by rw [← hr.1, hl])
    subst this
    exact ⟨rfl, Nat.le_refl _, by unfold maxLen; omega, fun i l hi => by cases hi⟩
  · injection hv with e1 e2 e3
    subst e1 e3
    refine ⟨by rw [← hr.1, hl], hnc, hcm, fun i l hi => ?_⟩
    have hil : i < R.length := by
      rw [hr.1]
      rcases Nat.lt_or_ge i L.length with h' | h'
      · exact h'
      · rw [List.getElem?_eq_none h'] at hi; cases hi
    obtain ⟨q1, q2⟩ := rvs_at R i R[i] (List.getElem?_eq_getElem hil)
    obtain ⟨r1, r2, r3⟩ := hr.2 i R[i] l (List.getElem?_eq_getElem hil) hi
    have hc : ∀ j v, (rvs R)[j]? = some v → w.cell? ⟨b, 0 + j, none⟩ = some v := fun j v hj => by
      rw [cell_of_row w b _ cur _ _ hh, Nat.zero_add]
      rw [← htake, List.getElem?_take] at hj
      split at hj
      · rw [← Array.getElem?_toList]; exact hj
      · cases hj
    rw [r1] at q1
    exact ⟨b, 0, _, _, _, rfl, hc _ _ q1, (by have h := hc _ _ q2; rwa [← Nat.add_assoc] at h), r2⟩
set_option maxRecDepth 100000 in
set_option maxHeartbeats 2000000 in
theorem fr_all (a : Option Addr) (n c : Nat) (zs : List Int) (w : World) (hS : Sl .u8 w a n c zs) (hB : IsB zs) (hn2 : n ≤ 100000) :
    Calls Try.prog 12 #[.slice a n c] w fun e w' => ∃ k L nn er a' c', e = .returned (.tuple #[.slice a' k c', .int .i64 (nn : Nat), .int .i64 er]) ∧ Rd zs k L nn ∧ Stop zs nn er ∧ SlR w' a' k c' L ∧ Kept w w' := by
  have hl := hS.1
  have hnc := hS.2.1
  have hcm := hS.2.2.1
  unfold maxLen at hcm
  have HS := Lib.hid hS
  have HB := Lib.hid hB
  clear hS hB
  go_enter Try.func12, Try.ntmps12
  go_wp2_with fail
  go_loopw [2, 3] (fun sl i wr => ∃ (k : Nat) (L : List (Int × List Int)) (nn : Nat) (a' : Option Addr) (c' : Nat) (g : Option Nat) (R : List RV), sl = .slice a' k c' ∧ i = .int .i64 (nn : Nat) ∧ nn ≤ n ∧ 16 * k ≤ nn ∧ Hid (Rd zs k L nn) ∧ Hid (App wr 30 2 (.slice a' k c') k g (rvs R)) ∧ Hid (RAt wr g R L) ∧ Kept w wr ∧ Hid (∀ j, g = some j → w.heap.size ≤ j)) (fun _ i _ => n - (intOf i).toNat)
  case atStart => exact ⟨0, [], 0, none, 0, none, [], rfl, rfl, by omega, by omega, ⟨rfl, rfl⟩, app_nil _ _ _, ⟨rfl, fun i r l h => by cases h⟩, Kept.refl _, by intro j hj; cases hj⟩
  case round =>
    obtain ⟨k, L, nn, a', c', g, R, rfl, rfl, hnn, hk, HR, HA, HRA, KW, HG⟩ := hrel
    by_cases hlt : nn < n
    · have hlt' : (nn : Int) < n := by omega
      have x1 := fun W => run_cut_l elemB a n c .i64 nn (nn : Int) rfl (by omega) W
      have hz : Hid (zs.drop nn = (zs.take n).drop nn) := by unfold Hid; rw [List.take_of_length_le (by omega)]
      have hcut := sl_cut (KW.sl HS.out) nn n (by omega) (Nat.le_refl _)
      rw [← hz.out] at hcut
      have HGt := Lib.hid (fr_get (cutA a c nn 1) (n - nn) (c - nn) (zs.drop nn) wr hcut (isB_drop HB.out _) (by omega))
      have hcs := getR_cases (isB_drop HB.out nn)
      have hdl : (zs.drop nn).length = n - nn := by simp; omega
      rw [hdl] at hcs
      obtain ⟨⟨A8, P8, M8, E8⟩, hR8⟩ : ∃ r, getR (zs.drop nn) = r := ⟨_, rfl⟩
      have HR8 := Lib.hid hR8
      rw [hR8] at HGt hcs
      dsimp only at HGt hcs
      clear hR8 hcut hdl
      obtain ⟨pl, hpl⟩ : ∃ pl, P8.length = pl := ⟨_, rfl⟩
      rw [hpl] at HGt hcs
      rcases hcs with ⟨he, rfl, rfl, rfl, he3⟩ | ⟨rfl, rfl, hM2, hP⟩
      · have hbo : (E8 != 0) = true := by simp [he]
        go_wp2_with fail
        refine HGt.out.mono ?_
        rintro e V ⟨a8, c8, rfl, hS8, K8, hf8⟩
        clear HGt hS8 hf8 x1
        have KV := KW.trans (K8.trans (kept_al V (.cells #[.int .u64 0, .slice a8 pl c8] 30)))
        have hsl := Lib.hid (app_slR ((K8.trans (kept_al V (.cells #[.int .u64 0, .slice a8 pl c8] 30))).only.app HA.out (by simp)) (HRA.out.kept (K8.trans (kept_al V (.cells #[.int .u64 0, .slice a8 pl c8] 30)))))
        unfold recV
        go_wp2
        exact bodyPost_ret (v := .tuple #[.slice a' k c', .int .i64 (nn : Nat), .int .i64 E8]) (by simp [results, Try.results12, go_sem]) rfl ⟨k, L, nn, E8, a', c', rfl, HR.out, .inr ⟨by omega, by rw [HR8.out], he⟩, hsl.out, KV⟩
      · go_wp2_with fail
        refine HGt.out.mono ?_
        rintro e V ⟨a8, c8, rfl, hS8, K8, hf8⟩
        clear HGt x1
        have hb := heap_alloc_new V (.cells #[.int .u64 A8, .slice a8 pl c8] 30)
        have b0 := (two_cells hb).1
        have b1 := (two_cells hb).2
        have KB := K8.trans (kept_al V (.cells #[.int .u64 A8, .slice a8 pl c8] 30))
        have HAB := Lib.hid ((KB.only.alloc (.cells #[.int .u64 A8, .slice a8 pl c8] 30)).app HA.out (by simp))
        have hlb : Hid (((V.alloc (.cells #[.int .u64 A8, .slice a8 pl c8] 30)).alloc (.cells #[.int .u64 A8, .slice a8 pl c8] 30)).heap[V.heap.size + 1]? = some (.cells #[.int .u64 A8, .slice a8 pl c8] 30 (0, 0))) := by
          have := heap_alloc_new (V.alloc (.cells #[.int .u64 A8, .slice a8 pl c8] 30)) (.cells #[.int .u64 A8, .slice a8 pl c8] 30)
          unfold Hid
          simpa using this
        have HS8 := Lib.hid hS8
        have HF8 := Lib.hid hf8
        clear hb hS8 hf8
        have hgV : Hid (∀ j, g = some j → j < wr.heap.size) := HA.out.lt
        have hw1 : IntKind.i64.wrap ((nn : Int) + (16 + (pl : Int))) = ((nn + (16 + pl) : Nat) : Int) := by rw [IntKind.wrap_i64]; push_cast; omega
        unfold recV
        go_wp2_with (at_builtin; refine wpList_app rfl (.tmp 25) (.tmp 27) 35 35 rfl elemR _ k _ _ rfl HAB.out _ 1 _ rfl (src_block Try.underlying35 hlb.out 1 1 rfl (by simp [Value.oneCell'])) (by omega) (by unfold maxLen; omega) ?_; intro a5 c5 g5 w5 hA5 hO5 hG5)
        go_roundw
        case rel =>
          have hO6 : Only g.toList wr w5 := ((KB.only.alloc _).mono (by simp)).trans hO5
          have KB2 := KB.trans (kept_al _ (.cells #[.int .u64 A8, .slice a8 pl c8] 30))
          have hsz2 := KB2.size
          have hs8 : Sl .u8 ((V.alloc (.cells #[.int .u64 A8, .slice a8 pl c8] 30)).alloc (.cells #[.int .u64 A8, .slice a8 pl c8] 30)) a8 pl c8 P8 := ((kept_al V _).trans (kept_al _ _)).sl HS8.out
          have hin8 : 0 < pl → inB a8 g.toList := fun _ x hx hm => by
            have h1 := HF8.out x hx
            have h2 := hgV.out x.block (by simpa using hm)
            omega
          have hRA2 := HRA.out.kept KB2
          refine ⟨k + 1, L ++ [(A8, P8)], nn + (16 + pl), a5, c5, g5, R ++ [⟨A8, a8, pl, c8⟩], rfl, by go_num, by omega, by omega, ⟨L, nn, A8, P8, 16 + pl, HR.out, by omega, HR8.out, rfl, rfl⟩, ?_, ?_, KW.onl hO6 ?_, ?_⟩
          · unfold Hid
            rw [rvs_append]
            exact hA5
          · rcases hG5 with rfl | rfl
            · exact (hRA2.only hO5).snoc _ _ rfl (only_sl' hO5 hs8 hin8) hin8
            · have hmv := (hRA2.snoc ⟨A8, a8, pl, c8⟩ (A8, P8) rfl hs8 hin8).moved _ (Nat.le_refl _)
              refine ⟨hmv.1, fun i r l h1 h2 => ?_⟩
              obtain ⟨q1, q2, q3⟩ := hmv.2 i r l h1 h2
              obtain ⟨_, _, q4⟩ := (hRA2.snoc ⟨A8, a8, pl, c8⟩ (A8, P8) rfl hs8 hin8).2 i r l h1 h2
              exact ⟨q1, only_sl' hO5 q2 q4, q3⟩
          · intro i hi
            exact HG.out i (by simpa using hi)
          · rcases hG5 with rfl | rfl
            · exact HG.out
            · intro j hj
              injection hj with hj
              have := KW.size
              simp at hj hsz2
              omega
        case measure => simp [intOf]; omega
    · have hge : (n : Int) ≤ nn := by omega
      obtain rfl : nn = n := by omega
      go_wp2
      exact bodyPost_ret (v := .tuple #[.slice a' k c', .int .i64 (nn : Nat), .int .i64 0]) (by simp [results, Try.results12, go_sem]) rfl ⟨k, L, nn, 0, a', c', rfl, HR.out, .inl ⟨hl.symm, rfl⟩, app_slR HA.out HRA.out, KW⟩
end Go.Proofs.Ytonifnbmofbakaa
