/- The document's GetEvent. -/
import Derived.Test.YteaepgbakcifkaaDoorEvD6
import Derived.Test.YteaepgbakcifkaaDoorEvRin
import Derived.Test.YteaepgbakcifkaaDoorEvM6
set_option linter.unusedVariables false
set_option linter.unusedSimpArgs false
namespace Go.Proofs.YteaepgbakcifkaaDoor
open Go.RowKit
set_option maxHeartbeats 1000000 in
theorem rin_U0 (p : Nat) (a : Option Addr) (c : Nat) (w : World) (hp : w.heap[p]? = some (.cells #[.slice a 0 c, .bool false] 61 (0, 0))) :
    Calls Tryd.prog 35 #[.pointer (some ⟨p, 0, none⟩)] w fun e w' => e = .returned (.int .u64 0) ∧ InAt w' 61 p [] true ∧ Only [p] w w' := by
  have hf : Hid (Calls Tryd.prog 53 #[.pointer (some ⟨p, 0, none⟩)] w fun e w' => e = .returned (.tuple #[]) ∧ InAt w' 61 p [] true ∧ Only [p] w w') := by
    unfold Hid
    have c0 := at_cell hp 0 _ rfl
    have c1 := at_cell hp 1 _ rfl
    have f0 := one_free hp 0
    have f1 := one_free hp 1
    go_enter Tryd.func53, Tryd.ntmps53
    go_wp2
    go_end0
    exact ⟨rfl, ⟨none, 0, 0, at_set (at_set hp 1 _) 0 _, sl_nil _ _, (by intro x hx; cases hx), (by intro i; simp)⟩, ((Only.refl _ _).setCell (by simp) _).setCell (by simp) _⟩
  have c0 := at_cell hp 0 _ rfl
  have c1 := at_cell hp 1 _ rfl
  clear hp
  go_enter Tryd.func35, Tryd.ntmps35
  go_wp2_with fail
  go_loop [5] (fun i => i = .int .i64 0) (fun _ => 0)
  case atStart => exact rfl
  case round =>
    obtain rfl := hrel
    go_wp2_with fail
    refine hf.out.mono ?_
    rintro e w' ⟨rfl, hI, ho⟩
    go_wp2_with fail
    go_ret
    exact ⟨rfl, hI, ho⟩
set_option maxHeartbeats 1000000 in
theorem rin_Small0 (p : Nat) (a : Option Addr) (c : Nat) (w : World) (hp : w.heap[p]? = some (.cells #[.slice a 0 c, .bool false] 61 (0, 0))) :
    Calls Tryd.prog 33 #[.pointer (some ⟨p, 0, none⟩), .int .u64 9] w fun e w' => e = .returned (.int .i64 0) ∧ InAt w' 61 p [] true ∧ Only [p] w w' := by
  have HU := Lib.hid (rin_U0 p a c w hp)
  clear hp
  go_enter Tryd.func33, Tryd.ntmps33
  go_wp2_with fail
  refine HU.out.mono ?_
  rintro e w1 ⟨rfl, hI, ho⟩
  have HF := Lib.hid (rin_fail p [] true w1 hI)
  obtain ⟨a1, n1, c1, hp1, -⟩ := hI
  have q1 := at_cell hp1 1 _ rfl
  clear hp1
  go_wp2_with fail
  refine HF.out.mono ?_
  rintro e w' ⟨rfl, hI', hO⟩
  go_wp2_with fail
  go_ret
  exact ⟨rfl, hI', ho.trans hO⟩
theorem rin_first (p : Nat) (a : Option Addr) (n c : Nat) (zs : List Int) (w X : World) (hS : Sl .u8 w a n c zs) (hB : IsB zs) (hpw : w.heap.size ≤ p) (hk : Kept w X) (hp : X.heap[p]? = some (.cells #[.slice a n c, .bool false] 61 (0, 0))) :
    Calls Tryd.prog 33 #[.pointer (some ⟨p, 0, none⟩), .int .u64 9] X fun e w' => e = .returned (.int .i64 (getK zs)) ∧ InAt w' 61 p (stSmall 9 (zs, false)).2.1 (stSmall 9 (zs, false)).2.2 ∧ Only [p] X w' := by
  by_cases hn : n = 0
  · subst hn
    obtain rfl : zs = [] := List.eq_nil_of_length_eq_zero hS.1
    exact rin_Small0 p a c X hp
  · refine rin_Small p (zs, false) 9 X (by omega) (by omega) ⟨a, n, c, hp, hk.sl hS, ?_, hB⟩
    obtain ⟨b, o, ha, hlt, -⟩ := hS.2.2.2 0 (by omega)
    intro x hx hm
    rw [ha] at hx
    injection hx with hx
    subst hx
    have : b = p := by simpa using hm
    omega
/-- what is read from lies apart from an event's block: by what it holds -/
theorem inAt_far {w w' : World} {t : TypeId} {p v : Nat} {zs : List Int} {bad : Bool} {x : EV} (h : InAt w t p zs bad) (hv : w.heap[v]? = some (evOd x)) (hpv : p ≠ v) (ho : Only [v] w w') : InAt w' t p zs bad := by
  obtain ⟨a, n, c, hh, hS, hi, hB⟩ := h
  refine ⟨a, n, c, ho.heap hh (by simpa using hpv), ?_, hi, hB⟩
  obtain ⟨h1, h2, h3, h4⟩ := hS
  refine ⟨h1, h2, h3, fun i hin => ?_⟩
  obtain ⟨b, o, ha, hlt, hc⟩ := h4 i hin
  have hbv : b ≠ v := by
    intro e
    subst e
    unfold World.cell? at hc
    dsimp only at hc
    rw [hv] at hc
    have hj : ∀ j : Nat, ∀ z : Int, (#[Value.int .i64 x.k, .int .i64 x.r, .int .i64 x.t, .int .i64 x.y, .int .i64 x.n, .string x.nm, .string x.ky, .string x.dt] : Array Value)[j]? ≠ some (.int .u8 z) := by
      intro j z
      match j with
      | 0 => simp
      | 1 => simp
      | 2 => simp
      | 3 => simp
      | 4 => simp
      | 5 => simp
      | 6 => simp
      | 7 => simp
      | j + 8 => simp
    exact hj _ _ (by simpa using hc)
  exact ⟨b, o, ha, Nat.lt_of_lt_of_le hlt ho.size, (ho.cell (p := ⟨b, o + i, none⟩) hlt (by simpa using hbv)).trans hc⟩
theorem evd_set {w : World} {p : Nat} {x y : EV} (h : w.heap[p]? = some (evOd x)) (j : Nat) (v : Value) (hv : (#[.int .i64 x.k, .int .i64 x.r, .int .i64 x.t, .int .i64 x.y, .int .i64 x.n, .string x.nm, .string x.ky, .string x.dt] : Array Value).setIfInBounds j v = #[.int .i64 y.k, .int .i64 y.r, .int .i64 y.t, .int .i64 y.y, .int .i64 y.n, .string y.nm, .string y.ky, .string y.dt]) :
    (w.setCell ⟨p, j, none⟩ v).heap[p]? = some (evOd y) := by
  rw [at_set h j v, hv]
theorem evd_set8 {w : World} {p : Nat} {x : EV} (h : w.heap[p]? = some (evOd x)) (y : EV) :
    ((((((((w.setCell ⟨p, 0, none⟩ (.int .i64 y.k)).setCell ⟨p, 1, none⟩ (.int .i64 y.r)).setCell ⟨p, 2, none⟩ (.int .i64 y.t)).setCell ⟨p, 3, none⟩ (.int .i64 y.y)).setCell ⟨p, 4, none⟩ (.int .i64 y.n)).setCell ⟨p, 5, none⟩ (.string y.nm)).setCell ⟨p, 6, none⟩ (.string y.ky)).setCell ⟨p, 7, none⟩ (.string y.dt)).heap[p]? = some (evOd y) := by
  have h0 := evd_set (y := { x with k := y.k }) h 0 (.int .i64 y.k) rfl
  have h1 := evd_set (y := { x with k := y.k, r := y.r }) h0 1 (.int .i64 y.r) rfl
  have h2 := evd_set (y := { x with k := y.k, r := y.r, t := y.t }) h1 2 (.int .i64 y.t) rfl
  have h3 := evd_set (y := { x with k := y.k, r := y.r, t := y.t, y := y.y }) h2 3 (.int .i64 y.y) rfl
  have h4 := evd_set (y := { x with k := y.k, r := y.r, t := y.t, y := y.y, n := y.n }) h3 4 (.int .i64 y.n) rfl
  have h5 := evd_set (y := { x with k := y.k, r := y.r, t := y.t, y := y.y, n := y.n, nm := y.nm }) h4 5 (.string y.nm) rfl
  have h6 := evd_set (y := { x with k := y.k, r := y.r, t := y.t, y := y.y, n := y.n, nm := y.nm, ky := y.ky }) h5 6 (.string y.ky) rfl
  exact evd_set (y := y) h6 7 (.string y.dt) rfl
/-- GetEvent's loop: the answer's cell at q, the In at p, the event at v -/
structure GdW (w wr : World) (q p v : Nat) (x : EV × St) : Prop where
  i : InAt wr 61 p x.2.1 x.2.2
  r : wr.heap[q]? = some (evOd (kindE 0))
  a : wr.heap[v]? = some (evOd x.1)
  k : Kept w wr
structure GdD (w : World) (q p v : Nat) : Prop where
  h1 : w.heap.size ≤ q
  h2 : q < p
  h3 : p < v
theorem GdW.read {w wr w' : World} {q p v : Nat} {x y : EV × St} (h : GdW w wr q p v x) (D : GdD w q p v) (hI : InAt w' 61 p y.2.1 y.2.2) (ho : Only [p] wr w') (hx : x.1 = y.1) : GdW w w' q p v y := by
  obtain ⟨h1, h2, h3⟩ := D
  exact ⟨hI, ho.heap h.r (by simp; omega), by rw [← hx]; exact ho.heap h.a (by simp; omega), h.k.onl ho (by intro i hi; obtain rfl : i = p := (by simpa using hi); omega)⟩
theorem GdW.set {w wr : World} {q p v : Nat} {x y : EV × St} (h : GdW w wr q p v x) (D : GdD w q p v) (hs : x.2 = y.2) (j : Nat) (u : Value) (hv : (#[.int .i64 x.1.k, .int .i64 x.1.r, .int .i64 x.1.t, .int .i64 x.1.y, .int .i64 x.1.n, .string x.1.nm, .string x.1.ky, .string x.1.dt] : Array Value).setIfInBounds j u = #[.int .i64 y.1.k, .int .i64 y.1.r, .int .i64 y.1.t, .int .i64 y.1.y, .int .i64 y.1.n, .string y.1.nm, .string y.1.ky, .string y.1.dt]) : GdW w (wr.setCell ⟨v, j, none⟩ u) q p v y := by
  have ho : Only [v] wr (wr.setCell ⟨v, j, none⟩ u) := (Only.refl [v] wr).setCell (fun _ => by simp) u
  obtain ⟨h1, h2, h3⟩ := D
  refine ⟨?_, ho.heap h.r (by simp; omega), evd_set h.a j u hv, h.k.onl ho (by intro i hi; obtain rfl : i = v := (by simpa using hi); omega)⟩
  rw [← hs]
  exact inAt_far h.i h.a (by omega) ho
theorem getD_bad (zs : List Int) (l : List UInt8) (hl : flds (getK zs) = l) (j : Nat) (h : (getG gdF zs (l.take j)).2 = ([], true)) : getD zs = (kindE 0, 2) := by
  have h2 : (getG gdF zs l).2 = ([], true) := by
    have e : l = l.take j ++ l.drop j := (List.take_append_drop j l).symm
    rw [e]
    unfold getG at h ⊢
    rw [List.foldl_append]
    rcases hx : (l.take j).foldl gdF (kindE (getK zs), (stSmall 9 (zs, false)).2) with ⟨x, s⟩
    rw [hx] at h
    dsimp only at h
    rw [h]
    exact getG_bad gdF_ok _ x
  unfold getD resG
  rw [hl, h2]
  simp
theorem getG_succ (zs : List Int) (l : List UInt8) (i : Nat) (h : i < l.length) : getG gdF zs (l.take (i + 1)) = gdF (getG gdF zs (l.take i)) (l[i]'h) := by
  unfold getG
  rw [List.take_succ_eq_append_getElem h, List.foldl_append]
  rfl
theorem getD_nm (zs : List Int) (hn : zs.length ≤ 1000000) : (getG gdF zs (flds (getK zs))).1.nm.size ≤ 281474976710656 := by
  suffices h : ∀ (l : List UInt8) (p : EV × St), p.1.nm.size ≤ 64 → (l.foldl gdF p).1.nm.size ≤ 64 by
    have := h (flds (getK zs)) (kindE (getK zs), (stSmall 9 (zs, false)).2) (by show emp.size ≤ 64; decide)
    unfold getG
    omega
  intro l
  induction l with
  | nil => intro p hp; exact hp
  | cons c l ih =>
    intro p hp
    rw [List.foldl_cons]
    apply ih
    unfold gdF gpF
    repeat' split
    all_goals first
      | exact hp
      | (show (strOf (stS 64 p.2).1).size ≤ 64
         rw [strOf_size]
         unfold stS
         split
         · simp
         · rename_i hc
           show ((stU p.2).2.1.take _).length ≤ 64
           rw [List.length_take]
           omega)
set_option maxRecDepth 100000 in
set_option maxHeartbeats 8000000 in
theorem rv_get (a : Option Addr) (n c : Nat) (zs : List Int) (w : World) (hS : Sl .u8 w a n c zs) (hB : IsB zs) (hn : n ≤ 1000000) : Calls Tryd.prog 12 #[.slice a n c] w fun E w' => E = .returned (.tuple #[evV (getD zs).1, .int .i64 (getD zs).2]) ∧ Kept w w' := by
  have hnmS := getD_nm zs (by rw [hS.1]; exact hn)
  have HF := Lib.hid (fun W => rv_fields (getK zs) W)
  have HFst := Lib.hid (fun X p h1 h2 h3 => rin_first p a n c zs w X hS hB h1 h2 h3)
  obtain ⟨s, hs⟩ : ∃ s : ByteArray, (⟨(dfl (getK zs)).toArray⟩ : ByteArray) = s := ⟨_, rfl⟩
  rw [hs] at HF
  have hsz : s.size = (flds (getK zs)).length := by rw [← hs]; show (dfl (getK zs)).toArray.size = _; simp [dfl_eq]
  have HG := Lib.hid (fun (i : Nat) (hi : i < s.size) => (by
    obtain ⟨h, h1, h2⟩ := dl_at hs i hi
    exact ⟨(flds (getK zs))[i]'h, h2, h1, getG_succ zs (flds (getK zs)) i h⟩ : ∃ c, ltr c ∧ s[i]'hi = dl c ∧ getG gdF zs ((flds (getK zs)).take (i + 1)) = gdF (getG gdF zs ((flds (getK zs)).take i)) c))
  have HL := Lib.hid (show getG gdF zs ((flds (getK zs)).take s.size) = getG gdF zs (flds (getK zs)) by rw [hsz, List.take_of_length_le (Nat.le_refl _)])
  have H0 := Lib.hid (show getG gdF zs ((flds (getK zs)).take 0) = (kindE (getK zs), (stSmall 9 (zs, false)).2) from rfl)
  have HBad := Lib.hid (fun (i : Nat) (h : (getG gdF zs ((flds (getK zs)).take (i + 1))).2 = ([], true)) => getD_bad zs _ rfl (i + 1) h)
  have HRes := Lib.hid (show getD zs = if ((!(getG gdF zs (flds (getK zs))).2.2 && (getG gdF zs (flds (getK zs))).2.1.isEmpty) && goodE (getG gdF zs (flds (getK zs))).1) = true then ((getG gdF zs (flds (getK zs))).1, 0) else (kindE 0, 2) from rfl)
  have HGd := Lib.hid (fun W => rv_good (getG gdF zs (flds (getK zs))).1 hnmS W)
  rw [goodD_eq] at HGd
  have h4 : s.size ≤ 4 := by rw [hsz]; exact flds_len _
  clear hsz hs hS hB hnmS
  obtain ⟨M, hM⟩ : ∃ M, mostK (getK zs) = M := ⟨_, rfl⟩
  rw [hM] at HF
  clear hM
  generalize flds (getK zs) = l at *
  go_enter Tryd.func12, Tryd.ntmps12
  go_wp2_with fail
  have hX1 : Kept w (w.alloc (.cells #[.int .i64 0, .int .i64 0, .int .i64 0, .int .i64 0, .int .i64 0, .string ⟨#[]⟩, .string ⟨#[]⟩, .string ⟨#[]⟩] 33 (0, 0))) := by (unfold Kept; repeat (first | exact Below.refl _ _ | assumption | (refine Below.alloc ?_ (by simp) _) | (refine Below.setCell ?_ (by simp) _) | (refine Below.drew ?_) | (refine _root_.Go.below_drewN ?_ _)))
  have HX := Lib.hid (hX1.trans (show Kept (w.alloc (.cells #[.int .i64 0, .int .i64 0, .int .i64 0, .int .i64 0, .int .i64 0, .string ⟨#[]⟩, .string ⟨#[]⟩, .string ⟨#[]⟩] 33 (0, 0))) ((w.alloc (.cells #[.int .i64 0, .int .i64 0, .int .i64 0, .int .i64 0, .int .i64 0, .string ⟨#[]⟩, .string ⟨#[]⟩, .string ⟨#[]⟩] 33 (0, 0))).alloc (.cells #[.slice a n c, .bool false] 61 (0, 0))) by (unfold Kept; repeat (first | exact Below.refl _ _ | assumption | (refine Below.alloc ?_ (by simp) _) | (refine Below.setCell ?_ (by simp) _) | (refine Below.drew ?_) | (refine _root_.Go.below_drewN ?_ _)))))
  have hX2 : ((w.alloc (.cells #[.int .i64 0, .int .i64 0, .int .i64 0, .int .i64 0, .int .i64 0, .string ⟨#[]⟩, .string ⟨#[]⟩, .string ⟨#[]⟩] 33 (0, 0))).alloc (.cells #[.slice a n c, .bool false] 61 (0, 0))).heap[w.heap.size + 1]? = some (.cells #[.slice a n c, .bool false] 61 (0, 0)) := new_at _ (by simp)
  have HR1 := Lib.hid (show ((w.alloc (.cells #[.int .i64 0, .int .i64 0, .int .i64 0, .int .i64 0, .int .i64 0, .string ⟨#[]⟩, .string ⟨#[]⟩, .string ⟨#[]⟩] 33 (0, 0))).alloc (.cells #[.slice a n c, .bool false] 61 (0, 0))).heap[w.heap.size]? = some (evOd (kindE 0)) from heap_keep (heap_alloc_new w (.cells #[.int .i64 0, .int .i64 0, .int .i64 0, .int .i64 0, .int .i64 0, .string ⟨#[]⟩, .string ⟨#[]⟩, .string ⟨#[]⟩] 33 (0, 0))) (.cells #[.slice a n c, .bool false] 61 (0, 0)))
  have hsX : ((w.alloc (.cells #[.int .i64 0, .int .i64 0, .int .i64 0, .int .i64 0, .int .i64 0, .string ⟨#[]⟩, .string ⟨#[]⟩, .string ⟨#[]⟩] 33 (0, 0))).alloc (.cells #[.slice a n c, .bool false] 61 (0, 0))).heap.size = w.heap.size + 1 + 1 := by simp
  clear hX1
  generalize (w.alloc (.cells #[.int .i64 0, .int .i64 0, .int .i64 0, .int .i64 0, .int .i64 0, .string ⟨#[]⟩, .string ⟨#[]⟩, .string ⟨#[]⟩] 33 (0, 0))).alloc (.cells #[.slice a n c, .bool false] 61 (0, 0)) = X at *
  refine (HFst.out X (w.heap.size + 1) (by omega) HX.out hX2).mono ?_
  rintro E Y ⟨rfl, hI1, ho1⟩
  have HI1 := Lib.hid hI1
  have HR2 := Lib.hid (ho1.heap HR1.out (by simp))
  have HK2 := Lib.hid (HX.out.onl ho1 (by intro i hi; obtain rfl : i = w.heap.size + 1 := (by simpa using hi); omega))
  have hpY : w.heap.size + 1 < Y.heap.size := by have := ho1.size; omega
  clear HX hX2 HR1 hI1 ho1 HFst hsX
  generalize hq : w.heap.size = q at *
  have HQW := Lib.hid hq
  clear hq
  generalize hp : q + 1 = p at *
  have hqp : q < p := by omega
  clear hp
  obtain ⟨kk, hkk⟩ : ∃ kk, getK zs = kk := ⟨_, rfl⟩
  rw [hkk] at HF H0
  rw [hkk]
  clear hkk
  have HA := Lib.hid (heap_alloc_new Y (evOd (kindE kk)))
  have HI2 : Hid (InAt (Y.alloc (evOd (kindE kk))) 61 p (stSmall 9 (zs, false)).2.1 (stSmall 9 (zs, false)).2.2) := by
    obtain ⟨a, n, c, h1, h2, h3, h4⟩ := HI1.out
    have K := kept_al5 Y (evOd (kindE kk))
    exact ⟨a, n, c, K.only.heap h1 (by simp), K.sl h2, h3, h4⟩
  have HR4 := Lib.hid (heap_keep HR2.out (evOd (kindE kk)))
  have HK4 := Lib.hid (HK2.out.trans (kept_al5 Y (evOd (kindE kk))))
  obtain ⟨a0, a1, a2, a3, a4, a5, a6, a7⟩ := evd_cells HA.out
  have HD : Hid (GdD w q p Y.heap.size) := ⟨by rw [HQW.out]; exact Nat.le_refl _, hqp, hpY⟩
  have HP0 : Hid (GdW w (Y.alloc (evOd (kindE kk))) q p Y.heap.size (getG gdF zs (l.take 0))) := by
    unfold Hid
    rw [H0.out]
    exact ⟨HI2.out, HR4.out, HA.out, HK4.out⟩
  clear HA HI1 HI2 HR2 HR4 HK2 HK4 H0
  go_wp2_with fail
  refine (HF.out _).mono ?_
  rintro E Y3 ⟨rfl, hK3⟩
  replace hK3 : Kept (Y.alloc (evOd (kindE kk))) Y3 := hK3
  generalize hv : Y.heap.size = v at *
  clear hv
  have HP1 : Hid (GdW w Y3 q p v (getG gdF zs (l.take 0))) := by
    obtain ⟨⟨a, n, c, h1, h2, h3, h4⟩, h5, h6, h7⟩ := HP0.out
    exact ⟨⟨a, n, c, hK3.only.heap h1 (by simp), hK3.sl h2, h3, h4⟩, hK3.only.heap h5 (by simp), hK3.only.heap h6 (by simp), h7.trans hK3⟩
  clear hK3 HP0 a0 a1 a2 a3 a4 a5 a6 a7 HF
  have K8 : ∀ (V : World) (y : EV), Kept w V → Kept w ((((((((V.setCell ⟨q, 0, none⟩ (.int .i64 y.k)).setCell ⟨q, 1, none⟩ (.int .i64 y.r)).setCell ⟨q, 2, none⟩ (.int .i64 y.t)).setCell ⟨q, 3, none⟩ (.int .i64 y.y)).setCell ⟨q, 4, none⟩ (.int .i64 y.n)).setCell ⟨q, 5, none⟩ (.string y.nm)).setCell ⟨q, 6, none⟩ (.string y.ky)).setCell ⟨q, 7, none⟩ (.string y.dt)) := by
    intro V y k
    unfold Kept
    repeat (refine Below.setCell ?_ (by show w.heap.size ≤ q; rw [HQW.out]; exact Nat.le_refl _) _)
    exact k
  have HK8 := Lib.hid K8
  clear K8
  have D := HD.out
  go_wp2_with fail
  go_loopw [8, 9] (fun vi vn wr => ∃ (i : Nat), vi = .int .i64 (i : Nat) ∧ i ≤ s.size ∧ Hid (GdW w wr q p v (getG gdF zs (l.take i)))) (fun vi _ _ => s.size - (intOf vi).toNat)
  case atStart => exact ⟨0, rfl, by omega, HP1⟩
  case round =>
    obtain ⟨i, rfl, hi, HP⟩ := hrel
    clear HP1
    by_cases hlt : i < s.size
    · have hlt' : (i : Int) < s.size := by omega
      obtain ⟨c, hc, hgl, hnext⟩ := HG.out i hlt
      have HN := Lib.hid hnext
      clear hnext
      obtain ⟨x, hx⟩ : ∃ x, getG gdF zs (l.take i) = x := ⟨_, rfl⟩
      rw [hx] at HP HN
      clear hx
      rcases hc with rfl | rfl | rfl | rfl | rfl | rfl | rfl
      · have hgc : ((s[i]'hlt).toNat : Int) = 114 := by rw [hgl]; rfl
        clear hgl HG
        have HX2 := Lib.hid (show gdF x 82 = ({ x.1 with r := (stSmall 64 x.2).1 }, (stSmall 64 x.2).2) from gp82 64 64 64 nD x)
        go_wp2_with fail
        refine (rin_Small p x.2 64 wr (by omega) (by omega) HP.out.i).mono ?_
        rintro E W2 ⟨rfl, hI2, ho2⟩
        have HP3 := Lib.hid (HP.out.read (y := (x.1, (stSmall 64 x.2).2)) D hI2 ho2 rfl)
        clear hI2 ho2
        obtain ⟨a0, a1, a2, a3, a4, a5, a6, a7⟩ := evd_cells HP3.out.a
        have fz : ∀ j, W2.frozen? ⟨v, j, none⟩ = false := fun j => one_free HP3.out.a j
        dsimp only at a0 a1 a2 a3 a4 a5 a6 a7
        obtain ⟨uu, huu⟩ : ∃ uu, (stSmall 64 x.2).1 = uu := ⟨_, rfl⟩
        rw [huu] at HX2
        rw [huu]
        clear huu
        go_wp2_with fail
        have HP4 := Lib.hid (HP3.out.set (y := ({ x.1 with r := uu }, (stSmall 64 x.2).2)) D rfl 1 (.int .i64 uu) rfl)
        go_roundw
        case rel => exact ⟨i + 1, by go_num, by omega, by rw [HN.out, HX2.out]; exact HP4⟩
        case measure => simp [intOf]; omega
      · have hgc : ((s[i]'hlt).toNat : Int) = 116 := by rw [hgl]; rfl
        clear hgl HG
        have HX2 := Lib.hid (show gdF x 84 = ({ x.1 with t := (stSmall 64 x.2).1 }, (stSmall 64 x.2).2) from gp84 64 64 64 nD x)
        go_wp2_with fail
        refine (rin_Small p x.2 64 wr (by omega) (by omega) HP.out.i).mono ?_
        rintro E W2 ⟨rfl, hI2, ho2⟩
        have HP3 := Lib.hid (HP.out.read (y := (x.1, (stSmall 64 x.2).2)) D hI2 ho2 rfl)
        clear hI2 ho2
        obtain ⟨a0, a1, a2, a3, a4, a5, a6, a7⟩ := evd_cells HP3.out.a
        have fz : ∀ j, W2.frozen? ⟨v, j, none⟩ = false := fun j => one_free HP3.out.a j
        dsimp only at a0 a1 a2 a3 a4 a5 a6 a7
        obtain ⟨uu, huu⟩ : ∃ uu, (stSmall 64 x.2).1 = uu := ⟨_, rfl⟩
        rw [huu] at HX2
        rw [huu]
        clear huu
        go_wp2_with fail
        have HP4 := Lib.hid (HP3.out.set (y := ({ x.1 with t := uu }, (stSmall 64 x.2).2)) D rfl 2 (.int .i64 uu) rfl)
        go_roundw
        case rel => exact ⟨i + 1, by go_num, by omega, by rw [HN.out, HX2.out]; exact HP4⟩
        case measure => simp [intOf]; omega
      · have hgc : ((s[i]'hlt).toNat : Int) = 121 := by rw [hgl]; rfl
        clear hgl HG
        have HX2 := Lib.hid (show gdF x 89 = ({ x.1 with y := (stSmall 64 x.2).1 }, (stSmall 64 x.2).2) from gp89 64 64 64 nD x)
        go_wp2_with fail
        refine (rin_Small p x.2 64 wr (by omega) (by omega) HP.out.i).mono ?_
        rintro E W2 ⟨rfl, hI2, ho2⟩
        have HP3 := Lib.hid (HP.out.read (y := (x.1, (stSmall 64 x.2).2)) D hI2 ho2 rfl)
        clear hI2 ho2
        obtain ⟨a0, a1, a2, a3, a4, a5, a6, a7⟩ := evd_cells HP3.out.a
        have fz : ∀ j, W2.frozen? ⟨v, j, none⟩ = false := fun j => one_free HP3.out.a j
        dsimp only at a0 a1 a2 a3 a4 a5 a6 a7
        obtain ⟨uu, huu⟩ : ∃ uu, (stSmall 64 x.2).1 = uu := ⟨_, rfl⟩
        rw [huu] at HX2
        rw [huu]
        clear huu
        go_wp2_with fail
        have HP4 := Lib.hid (HP3.out.set (y := ({ x.1 with y := uu }, (stSmall 64 x.2).2)) D rfl 3 (.int .i64 uu) rfl)
        go_roundw
        case rel => exact ⟨i + 1, by go_num, by omega, by rw [HN.out, HX2.out]; exact HP4⟩
        case measure => simp [intOf]; omega
      · have hgc : ((s[i]'hlt).toNat : Int) = 110 := by rw [hgl]; rfl
        clear hgl HG
        have hu := Lib.hid (show nD x.2 = if 1099511627776 < (stU x.2).1 then (0, [], true) else stU x.2 from rfl)
        have HX0 := Lib.hid (show gdF x 78 = ({ x.1 with n := (nD x.2).1 }, (nD x.2).2) from gp78 64 64 64 nD x)
        go_wp2_with fail
        refine (rin_U_any p x.2 wr HP.out.i).mono ?_
        rintro E W2 ⟨rfl, hI2, ho2, hu0, hu1⟩
        by_cases hbig : 1099511627776 < (stU x.2).1
        · have HP3 := Lib.hid (HP.out.read (y := (x.1, (stU x.2).2)) D hI2 ho2 rfl)
          have HEarly := Lib.hid (HBad.out i (by rw [HN.out, HX0.out, hu.out, if_pos hbig]))
          obtain ⟨uu, huu⟩ : ∃ uu, (stU x.2).1 = uu := ⟨_, rfl⟩
          rw [huu] at hbig hu0 hu1
          rw [huu]
          clear huu hI2 ho2 HN HX0 hu HBad HL
          obtain ⟨b0, b1, b2, b3, b4, b5, b6, b7⟩ := evd_cells HP3.out.r
          have fz : ∀ j, W2.frozen? ⟨q, j, none⟩ = false := fun j => one_free HP3.out.r j
          go_wp2_with fail
          have hfin := evd_set8 HP3.out.r (kindE 0)
          have KF := HK8.out W2 (kindE 0) HP3.out.k
          dsimp only [kindE] at hfin KF
          generalize (((((((W2.setCell ⟨q, 0, none⟩ (.int .i64 0)).setCell ⟨q, 1, none⟩ (.int .i64 0)).setCell ⟨q, 2, none⟩ (.int .i64 0)).setCell ⟨q, 3, none⟩ (.int .i64 0)).setCell ⟨q, 4, none⟩ (.int .i64 0)).setCell ⟨q, 5, none⟩ (.string ⟨#[]⟩)).setCell ⟨q, 6, none⟩ (.string ⟨#[]⟩)).setCell ⟨q, 7, none⟩ (.string ⟨#[]⟩) = Z at *
          obtain ⟨d0, d1, d2, d3, d4, d5, d6, d7⟩ := evd_cells hfin
          exact bodyPost_ret (v := .tuple #[evV (kindE 0), .int .i64 2]) (by simp [results, Tryd.results12, go_sem, d0, d1, d2, d3, d4, d5, d6, d7, kindE]) rfl ⟨by rw [HEarly.out], KF⟩
        · have HX2 : Hid (gdF x 78 = ({ x.1 with n := (stU x.2).1 }, (stU x.2).2)) := by unfold Hid; rw [HX0.out, hu.out, if_neg hbig]
          have hbig := Int.not_lt.1 hbig
          have HP3 := Lib.hid (HP.out.read (y := (x.1, (stU x.2).2)) D hI2 ho2 rfl)
          clear hI2 ho2 hu HX0
          obtain ⟨a0, a1, a2, a3, a4, a5, a6, a7⟩ := evd_cells HP3.out.a
          have fz : ∀ j, W2.frozen? ⟨v, j, none⟩ = false := fun j => one_free HP3.out.a j
          dsimp only at a0 a1 a2 a3 a4 a5 a6 a7
          obtain ⟨uu, huu⟩ : ∃ uu, (stU x.2).1 = uu := ⟨_, rfl⟩
          rw [huu] at HX2 hbig hu0 hu1
          rw [huu]
          clear huu
          go_wp2_with fail
          have HP4 := Lib.hid (HP3.out.set (y := ({ x.1 with n := uu }, (stU x.2).2)) D rfl 4 (.int .i64 uu) rfl)
          go_roundw
          case rel => exact ⟨i + 1, by go_num, by omega, by rw [HN.out, HX2.out]; exact HP4⟩
          case measure => simp [intOf]; omega
      · have hgc : ((s[i]'hlt).toNat : Int) = 97 := by rw [hgl]; rfl
        clear hgl HG
        have HX2 := Lib.hid (show gdF x 77 = ({ x.1 with nm := strOf (stS 64 x.2).1 }, (stS 64 x.2).2) from gp77 64 64 64 nD x)
        go_wp2_with fail
        refine (rin_S p x.2 64 wr (by omega) (by omega) HP.out.i).mono ?_
        rintro E W2 ⟨rfl, hI2, ho2⟩
        have HP3 := Lib.hid (HP.out.read (y := (x.1, (stS 64 x.2).2)) D hI2 ho2 rfl)
        clear hI2 ho2
        obtain ⟨a0, a1, a2, a3, a4, a5, a6, a7⟩ := evd_cells HP3.out.a
        have fz : ∀ j, W2.frozen? ⟨v, j, none⟩ = false := fun j => one_free HP3.out.a j
        dsimp only at a0 a1 a2 a3 a4 a5 a6 a7
        obtain ⟨uu, huu⟩ : ∃ uu, strOf (stS 64 x.2).1 = uu := ⟨_, rfl⟩
        rw [huu] at HX2
        rw [huu]
        clear huu
        go_wp2_with fail
        have HP4 := Lib.hid (HP3.out.set (y := ({ x.1 with nm := uu }, (stS 64 x.2).2)) D rfl 5 (.string uu) rfl)
        go_roundw
        case rel => exact ⟨i + 1, by go_num, by omega, by rw [HN.out, HX2.out]; exact HP4⟩
        case measure => simp [intOf]; omega
      · have hgc : ((s[i]'hlt).toNat : Int) = 107 := by rw [hgl]; rfl
        clear hgl HG
        have HX2 := Lib.hid (show gdF x 75 = ({ x.1 with ky := strOf (stS 64 x.2).1 }, (stS 64 x.2).2) from gp75 64 64 64 nD x)
        go_wp2_with fail
        refine (rin_S p x.2 64 wr (by omega) (by omega) HP.out.i).mono ?_
        rintro E W2 ⟨rfl, hI2, ho2⟩
        have HP3 := Lib.hid (HP.out.read (y := (x.1, (stS 64 x.2).2)) D hI2 ho2 rfl)
        clear hI2 ho2
        obtain ⟨a0, a1, a2, a3, a4, a5, a6, a7⟩ := evd_cells HP3.out.a
        have fz : ∀ j, W2.frozen? ⟨v, j, none⟩ = false := fun j => one_free HP3.out.a j
        dsimp only at a0 a1 a2 a3 a4 a5 a6 a7
        obtain ⟨uu, huu⟩ : ∃ uu, strOf (stS 64 x.2).1 = uu := ⟨_, rfl⟩
        rw [huu] at HX2
        rw [huu]
        clear huu
        go_wp2_with fail
        have HP4 := Lib.hid (HP3.out.set (y := ({ x.1 with ky := uu }, (stS 64 x.2).2)) D rfl 6 (.string uu) rfl)
        go_roundw
        case rel => exact ⟨i + 1, by go_num, by omega, by rw [HN.out, HX2.out]; exact HP4⟩
        case measure => simp [intOf]; omega
      · have hgc : ((s[i]'hlt).toNat : Int) = 100 := by rw [hgl]; rfl
        clear hgl HG
        have HX2 := Lib.hid (show gdF x 68 = ({ x.1 with dt := strOf (stS 900 x.2).1 }, (stS 900 x.2).2) from gp68 64 64 64 nD x)
        go_wp2_with fail
        refine (rin_S p x.2 900 wr (by omega) (by omega) HP.out.i).mono ?_
        rintro E W2 ⟨rfl, hI2, ho2⟩
        have HP3 := Lib.hid (HP.out.read (y := (x.1, (stS 900 x.2).2)) D hI2 ho2 rfl)
        clear hI2 ho2
        obtain ⟨a0, a1, a2, a3, a4, a5, a6, a7⟩ := evd_cells HP3.out.a
        have fz : ∀ j, W2.frozen? ⟨v, j, none⟩ = false := fun j => one_free HP3.out.a j
        dsimp only at a0 a1 a2 a3 a4 a5 a6 a7
        obtain ⟨uu, huu⟩ : ∃ uu, strOf (stS 900 x.2).1 = uu := ⟨_, rfl⟩
        rw [huu] at HX2
        rw [huu]
        clear huu
        go_wp2_with fail
        have HP4 := Lib.hid (HP3.out.set (y := ({ x.1 with dt := uu }, (stS 900 x.2).2)) D rfl 7 (.string uu) rfl)
        go_roundw
        case rel => exact ⟨i + 1, by go_num, by omega, by rw [HN.out, HX2.out]; exact HP4⟩
        case measure => simp [intOf]; omega
    · have hge : (s.size : Int) ≤ i := by omega
      obtain rfl : i = s.size := by omega
      rw [HL.out] at HP
      clear HG HL HBad
      generalize getG gdF zs l = x at *
      obtain ⟨a1, n1, c1, hp1, hS1, -, -⟩ := HP.out.i
      have hl1 : x.2.1.length = n1 := hS1.1
      have q0 := at_cell hp1 0 _ rfl
      have q1 := at_cell hp1 1 _ rfl
      clear hp1 hS1
      have Hh : ∀ V, Kept wr V → V.heap[q]? = some (evOd (kindE 0)) ∧ V.heap[v]? = some (evOd x.1) := fun V k => ⟨k.only.heap HP.out.r (by simp), k.only.heap HP.out.a (by simp)⟩
      have HH := Lib.hid Hh
      clear Hh
      have HKw := Lib.hid HP.out.k
      clear HP
      have HE := Lib.hid (show x.2.1.isEmpty = decide (n1 = 0) from by
        rw [← hl1]
        cases x.2.1 <;> simp)
      clear hl1
      generalize hb : x.2.2 = bad at *
      clear hb
      cases bad with
      | true =>
        have HV : Hid (getD zs = (kindE 0, 2)) := by unfold Hid; rw [HRes.out]; simp
        clear HRes HE
        obtain ⟨r0, v0⟩ := HH.out wr (Kept.refl _)
        obtain ⟨b0, b1, b2, b3, b4, b5, b6, b7⟩ := evd_cells r0
        have fz : ∀ j, wr.frozen? ⟨q, j, none⟩ = false := fun j => one_free r0 j
        have HR0 := Lib.hid r0
        clear r0 v0
        go_wp2_with fail
        have hfin : ((((((((wr.setCell ⟨q, 0, none⟩ (.int .i64 0)).setCell ⟨q, 1, none⟩ (.int .i64 0)).setCell ⟨q, 2, none⟩ (.int .i64 0)).setCell ⟨q, 3, none⟩ (.int .i64 0)).setCell ⟨q, 4, none⟩ (.int .i64 0)).setCell ⟨q, 5, none⟩ (.string ⟨#[]⟩)).setCell ⟨q, 6, none⟩ (.string ⟨#[]⟩)).setCell ⟨q, 7, none⟩ (.string ⟨#[]⟩)).heap[q]? = some (evOd (kindE 0)) := evd_set8 HR0.out (kindE 0)
        have KF : Kept w ((((((((wr.setCell ⟨q, 0, none⟩ (.int .i64 0)).setCell ⟨q, 1, none⟩ (.int .i64 0)).setCell ⟨q, 2, none⟩ (.int .i64 0)).setCell ⟨q, 3, none⟩ (.int .i64 0)).setCell ⟨q, 4, none⟩ (.int .i64 0)).setCell ⟨q, 5, none⟩ (.string ⟨#[]⟩)).setCell ⟨q, 6, none⟩ (.string ⟨#[]⟩)).setCell ⟨q, 7, none⟩ (.string ⟨#[]⟩)) := HK8.out wr (kindE 0) HKw.out
        generalize (((((((wr.setCell ⟨q, 0, none⟩ (.int .i64 0)).setCell ⟨q, 1, none⟩ (.int .i64 0)).setCell ⟨q, 2, none⟩ (.int .i64 0)).setCell ⟨q, 3, none⟩ (.int .i64 0)).setCell ⟨q, 4, none⟩ (.int .i64 0)).setCell ⟨q, 5, none⟩ (.string ⟨#[]⟩)).setCell ⟨q, 6, none⟩ (.string ⟨#[]⟩)).setCell ⟨q, 7, none⟩ (.string ⟨#[]⟩) = Z at *
        obtain ⟨d0, d1, d2, d3, d4, d5, d6, d7⟩ := evd_cells hfin
        dsimp only [kindE] at d0 d1 d2 d3 d4 d5 d6 d7
        exact bodyPost_ret (v := .tuple #[evV (kindE 0), .int .i64 2]) (by simp [results, Tryd.results12, go_sem, d0, d1, d2, d3, d4, d5, d6, d7, kindE]) rfl ⟨by rw [HV.out], KF⟩
      | false =>
        by_cases hz : n1 = 0
        · subst hz
          obtain ⟨r0, v0⟩ := HH.out wr (Kept.refl _)
          obtain ⟨a0, a1, a2, a3, a4, a5, a6, a7⟩ := evd_cells v0
          clear r0 v0
          generalize hgd : goodE x.1 = gd at *
          have HV0 : Hid (getD zs = if gd = true then (x.1, 0) else (kindE 0, 2)) := by unfold Hid; rw [HRes.out, HE.out]; simp
          clear HRes HE hgd
          go_wp2_with fail
          refine (HGd.out _).mono ?_
          rintro E V ⟨rfl, hKV⟩
          obtain ⟨r0, v0⟩ := HH.out V hKV
          have HKV := Lib.hid (HKw.out.trans hKV)
          clear a0 a1 a2 a3 a4 a5 a6 a7
          obtain ⟨a0, a1, a2, a3, a4, a5, a6, a7⟩ := evd_cells v0
          obtain ⟨b0, b1, b2, b3, b4, b5, b6, b7⟩ := evd_cells r0
          have fz : ∀ j, V.frozen? ⟨q, j, none⟩ = false := fun j => one_free r0 j
          have HR0 := Lib.hid r0
          clear r0 v0 hKV
          cases gd with
          | false =>
            have HV : Hid (getD zs = (kindE 0, 2)) := by unfold Hid; rw [HV0.out]; simp
            go_wp2_with fail
            have hfin : ((((((((V.setCell ⟨q, 0, none⟩ (.int .i64 0)).setCell ⟨q, 1, none⟩ (.int .i64 0)).setCell ⟨q, 2, none⟩ (.int .i64 0)).setCell ⟨q, 3, none⟩ (.int .i64 0)).setCell ⟨q, 4, none⟩ (.int .i64 0)).setCell ⟨q, 5, none⟩ (.string ⟨#[]⟩)).setCell ⟨q, 6, none⟩ (.string ⟨#[]⟩)).setCell ⟨q, 7, none⟩ (.string ⟨#[]⟩)).heap[q]? = some (evOd (kindE 0)) := evd_set8 HR0.out (kindE 0)
            have KF : Kept w ((((((((V.setCell ⟨q, 0, none⟩ (.int .i64 0)).setCell ⟨q, 1, none⟩ (.int .i64 0)).setCell ⟨q, 2, none⟩ (.int .i64 0)).setCell ⟨q, 3, none⟩ (.int .i64 0)).setCell ⟨q, 4, none⟩ (.int .i64 0)).setCell ⟨q, 5, none⟩ (.string ⟨#[]⟩)).setCell ⟨q, 6, none⟩ (.string ⟨#[]⟩)).setCell ⟨q, 7, none⟩ (.string ⟨#[]⟩)) := HK8.out V (kindE 0) HKV.out
            generalize (((((((V.setCell ⟨q, 0, none⟩ (.int .i64 0)).setCell ⟨q, 1, none⟩ (.int .i64 0)).setCell ⟨q, 2, none⟩ (.int .i64 0)).setCell ⟨q, 3, none⟩ (.int .i64 0)).setCell ⟨q, 4, none⟩ (.int .i64 0)).setCell ⟨q, 5, none⟩ (.string ⟨#[]⟩)).setCell ⟨q, 6, none⟩ (.string ⟨#[]⟩)).setCell ⟨q, 7, none⟩ (.string ⟨#[]⟩) = Z at *
            obtain ⟨d0, d1, d2, d3, d4, d5, d6, d7⟩ := evd_cells hfin
            dsimp only [kindE] at d0 d1 d2 d3 d4 d5 d6 d7
            exact bodyPost_ret (v := .tuple #[evV (kindE 0), .int .i64 2]) (by simp [results, Tryd.results12, go_sem, d0, d1, d2, d3, d4, d5, d6, d7, kindE]) rfl ⟨by rw [HV.out], KF⟩
          | true =>
            have HV : Hid (getD zs = (x.1, 0)) := by unfold Hid; rw [HV0.out]; simp
            go_wp2_with fail
            have hfin : ((((((((V.setCell ⟨q, 0, none⟩ (.int .i64 x.1.k)).setCell ⟨q, 1, none⟩ (.int .i64 x.1.r)).setCell ⟨q, 2, none⟩ (.int .i64 x.1.t)).setCell ⟨q, 3, none⟩ (.int .i64 x.1.y)).setCell ⟨q, 4, none⟩ (.int .i64 x.1.n)).setCell ⟨q, 5, none⟩ (.string x.1.nm)).setCell ⟨q, 6, none⟩ (.string x.1.ky)).setCell ⟨q, 7, none⟩ (.string x.1.dt)).heap[q]? = some (evOd x.1) := evd_set8 HR0.out x.1
            have KF : Kept w ((((((((V.setCell ⟨q, 0, none⟩ (.int .i64 x.1.k)).setCell ⟨q, 1, none⟩ (.int .i64 x.1.r)).setCell ⟨q, 2, none⟩ (.int .i64 x.1.t)).setCell ⟨q, 3, none⟩ (.int .i64 x.1.y)).setCell ⟨q, 4, none⟩ (.int .i64 x.1.n)).setCell ⟨q, 5, none⟩ (.string x.1.nm)).setCell ⟨q, 6, none⟩ (.string x.1.ky)).setCell ⟨q, 7, none⟩ (.string x.1.dt)) := HK8.out V x.1 HKV.out
            generalize (((((((V.setCell ⟨q, 0, none⟩ (.int .i64 x.1.k)).setCell ⟨q, 1, none⟩ (.int .i64 x.1.r)).setCell ⟨q, 2, none⟩ (.int .i64 x.1.t)).setCell ⟨q, 3, none⟩ (.int .i64 x.1.y)).setCell ⟨q, 4, none⟩ (.int .i64 x.1.n)).setCell ⟨q, 5, none⟩ (.string x.1.nm)).setCell ⟨q, 6, none⟩ (.string x.1.ky)).setCell ⟨q, 7, none⟩ (.string x.1.dt) = Z at *
            obtain ⟨d0, d1, d2, d3, d4, d5, d6, d7⟩ := evd_cells hfin
            exact bodyPost_ret (v := .tuple #[evV x.1, .int .i64 0]) (by simp [results, Tryd.results12, go_sem, d0, d1, d2, d3, d4, d5, d6, d7]) rfl ⟨by rw [HV.out], KF⟩
        · have hz' : (0 : Int) < n1 := by omega
          have HV : Hid (getD zs = (kindE 0, 2)) := by unfold Hid; rw [HRes.out, HE.out, decide_eq_false hz]; simp
          clear HRes HE hz
          obtain ⟨r0, v0⟩ := HH.out wr (Kept.refl _)
          obtain ⟨b0, b1, b2, b3, b4, b5, b6, b7⟩ := evd_cells r0
          have fz : ∀ j, wr.frozen? ⟨q, j, none⟩ = false := fun j => one_free r0 j
          have HR0 := Lib.hid r0
          clear r0 v0
          go_wp2_with fail
          have hfin : ((((((((wr.setCell ⟨q, 0, none⟩ (.int .i64 0)).setCell ⟨q, 1, none⟩ (.int .i64 0)).setCell ⟨q, 2, none⟩ (.int .i64 0)).setCell ⟨q, 3, none⟩ (.int .i64 0)).setCell ⟨q, 4, none⟩ (.int .i64 0)).setCell ⟨q, 5, none⟩ (.string ⟨#[]⟩)).setCell ⟨q, 6, none⟩ (.string ⟨#[]⟩)).setCell ⟨q, 7, none⟩ (.string ⟨#[]⟩)).heap[q]? = some (evOd (kindE 0)) := evd_set8 HR0.out (kindE 0)
          have KF : Kept w ((((((((wr.setCell ⟨q, 0, none⟩ (.int .i64 0)).setCell ⟨q, 1, none⟩ (.int .i64 0)).setCell ⟨q, 2, none⟩ (.int .i64 0)).setCell ⟨q, 3, none⟩ (.int .i64 0)).setCell ⟨q, 4, none⟩ (.int .i64 0)).setCell ⟨q, 5, none⟩ (.string ⟨#[]⟩)).setCell ⟨q, 6, none⟩ (.string ⟨#[]⟩)).setCell ⟨q, 7, none⟩ (.string ⟨#[]⟩)) := HK8.out wr (kindE 0) HKw.out
          generalize (((((((wr.setCell ⟨q, 0, none⟩ (.int .i64 0)).setCell ⟨q, 1, none⟩ (.int .i64 0)).setCell ⟨q, 2, none⟩ (.int .i64 0)).setCell ⟨q, 3, none⟩ (.int .i64 0)).setCell ⟨q, 4, none⟩ (.int .i64 0)).setCell ⟨q, 5, none⟩ (.string ⟨#[]⟩)).setCell ⟨q, 6, none⟩ (.string ⟨#[]⟩)).setCell ⟨q, 7, none⟩ (.string ⟨#[]⟩) = Z at *
          obtain ⟨d0, d1, d2, d3, d4, d5, d6, d7⟩ := evd_cells hfin
          dsimp only [kindE] at d0 d1 d2 d3 d4 d5 d6 d7
          exact bodyPost_ret (v := .tuple #[evV (kindE 0), .int .i64 2]) (by simp [results, Tryd.results12, go_sem, d0, d1, d2, d3, d4, d5, d6, d7, kindE]) rfl ⟨by rw [HV.out], KF⟩
end Go.Proofs.YteaepgbakcifkaaDoor
