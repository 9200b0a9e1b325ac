/- Events: Get. -/
import Derived.Test.YteaepgbakcifkaaDoorEv6
import Derived.Test.YteaepgbakcifkaaDoorEvClone
import Derived.Test.YteaepgbakcifkaaDoorEvM3
set_option linter.unusedVariables false
set_option linter.unusedSimpArgs false
namespace Go.Proofs.YteaepgbakcifkaaDoor
open Go.RowKit
theorem Only.inB {S : List Nat} {w w' : World} {bl p : Nat} {t : TypeId} {zs : List Int} {bad : Bool} (h : Only S w w') (hI : InB bl w t p zs bad) (hp : p ∉ S) (hb : bl ∉ S) : InB bl w' t p zs bad := by
  obtain ⟨a, n, c, hh, hS, hi, hB⟩ := hI
  exact ⟨a, n, c, h.heap hh hp, h.sl hS (fun x hx => by rw [hi x hx]; exact hb), hi, hB⟩
theorem kept_al (w : World) (o : Obj) : Kept w (w.alloc o) := by (unfold Kept; repeat (first | exact Below.refl _ _ | assumption | (refine Below.alloc ?_ (by simp) _) | (refine Below.setCell ?_ (by simp) _) | (refine Below.drew ?_) | (refine _root_.Go.below_drewN ?_ _)))
/-- Get's loop: the answer's cell at q, the In at p, the event at v, the iterator at it -/
structure GeW (w wr : World) (t : TypeId) (q p v it bl : Nat) (x : EV × St) (s : ByteArray) (pos : Nat) : Prop where
  i : InB bl wr t p x.2.1 x.2.2
  r : wr.heap[q]? = some (evO (kindE 0))
  a : wr.heap[v]? = some (evO x.1)
  d : wr.heap[it]? = some (.stringIter s pos)
  k : Kept w wr
structure GeD (w : World) (q p v it bl : Nat) : Prop where
  h1 : w.heap.size ≤ q
  h2 : q < p
  h3 : p < v
  h4 : v < it
  h5 : bl ≠ p
  h6 : bl ≠ v
  h7 : bl ≠ it
theorem GeW.iter {w wr : World} {t : TypeId} {q p v it bl : Nat} {x : EV × St} {s : ByteArray} {pos : Nat} (h : GeW w wr t q p v it bl x s pos) (D : GeD w q p v it bl) (pos' : Nat) : GeW w (wr.iterAt it s pos') t q p v it bl x s pos' := by
  have ho : Only [it] wr (wr.iterAt it s pos') := ⟨rfl, rfl, rfl, by rw [Lib.iterAt_size]; exact Nat.le_refl _, fun k _ hk => Lib.iterAt_other wr it k s pos' (by simpa using hk)⟩
  obtain ⟨h1, h2, h3, h4, h5, h6, h7⟩ := D
  exact ⟨ho.inB h.i (by simp; omega) (by simpa using h7), ho.heap h.r (by simp; omega), ho.heap h.a (by simp; omega), Lib.iterAt_heap wr it s pos pos' h.d, Lib.below_iterAt h.k (by omega) s pos'⟩
theorem GeW.read {w wr w' : World} {t : TypeId} {q p v it bl : Nat} {x y : EV × St} {s : ByteArray} {pos : Nat} (h : GeW w wr t q p v it bl x s pos) (D : GeD w q p v it bl) (hI : InB bl w' t p y.2.1 y.2.2) (ho : Only [p] wr w') (hx : x.1 = y.1) : GeW w w' t q p v it bl y s pos := by
  obtain ⟨h1, h2, h3, h4, h5, h6, h7⟩ := D
  exact ⟨hI, ho.heap h.r (by simp; omega), by rw [← hx]; exact ho.heap h.a (by simp; omega), ho.heap h.d (by simp; omega), h.k.onl ho (by intro i hi; obtain rfl : i = p := (by simpa using hi); omega)⟩
theorem GeW.set {w wr : World} {t : TypeId} {q p v it bl : Nat} {x y : EV × St} {s : ByteArray} {pos : Nat} (h : GeW w wr t q p v it bl x s pos) (D : GeD w q p v it bl) (hs : x.2 = y.2) (j : Nat) (u : Value) (hv : (#[.int .i64 x.1.k, .int .i64 x.1.r, .int .i64 x.1.t, .int .i64 x.1.y, .int .i64 x.1.n, .string x.1.nm, .string x.1.ky, .string x.1.dt] : Array Value).setIfInBounds j u = #[.int .i64 y.1.k, .int .i64 y.1.r, .int .i64 y.1.t, .int .i64 y.1.y, .int .i64 y.1.n, .string y.1.nm, .string y.1.ky, .string y.1.dt]) : GeW w (wr.setCell ⟨v, j, none⟩ u) t q p v it bl y s pos := by
  have ho : Only [v] wr (wr.setCell ⟨v, j, none⟩ u) := (Only.refl [v] wr).setCell (fun _ => by simp) u
  obtain ⟨h1, h2, h3, h4, h5, h6, h7⟩ := D
  refine ⟨?_, ho.heap h.r (by simp; omega), ev_set h.a j u hv, ho.heap h.d (by simp; omega), h.k.onl ho (by intro i hi; obtain rfl : i = v := (by simpa using hi); omega)⟩
  rw [← hs]
  exact ho.inB h.i (by simp; omega) (by simpa using h6)
set_option maxRecDepth 100000 in
set_option maxHeartbeats 8000000 in
theorem ev_get (a : Option Addr) (n c : Nat) (zs : List Int) (w : World) (hS : Sl .u8 w a n c zs) (hB : IsB zs) (hn : n ≤ 1000000) : Calls Tryd.prog 11 #[.slice a n c] w fun E w' => E = .returned (.tuple #[evV (getE zs).1, .int .i64 (getE zs).2]) ∧ Kept w w' := by
  have HF := Lib.hid (fun W => ev_fields (getK zs) W)
  have HCl := Lib.hid (ev_clone a n c zs _ (((Only.refl [] w).alloc (evO (kindE 0))).kept.sl hS) hn w.heap.size)
  have HB := Lib.hid hB
  have hsz : (⟨(flds (getK zs)).toArray⟩ : ByteArray).size = (flds (getK zs)).length := by show (flds (getK zs)).toArray.size = _; simp
  obtain ⟨s, hs⟩ : ∃ s : ByteArray, (⟨(flds (getK zs)).toArray⟩ : ByteArray) = s := ⟨_, rfl⟩
  have HG := Lib.hid (fun (pos : Nat) (hp : pos < s.size) => (by
    subst hs
    rw [hsz] at hp
    have hc : (⟨(flds (getK zs)).toArray⟩ : ByteArray)[pos] = (flds (getK zs))[pos]'hp := by
      show (flds (getK zs)).toArray[pos] = _
      simp
    exact ⟨(flds (getK zs))[pos]'hp, flds_ltr _ _ (List.getElem_mem _), hc, getL_succ zs _ pos hp⟩ : ∃ c, ltr c ∧ s[pos]'hp = c ∧ getL zs ((flds (getK zs)).take (pos + 1)) = gtF (getL zs ((flds (getK zs)).take pos)) c))
  have HL := Lib.hid (show getL zs ((flds (getK zs)).take s.size) = getP zs by rw [← hs, hsz, List.take_of_length_le (Nat.le_refl _)]; rfl)
  have H0 := Lib.hid (show getL zs ((flds (getK zs)).take 0) = (kindE (getK zs), (stSmall 9 (zs, false)).2) from rfl)
  rw [hs] at HF
  clear hsz hs hS hB
  generalize flds (getK zs) = l at *
  go_enter Tryd.func11, Tryd.ntmps11
  go_wp2_with fail
  refine HCl.out.mono ?_
  rintro E V ⟨a', c', bl, rfl, hS, hbl, hK, hfr⟩
  have HR := Lib.hid (hK.only.heap (heap_alloc_new w (evO (kindE 0))) (by simp))
  have HK := Lib.hid (Kept.trans (show Kept w (w.alloc (evO (kindE 0))) by (unfold Kept; repeat (first | exact Below.refl _ _ | assumption | (refine Below.alloc ?_ (by simp) _) | (refine Below.setCell ?_ (by simp) _) | (refine Below.drew ?_) | (refine _root_.Go.below_drewN ?_ _)))) hK)
  have hqV : w.heap.size < V.heap.size := lt_heap HR.out
  have hws : (w.alloc (evO (kindE 0))).heap.size = w.heap.size + 1 := by simp
  rw [hws] at hfr
  have HS := Lib.hid hS
  have HBL := Lib.hid hbl
  clear hK hS hbl HCl
  generalize hq : w.heap.size = q at *
  have HQW := Lib.hid hq
  clear hq
  go_wp2_with fail
  have hI0 : InB bl (V.alloc (.cells #[.slice a' n c', .bool false] 57 (0, 0))) 57 V.heap.size zs false :=
    ⟨a', n, c', heap_alloc_new V _, (kept_al V _).sl HS.out, HBL.out, HB.out⟩
  have HR2 := Lib.hid (heap_keep HR.out (.cells #[.slice a' n c', .bool false] 57 (0, 0)))
  have HK2 := Lib.hid (HK.out.trans (kept_al V (.cells #[.slice a' n c', .bool false] 57 (0, 0))))
  have hXs : (V.alloc (.cells #[.slice a' n c', .bool false] 57 (0, 0))).heap.size = V.heap.size + 1 := by simp
  generalize V.alloc (.cells #[.slice a' n c', .bool false] 57 (0, 0)) = X at *
  generalize V.heap.size = p at *
  have hblp : bl ≠ p := by omega
  have HI0 := Lib.hid hI0
  clear hI0 HR HK HS HBL
  refine (show Calls Tryd.prog 29 #[.pointer (some ⟨p, 0, none⟩), .int .u64 9] X fun e w' => e = .returned (.int .i64 (getK zs)) ∧ InB bl w' 57 p (stSmall 9 (zs, false)).2.1 (stSmall 9 (zs, false)).2.2 ∧ Only [p] X w' from inb_Small bl p hblp (zs, false) 9 X (by omega) (by omega) HI0.out).mono ?_
  rintro E Y ⟨rfl, hI1, ho1⟩
  have HI1 := Lib.hid hI1
  have HR3 := Lib.hid (ho1.heap HR2.out (by simp; omega))
  have HK3 := Lib.hid (HK2.out.onl ho1 (by intro i hi; rw [HQW.out]; obtain rfl : i = p := (by simpa using hi); omega))
  have hpY : p < Y.heap.size := by have := ho1.size; omega
  clear HI0 HR2 HK2 hI1 ho1
  obtain ⟨kk, hkk⟩ : ∃ kk, getK zs = kk := ⟨_, rfl⟩
  rw [hkk] at HF H0
  rw [hkk]
  have HKK := Lib.hid hkk
  clear hkk
  have HA := Lib.hid (heap_alloc_new Y (evO (kindE kk)))
  have HI2 := Lib.hid ((kept_al Y (evO (kindE kk))).only.inB HI1.out (by simp) (by simp))
  have HR4 := Lib.hid (heap_keep HR3.out (evO (kindE kk)))
  have HK4 := Lib.hid (HK3.out.trans (kept_al Y (evO (kindE kk))))
  have hYs : (Y.alloc (evO (kindE kk))).heap.size = Y.heap.size + 1 := by simp
  go_wp2_with fail
  refine (HF.out _).mono ?_
  rintro E W' ⟨rfl, rfl⟩
  go_wp2_with fail
  have D : GeD w q p Y.heap.size (Y.heap.size + 1) bl := ⟨by rw [HQW.out]; exact Nat.le_refl _, by omega, hpY, by omega, hblp, by omega, by omega⟩
  have HP : Hid (GeW w ((Y.alloc (evO (kindE kk))).iter s 0) 57 q p Y.heap.size (Y.heap.size + 1) bl (getL zs (l.take 0)) s 0) := by
    rw [H0.out]
    have K := kept_al (Y.alloc (evO (kindE kk))) (.stringIter s 0)
    exact ⟨K.only.inB HI2.out (by simp) (by simp), K.only.heap HR4.out (by simp), K.only.heap HA.out (by simp), by rw [← hYs]; exact heap_alloc_new _ _, HK4.out.trans K⟩
  generalize Y.heap.size + 1 = it at *
  generalize Y.heap.size = v at *
  clear HA HI1 HI2 HR3 HR4 HK3 HK4 hYs H0
  go_loopg [] s.size (fun gf wx => ∃ (pos : Nat), Hid (GeW w wx 57 q p v it bl (getL zs (l.take pos)) s pos) ∧ pos + gf = s.size)
  case atStart => exact ⟨0, HP, by omega⟩
  case round =>
    obtain ⟨pos, HP1, hfu⟩ := hrel
    clear HP
    have hOd := HP1.out.d
    by_cases hps : pos < s.size
    · obtain ⟨g', rfl⟩ : ∃ g', gk = g' + 1 := ⟨gk - 1, by omega⟩
      obtain ⟨c, hc, hcs, hnext⟩ := HG.out pos hps
      have hasc : (s[pos]'hps).toNat < 128 := by rw [hcs]; exact ltr_lt hc
      have hnx : ∀ ty, (Instr.next (.pointer (some ⟨it, 0, none⟩)) true ty).run Tryd.prog wr = _ := fun ty => Lib.run_next_ascii_at wr _ s pos ty hOd hps hasc
      rw [hcs] at hnx
      have HP2 := Lib.hid (HP1.out.iter D (pos + 1))
      obtain ⟨W, hWd⟩ : ∃ W, wr.iterAt it s (pos + 1) = W := ⟨_, rfl⟩
      rw [hWd] at hnx HP2
      have HN := Lib.hid hnext
      clear hOd hasc hcs hnext hWd HG HP1
      obtain ⟨x, hx⟩ : ∃ x, getL zs (l.take pos) = x := ⟨_, rfl⟩
      rw [hx] at HP2 HN
      clear hx
      rcases hc with rfl | rfl | rfl | rfl | rfl | rfl | rfl
      · have HX2 := Lib.hid (show gtF x 82 = ({ x.1 with r := (stSmall 64 x.2).1 }, (stSmall 64 x.2).2) from rfl)
        go_wp2_with fail
        refine (inb_Small bl p hblp x.2 64 _ (by omega) (by omega) HP2.out.i).mono ?_
        rintro E W2 ⟨rfl, hI2, ho2⟩
        have HP3 := Lib.hid (HP2.out.read (y := (x.1, (stSmall 64 x.2).2)) D hI2 ho2 rfl)
        clear hI2 ho2
        obtain ⟨a0, a1, a2, a3, a4, a5, a6, a7⟩ := ev_cells HP3.out.a
        have fz : ∀ j, W2.frozen? ⟨v, j, none⟩ = false := fun j => one_free HP3.out.a j
        dsimp only at a0 a1 a2 a3 a4 a5 a6 a7
        obtain ⟨uu, huu⟩ : ∃ uu, (stSmall 64 x.2).1 = uu := ⟨_, rfl⟩
        rw [huu] at HX2
        rw [huu]
        clear huu
        go_wp2_with fail
        have HP4 := Lib.hid (HP3.out.set (y := ({ x.1 with r := uu }, (stSmall 64 x.2).2)) D rfl 1 (.int .i64 uu) rfl)
        go_roundg g'
        case measure => omega
        case rel => exact ⟨pos + 1, by rw [HN.out, HX2.out]; exact HP4, by omega⟩
      · have HX2 := Lib.hid (show gtF x 84 = ({ x.1 with t := (stSmall 16 x.2).1 }, (stSmall 16 x.2).2) from rfl)
        go_wp2_with fail
        refine (inb_Small bl p hblp x.2 16 _ (by omega) (by omega) HP2.out.i).mono ?_
        rintro E W2 ⟨rfl, hI2, ho2⟩
        have HP3 := Lib.hid (HP2.out.read (y := (x.1, (stSmall 16 x.2).2)) D hI2 ho2 rfl)
        clear hI2 ho2
        obtain ⟨a0, a1, a2, a3, a4, a5, a6, a7⟩ := ev_cells HP3.out.a
        have fz : ∀ j, W2.frozen? ⟨v, j, none⟩ = false := fun j => one_free HP3.out.a j
        dsimp only at a0 a1 a2 a3 a4 a5 a6 a7
        obtain ⟨uu, huu⟩ : ∃ uu, (stSmall 16 x.2).1 = uu := ⟨_, rfl⟩
        rw [huu] at HX2
        rw [huu]
        clear huu
        go_wp2_with fail
        have HP4 := Lib.hid (HP3.out.set (y := ({ x.1 with t := uu }, (stSmall 16 x.2).2)) D rfl 2 (.int .i64 uu) rfl)
        go_roundg g'
        case measure => omega
        case rel => exact ⟨pos + 1, by rw [HN.out, HX2.out]; exact HP4, by omega⟩
      · have HX2 := Lib.hid (show gtF x 89 = ({ x.1 with y := (stSmall 9 x.2).1 }, (stSmall 9 x.2).2) from rfl)
        go_wp2_with fail
        refine (inb_Small bl p hblp x.2 9 _ (by omega) (by omega) HP2.out.i).mono ?_
        rintro E W2 ⟨rfl, hI2, ho2⟩
        have HP3 := Lib.hid (HP2.out.read (y := (x.1, (stSmall 9 x.2).2)) D hI2 ho2 rfl)
        clear hI2 ho2
        obtain ⟨a0, a1, a2, a3, a4, a5, a6, a7⟩ := ev_cells HP3.out.a
        have fz : ∀ j, W2.frozen? ⟨v, j, none⟩ = false := fun j => one_free HP3.out.a j
        dsimp only at a0 a1 a2 a3 a4 a5 a6 a7
        obtain ⟨uu, huu⟩ : ∃ uu, (stSmall 9 x.2).1 = uu := ⟨_, rfl⟩
        rw [huu] at HX2
        rw [huu]
        clear huu
        go_wp2_with fail
        have HP4 := Lib.hid (HP3.out.set (y := ({ x.1 with y := uu }, (stSmall 9 x.2).2)) D rfl 3 (.int .i64 uu) rfl)
        go_roundg g'
        case measure => omega
        case rel => exact ⟨pos + 1, by rw [HN.out, HX2.out]; exact HP4, by omega⟩
      · have HX2 := Lib.hid (show gtF x 78 = ({ x.1 with n := min (stU x.2).1 1099511627777 }, (stU x.2).2) from rfl)
        go_wp2_with fail
        refine (inb_U_any bl p hblp x.2 _ HP2.out.i).mono ?_
        rintro E W2 ⟨rfl, hI2, ho2, hu0, hu1⟩
        have HP3 := Lib.hid (HP2.out.read (y := (x.1, (stU x.2).2)) D hI2 ho2 rfl)
        clear hI2 ho2
        obtain ⟨a0, a1, a2, a3, a4, a5, a6, a7⟩ := ev_cells HP3.out.a
        have fz : ∀ j, W2.frozen? ⟨v, j, none⟩ = false := fun j => one_free HP3.out.a j
        dsimp only at a0 a1 a2 a3 a4 a5 a6 a7
        obtain ⟨uu, huu⟩ : ∃ uu, (stU x.2).1 = uu := ⟨_, rfl⟩
        rw [huu] at HX2 hu0 hu1
        rw [huu]
        clear huu
        go_wp2_with fail
        have HP4 := Lib.hid (HP3.out.set (y := ({ x.1 with n := min uu 1099511627777 }, (stU x.2).2)) D rfl 4 (.int .i64 (min uu 1099511627777)) rfl)
        go_roundg g'
        case measure => omega
        case rel => exact ⟨pos + 1, by rw [HN.out, HX2.out]; exact HP4, by omega⟩
      · have HX2 := Lib.hid (show gtF x 77 = ({ x.1 with nm := (strOf (stS 16 x.2).1) }, (stS 16 x.2).2) from rfl)
        go_wp2_with fail
        refine (inb_S bl p hblp x.2 16 _ (by omega) (by omega) HP2.out.i).mono ?_
        rintro E W2 ⟨rfl, hI2, ho2⟩
        have HP3 := Lib.hid (HP2.out.read (y := (x.1, (stS 16 x.2).2)) D hI2 ho2 rfl)
        clear hI2 ho2
        obtain ⟨a0, a1, a2, a3, a4, a5, a6, a7⟩ := ev_cells HP3.out.a
        have fz : ∀ j, W2.frozen? ⟨v, j, none⟩ = false := fun j => one_free HP3.out.a j
        dsimp only at a0 a1 a2 a3 a4 a5 a6 a7
        obtain ⟨uu, huu⟩ : ∃ uu, (strOf (stS 16 x.2).1) = uu := ⟨_, rfl⟩
        rw [huu] at HX2
        rw [huu]
        clear huu
        go_wp2_with fail
        have HP4 := Lib.hid (HP3.out.set (y := ({ x.1 with nm := uu }, (stS 16 x.2).2)) D rfl 5 (.string uu) rfl)
        go_roundg g'
        case measure => omega
        case rel => exact ⟨pos + 1, by rw [HN.out, HX2.out]; exact HP4, by omega⟩
      · have HX2 := Lib.hid (show gtF x 75 = ({ x.1 with ky := (strOf (stS 16 x.2).1) }, (stS 16 x.2).2) from rfl)
        go_wp2_with fail
        refine (inb_S bl p hblp x.2 16 _ (by omega) (by omega) HP2.out.i).mono ?_
        rintro E W2 ⟨rfl, hI2, ho2⟩
        have HP3 := Lib.hid (HP2.out.read (y := (x.1, (stS 16 x.2).2)) D hI2 ho2 rfl)
        clear hI2 ho2
        obtain ⟨a0, a1, a2, a3, a4, a5, a6, a7⟩ := ev_cells HP3.out.a
        have fz : ∀ j, W2.frozen? ⟨v, j, none⟩ = false := fun j => one_free HP3.out.a j
        dsimp only at a0 a1 a2 a3 a4 a5 a6 a7
        obtain ⟨uu, huu⟩ : ∃ uu, (strOf (stS 16 x.2).1) = uu := ⟨_, rfl⟩
        rw [huu] at HX2
        rw [huu]
        clear huu
        go_wp2_with fail
        have HP4 := Lib.hid (HP3.out.set (y := ({ x.1 with ky := uu }, (stS 16 x.2).2)) D rfl 6 (.string uu) rfl)
        go_roundg g'
        case measure => omega
        case rel => exact ⟨pos + 1, by rw [HN.out, HX2.out]; exact HP4, by omega⟩
      · have HX2 := Lib.hid (show gtF x 68 = ({ x.1 with dt := (strOf (stS 900 x.2).1) }, (stS 900 x.2).2) from rfl)
        go_wp2_with fail
        refine (inb_S bl p hblp x.2 900 _ (by omega) (by omega) HP2.out.i).mono ?_
        rintro E W2 ⟨rfl, hI2, ho2⟩
        have HP3 := Lib.hid (HP2.out.read (y := (x.1, (stS 900 x.2).2)) D hI2 ho2 rfl)
        clear hI2 ho2
        obtain ⟨a0, a1, a2, a3, a4, a5, a6, a7⟩ := ev_cells HP3.out.a
        have fz : ∀ j, W2.frozen? ⟨v, j, none⟩ = false := fun j => one_free HP3.out.a j
        dsimp only at a0 a1 a2 a3 a4 a5 a6 a7
        obtain ⟨uu, huu⟩ : ∃ uu, (strOf (stS 900 x.2).1) = uu := ⟨_, rfl⟩
        rw [huu] at HX2
        rw [huu]
        clear huu
        go_wp2_with fail
        have HP4 := Lib.hid (HP3.out.set (y := ({ x.1 with dt := uu }, (stS 900 x.2).2)) D rfl 7 (.string uu) rfl)
        go_roundg g'
        case measure => omega
        case rel => exact ⟨pos + 1, by rw [HN.out, HX2.out]; exact HP4, by omega⟩
    · have hz : ¬ pos < s.size := hps
      obtain rfl : pos = s.size := by
        rcases Nat.lt_or_ge s.size pos with h | h
        · omega
        · omega
      have hnx : ∀ ty, (Instr.next (.pointer (some ⟨it, 0, none⟩)) true ty).run Tryd.prog wr = _ := fun ty => Lib.run_next_end_at wr _ s s.size ty hOd hz
      rw [HL.out] at HP1
      have HE := Lib.hid (inb_End bl p hblp (getP zs).2 wr HP1.out.i)
      have HGd := Lib.hid (fun W => ev_good (getP zs).1 W)
      have HV : Hid (getE zs = if ((!(getP zs).2.2 && (getP zs).2.1.isEmpty) && goodE (getP zs).1) = true then ((getP zs).1, 0) else (kindE 0, 2)) := rfl
      clear hOd HG HL
      generalize getP zs = x at *
      generalize (!x.2.2 && x.2.1.isEmpty) = b1 at *
      have Hh : ∀ V, Kept wr V → V.heap[q]? = some (evO (kindE 0)) ∧ V.heap[v]? = some (evO x.1) := fun V k => ⟨k.only.heap HP1.out.r (by simp), k.only.heap HP1.out.a (by simp)⟩
      have HH := Lib.hid Hh
      clear Hh
      have K8 : ∀ (V : World) (y : EV), Kept w V → Kept w ((((((((V.setCell ⟨q, 0, none⟩ (.int .i64 y.k)).setCell ⟨q, 1, none⟩ (.int .i64 y.r)).setCell ⟨q, 2, none⟩ (.int .i64 y.t)).setCell ⟨q, 3, none⟩ (.int .i64 y.y)).setCell ⟨q, 4, none⟩ (.int .i64 y.n)).setCell ⟨q, 5, none⟩ (.string y.nm)).setCell ⟨q, 6, none⟩ (.string y.ky)).setCell ⟨q, 7, none⟩ (.string y.dt)) := by
        intro V y k
        unfold Kept
        repeat (refine Below.setCell ?_ (by show w.heap.size ≤ q; rw [HQW.out]; exact Nat.le_refl _) _)
        exact k
      have HK8 := Lib.hid K8
      clear K8
      cases b1 with
      | false =>
        obtain ⟨r0, v0⟩ := HH.out wr (Kept.refl _)
        obtain ⟨a0, a1, a2, a3, a4, a5, a6, a7⟩ := ev_cells v0
        obtain ⟨b0, b1, b2, b3, b4, b5, b6, b7⟩ := ev_cells r0
        have fz : ∀ j, wr.frozen? ⟨q, j, none⟩ = false := fun j => one_free r0 j
        have HR0 := Lib.hid r0
        clear r0 v0
        go_wp2_with fail
        refine HE.out.mono ?_
        rintro E W' ⟨rfl, rfl⟩
        go_wp2_with fail
        have hfin : ((((((((wr.setCell ⟨q, 0, none⟩ (.int .i64 0)).setCell ⟨q, 1, none⟩ (.int .i64 0)).setCell ⟨q, 2, none⟩ (.int .i64 0)).setCell ⟨q, 3, none⟩ (.int .i64 0)).setCell ⟨q, 4, none⟩ (.int .i64 0)).setCell ⟨q, 5, none⟩ (.string ⟨#[]⟩)).setCell ⟨q, 6, none⟩ (.string ⟨#[]⟩)).setCell ⟨q, 7, none⟩ (.string ⟨#[]⟩)).heap[q]? = some (evO (kindE 0)) := ev_set8 HR0.out (kindE 0)
        have KF : Kept w ((((((((wr.setCell ⟨q, 0, none⟩ (.int .i64 0)).setCell ⟨q, 1, none⟩ (.int .i64 0)).setCell ⟨q, 2, none⟩ (.int .i64 0)).setCell ⟨q, 3, none⟩ (.int .i64 0)).setCell ⟨q, 4, none⟩ (.int .i64 0)).setCell ⟨q, 5, none⟩ (.string ⟨#[]⟩)).setCell ⟨q, 6, none⟩ (.string ⟨#[]⟩)).setCell ⟨q, 7, none⟩ (.string ⟨#[]⟩)) := HK8.out wr (kindE 0) HP1.out.k
        generalize (((((((wr.setCell ⟨q, 0, none⟩ (.int .i64 0)).setCell ⟨q, 1, none⟩ (.int .i64 0)).setCell ⟨q, 2, none⟩ (.int .i64 0)).setCell ⟨q, 3, none⟩ (.int .i64 0)).setCell ⟨q, 4, none⟩ (.int .i64 0)).setCell ⟨q, 5, none⟩ (.string ⟨#[]⟩)).setCell ⟨q, 6, none⟩ (.string ⟨#[]⟩)).setCell ⟨q, 7, none⟩ (.string ⟨#[]⟩) = Z at *
        obtain ⟨d0, d1, d2, d3, d4, d5, d6, d7⟩ := ev_cells hfin
        dsimp only [kindE] at d0 d1 d2 d3 d4 d5 d6 d7
        exact bodyPost_ret (v := .tuple #[evV (kindE 0), .int .i64 2]) (by simp [results, Tryd.results11, go_sem, d0, d1, d2, d3, d4, d5, d6, d7, kindE]) rfl ⟨by rw [HV.out, if_neg (by simp)], KF⟩
      | true =>
        obtain ⟨r0, v0⟩ := HH.out wr (Kept.refl _)
        obtain ⟨a0, a1, a2, a3, a4, a5, a6, a7⟩ := ev_cells v0
        clear r0 v0
        generalize goodE x.1 = gd at *
        go_wp2_with fail
        refine HE.out.mono ?_
        rintro E W' ⟨rfl, rfl⟩
        go_wp2_with fail
        refine (HGd.out _).mono ?_
        rintro E V ⟨rfl, hKV⟩
        obtain ⟨r0, v0⟩ := HH.out V hKV
        have HKV := Lib.hid (HP1.out.k.trans hKV)
        clear a0 a1 a2 a3 a4 a5 a6 a7
        obtain ⟨a0, a1, a2, a3, a4, a5, a6, a7⟩ := ev_cells v0
        obtain ⟨b0, b1, b2, b3, b4, b5, b6, b7⟩ := ev_cells r0
        have fz : ∀ j, V.frozen? ⟨q, j, none⟩ = false := fun j => one_free r0 j
        have HR0 := Lib.hid r0
        clear r0 v0 hKV
        cases gd with
        | false =>
          go_wp2_with fail
          have hfin : ((((((((V.setCell ⟨q, 0, none⟩ (.int .i64 0)).setCell ⟨q, 1, none⟩ (.int .i64 0)).setCell ⟨q, 2, none⟩ (.int .i64 0)).setCell ⟨q, 3, none⟩ (.int .i64 0)).setCell ⟨q, 4, none⟩ (.int .i64 0)).setCell ⟨q, 5, none⟩ (.string ⟨#[]⟩)).setCell ⟨q, 6, none⟩ (.string ⟨#[]⟩)).setCell ⟨q, 7, none⟩ (.string ⟨#[]⟩)).heap[q]? = some (evO (kindE 0)) := ev_set8 HR0.out (kindE 0)
          have KF : Kept w ((((((((V.setCell ⟨q, 0, none⟩ (.int .i64 0)).setCell ⟨q, 1, none⟩ (.int .i64 0)).setCell ⟨q, 2, none⟩ (.int .i64 0)).setCell ⟨q, 3, none⟩ (.int .i64 0)).setCell ⟨q, 4, none⟩ (.int .i64 0)).setCell ⟨q, 5, none⟩ (.string ⟨#[]⟩)).setCell ⟨q, 6, none⟩ (.string ⟨#[]⟩)).setCell ⟨q, 7, none⟩ (.string ⟨#[]⟩)) := HK8.out V (kindE 0) HKV.out
          generalize (((((((V.setCell ⟨q, 0, none⟩ (.int .i64 0)).setCell ⟨q, 1, none⟩ (.int .i64 0)).setCell ⟨q, 2, none⟩ (.int .i64 0)).setCell ⟨q, 3, none⟩ (.int .i64 0)).setCell ⟨q, 4, none⟩ (.int .i64 0)).setCell ⟨q, 5, none⟩ (.string ⟨#[]⟩)).setCell ⟨q, 6, none⟩ (.string ⟨#[]⟩)).setCell ⟨q, 7, none⟩ (.string ⟨#[]⟩) = Z at *
          obtain ⟨d0, d1, d2, d3, d4, d5, d6, d7⟩ := ev_cells hfin
          dsimp only [kindE] at d0 d1 d2 d3 d4 d5 d6 d7
          exact bodyPost_ret (v := .tuple #[evV (kindE 0), .int .i64 2]) (by simp [results, Tryd.results11, go_sem, d0, d1, d2, d3, d4, d5, d6, d7, kindE]) rfl ⟨by rw [HV.out, if_neg (by simp)], KF⟩
        | true =>
          go_wp2_with fail
          have hfin : ((((((((V.setCell ⟨q, 0, none⟩ (.int .i64 x.1.k)).setCell ⟨q, 1, none⟩ (.int .i64 x.1.r)).setCell ⟨q, 2, none⟩ (.int .i64 x.1.t)).setCell ⟨q, 3, none⟩ (.int .i64 x.1.y)).setCell ⟨q, 4, none⟩ (.int .i64 x.1.n)).setCell ⟨q, 5, none⟩ (.string x.1.nm)).setCell ⟨q, 6, none⟩ (.string x.1.ky)).setCell ⟨q, 7, none⟩ (.string x.1.dt)).heap[q]? = some (evO x.1) := ev_set8 HR0.out x.1
          have KF : Kept w ((((((((V.setCell ⟨q, 0, none⟩ (.int .i64 x.1.k)).setCell ⟨q, 1, none⟩ (.int .i64 x.1.r)).setCell ⟨q, 2, none⟩ (.int .i64 x.1.t)).setCell ⟨q, 3, none⟩ (.int .i64 x.1.y)).setCell ⟨q, 4, none⟩ (.int .i64 x.1.n)).setCell ⟨q, 5, none⟩ (.string x.1.nm)).setCell ⟨q, 6, none⟩ (.string x.1.ky)).setCell ⟨q, 7, none⟩ (.string x.1.dt)) := HK8.out V x.1 HKV.out
          generalize (((((((V.setCell ⟨q, 0, none⟩ (.int .i64 x.1.k)).setCell ⟨q, 1, none⟩ (.int .i64 x.1.r)).setCell ⟨q, 2, none⟩ (.int .i64 x.1.t)).setCell ⟨q, 3, none⟩ (.int .i64 x.1.y)).setCell ⟨q, 4, none⟩ (.int .i64 x.1.n)).setCell ⟨q, 5, none⟩ (.string x.1.nm)).setCell ⟨q, 6, none⟩ (.string x.1.ky)).setCell ⟨q, 7, none⟩ (.string x.1.dt) = Z at *
          obtain ⟨d0, d1, d2, d3, d4, d5, d6, d7⟩ := ev_cells hfin
          exact bodyPost_ret (v := .tuple #[evV x.1, .int .i64 0]) (by simp [results, Tryd.results11, go_sem, d0, d1, d2, d3, d4, d5, d6, d7]) rfl ⟨by rw [HV.out, if_pos (by simp)], KF⟩
end Go.Proofs.YteaepgbakcifkaaDoor
