/- Events: Put. -/
import Derived.Test.YteaepgbakcifkaaDoorEv5
import Derived.Test.YteaepgbakcifkaaDoorEvOut
import Derived.Test.YteaepgbakcifkaaDoorEvM2
set_option linter.unusedVariables false
set_option linter.unusedSimpArgs false
namespace Go.Proofs.YteaepgbakcifkaaDoor
open Go.RowKit
/-- Put's loop -/
structure PuW (X wr : World) (q p it : Nat) (g : Option Nat) (e : EV) (xs : List Int) (B : Nat) (s : ByteArray) (pos : Nat) : Prop where
  o : OutW X wr p g xs B
  a : wr.heap[q]? = some (evO e)
  d : wr.heap[it]? = some (.stringIter s pos)
  n : xs ≠ []
theorem PuW.iter {X wr : World} {q p it : Nat} {g : Option Nat} {e : EV} {xs : List Int} {B : Nat} {s : ByteArray} {pos : Nat} (h : PuW X wr q p it g e xs B s pos) (hq : q < it) (hX : X.heap.size ≤ it) (pos' : Nat) : PuW X (wr.iterAt it s pos') q p it g e xs B s pos' := by
  have ho : Only [it] wr (wr.iterAt it s pos') := ⟨rfl, rfl, rfl, by rw [Lib.iterAt_size]; exact Nat.le_refl _, fun k _ hk => Lib.iterAt_other wr it k s pos' (by simpa using hk)⟩
  have hp : p ≠ it := by
    obtain ⟨a, c, hp, _⟩ := h.o.at'
    intro e
    rw [e, h.d] at hp
    cases hp
  have hg : ∀ k, g = some k → k ∉ [it] := by
    intro k hk hm
    obtain rfl : k = it := by simpa using hm
    obtain ⟨cs, t, m, hc⟩ := outAt_cells h.o.at' h.n k hk
    rw [h.d] at hc
    cases hc
  exact ⟨⟨ho.outAt h.o.at' (by simpa using hp) hg, h.o.only.then ho (fun i hi hm => by
    obtain rfl : i = it := by simpa using hm
    omega), h.o.went, h.o.len⟩, (Lib.iterAt_other wr it q s pos' (by omega)).trans h.a, Lib.iterAt_heap wr it s pos pos' h.d, h.n⟩
theorem PuW.wrote {X wr w' : World} {q p it : Nat} {g g' : Option Nat} {e : EV} {xs ys : List Int} {B C : Nat} {s : ByteArray} {pos : Nat} (h : PuW X wr q p it g e xs B s pos) (hq : q < X.heap.size) (hqp : q ≠ p) (ho : OutW X w' p g' ys C) (hO : Only (p :: g.toList) wr w') (hy : ys ≠ []) : PuW X w' q p it g' e ys C s pos := by
  have hp : p ≠ it := by
    obtain ⟨a, c, hp, _⟩ := h.o.at'
    intro e
    rw [e, h.d] at hp
    cases hp
  have hgq : q ∉ p :: g.toList := by
    intro hm
    rcases List.mem_cons.1 hm with e | hm
    · exact hqp e
    · rcases h.o.went with e | ⟨k, e, hk⟩
      · rw [e] at hm; cases hm
      · rw [e] at hm
        have : q = k := by simpa using hm
        omega
  have hgi : it ∉ p :: g.toList := by
    intro hm
    rcases List.mem_cons.1 hm with e | hm
    · exact hp e.symm
    · cases hg : g with
      | none => rw [hg] at hm; cases hm
      | some k =>
        rw [hg] at hm
        obtain rfl : it = k := by simpa using hm
        obtain ⟨cs, t, m, hc⟩ := outAt_cells h.o.at' h.n it hg
        rw [h.d] at hc
        cases hc
  exact ⟨ho, hO.heap h.a hgq, hO.heap h.d hgi, hy⟩
set_option maxRecDepth 100000 in
set_option maxHeartbeats 8000000 in
theorem ev_put_yes (e : EV) (hg : goodE e = true) (w : World) : Calls Tryd.prog 9 #[evV e] w fun E w' => ∃ a c, E = .returned (.slice a (encEv e).length c) ∧ Sl .u8 w' a (encEv e).length c (encEv e) ∧ Kept w w' := by
  obtain ⟨hne, hon, hok⟩ := (goodE_iff e).1 hg
  have hkd := flds_kind hne
  have HF := Lib.hid (fun W => ev_fields e.k W)
  have HGd := Lib.hid (fun W => ev_good e W)
  rw [hg] at HGd
  have hsz : (⟨(flds e.k).toArray⟩ : ByteArray).size = (flds e.k).length := by show (flds e.k).toArray.size = _; simp
  have hl4 := flds_len e.k
  obtain ⟨s, hs⟩ : ∃ s : ByteArray, (⟨(flds e.k).toArray⟩ : ByteArray) = s := ⟨_, rfl⟩
  have HG := Lib.hid (fun (pos : Nat) (hp : pos < s.size) => (by
    subst hs
    rw [hsz] at hp
    have hc : (⟨(flds e.k).toArray⟩ : ByteArray)[pos] = (flds e.k)[pos]'hp := by
      show (flds e.k).toArray[pos] = _
      simp
    exact ⟨(flds e.k)[pos]'hp, flds_ltr _ _ (List.getElem_mem _), hc, hok _ (List.getElem_mem _), encL_succ e (flds e.k) pos hp⟩ : ∃ c, ltr c ∧ s[pos]'hp = c ∧ okF e c.toNat = true ∧ encL e ((flds e.k).take (pos + 1)) = encL e ((flds e.k).take pos) ++ encFld e c))
  have HL := Lib.hid (show encL e ((flds e.k).take s.size) = encEv e by rw [← hs, hsz, List.take_of_length_le (Nat.le_refl _)]; rfl)
  have h4 : s.size ≤ 4 := by rw [← hs, hsz]; exact hl4
  rw [hs] at HF
  have HNE := Lib.hid (show ∀ i, encL e ((flds e.k).take i) ≠ [] from fun i => by
    unfold encL
    intro h
    exact encU_ne _ (List.append_eq_nil_iff.1 h).1)
  have H0 := Lib.hid (show encL e ((flds e.k).take 0) = [] ++ encU e.k by simp [encL])
  clear hsz hl4 hne hon hok hg hs
  generalize flds e.k = l at *
  obtain ⟨k1, k9⟩ := hkd
  go_enter Tryd.func9, Tryd.ntmps9
  go_wp2_with fail
  refine (HGd.out _).mono ?_
  rintro E V ⟨rfl, hK⟩
  have HQ := Lib.hid (hK.only.heap (heap_alloc_new w (evO e)) (by simp))
  have HK := Lib.hid (Kept.trans (show Kept w (w.alloc (evO e)) by (unfold Kept; repeat (first | exact Below.refl _ _ | assumption | (refine Below.alloc ?_ (by simp) _) | (refine Below.setCell ?_ (by simp) _) | (refine Below.drew ?_) | (refine _root_.Go.below_drewN ?_ _)))) hK)
  have hqV : w.heap.size < V.heap.size := lt_heap HQ.out
  clear hK
  generalize hq : w.heap.size = q at *
  have HQW := Lib.hid hq
  clear hq
  obtain ⟨a0, a1, a2, a3, a4, a5, a6, a7⟩ := ev_cells HQ.out
  have HO := Lib.hid (outW_new V)
  have HK2 := Lib.hid (HK.out.trans (show Kept V (V.alloc (.cells #[.slice none 0 0] 48 (0, 0))) by (unfold Kept; repeat (first | exact Below.refl _ _ | assumption | (refine Below.alloc ?_ (by simp) _) | (refine Below.setCell ?_ (by simp) _) | (refine Below.drew ?_) | (refine _root_.Go.below_drewN ?_ _)))))
  have HQ2 := Lib.hid (heap_keep HQ.out (.cells #[.slice none 0 0] 48 (0, 0)))
  go_wp2_with fail
  generalize hXe : V.alloc (.cells #[.slice none 0 0] 48 (0, 0)) = X at *
  have hpX : V.heap.size + 1 = X.heap.size := by rw [← hXe]; simp
  generalize V.heap.size = p at *
  have hqX : q < X.heap.size := by omega
  have hqp : q ≠ p := by omega
  clear hXe
  refine (outW_U p none [] 0 e.k X (by omega) (by omega) HO.out (by omega)).mono ?_
  rintro E W1 ⟨rfl, g1, hO1, ho1⟩
  rw [← H0.out] at hO1
  have HO1 := Lib.hid hO1
  have HQ3 := Lib.hid (ho1.heap HQ2.out (by simpa using hqp))
  have HK3 := Lib.hid (HK2.out.onl ho1 (by intro i hi; rw [HQW.out]; obtain rfl : i = p := (by simpa using hi); omega))
  clear hO1 ho1
  obtain ⟨c0, c1, c2, c3, c4, c5, c6, c7⟩ := ev_cells HQ3.out
  go_wp2_with fail
  refine (HF.out _).mono ?_
  rintro E W' ⟨rfl, rfl⟩
  go_wp2_with fail
  have hit : q < W1.heap.size := lt_heap HQ3.out
  have hXit : X.heap.size ≤ W1.heap.size := HO1.out.only.size
  have HP : Hid (PuW X (W1.iter s 0) q p W1.heap.size g1 e (encL e (l.take 0)) (1034 * (0 + 1)) s 0) :=
    ⟨HO1.out.keep (Below.alloc (Below.refl _ _) (Nat.le_refl _) _), heap_keep HQ3.out _, heap_alloc_new W1 _, HNE.out 0⟩
  have HKi := Lib.hid (show Kept w (W1.iter s 0) from Below.alloc HK3.out (by rw [HQW.out]; omega) _)
  clear c0 c1 c2 c3 c4 c5 c6 c7 a0 a1 a2 a3 a4 a5 a6 a7
  generalize hitn : W1.heap.size = it at *
  clear hitn
  go_loopg [] s.size (fun gf wx => ∃ (pos : Nat) (g : Option Nat), Hid (PuW X wx q p it g e (encL e (l.take pos)) (1034 * (pos + 1)) s pos) ∧ Hid (Kept w wx) ∧ pos + gf = s.size)
  case atStart => exact ⟨0, g1, HP, HKi, by omega⟩
  case round =>
    obtain ⟨pos, g, HP1, HKw0, hfu⟩ := hrel
    clear HP HKi
    have hOd := HP1.out.d
    by_cases hps : pos < s.size
    · obtain ⟨g', rfl⟩ : ∃ g', gk = g' + 1 := ⟨gk - 1, by omega⟩
      obtain ⟨c, hc, hcs, hok, hnext⟩ := HG.out pos hps
      have hasc : (s[pos]'hps).toNat < 128 := by rw [hcs]; exact ltr_lt hc
      have hnx : ∀ ty, (Instr.next (.pointer (some ⟨it, 0, none⟩)) true ty).run Tryd.prog wr = _ := fun ty => Lib.run_next_ascii_at wr _ s pos ty hOd hps hasc
      rw [hcs] at hnx
      have HP2 := Lib.hid (HP1.out.iter hit hXit (pos + 1))
      have HKw := Lib.hid (show Kept w (wr.iterAt it s (pos + 1)) from Lib.below_iterAt HKw0.out (by rw [HQW.out]; omega) s (pos + 1))
      obtain ⟨W, hWd⟩ : ∃ W, wr.iterAt it s (pos + 1) = W := ⟨_, rfl⟩
      rw [hWd] at hnx HP2 HKw
      obtain ⟨a0, a1, a2, a3, a4, a5, a6, a7⟩ := ev_cells HP2.out.a
      have HN := Lib.hid hnext
      have HOK := Lib.hid hok
      have HGS : Hid (∀ i, i ∈ p :: g.toList → w.heap.size ≤ i) := by
        intro i hi
        rw [HQW.out]
        rcases List.mem_cons.1 hi with rfl | hi
        · omega
        · rcases HP2.out.o.went with e | ⟨k, e, hk⟩
          · rw [e] at hi; cases hi
          · rw [e] at hi
            obtain rfl : i = k := by simpa using hi
            omega
      clear hOd hasc hcs hnext hWd HG HP1 HKw0 hok
      obtain ⟨xs, hxs⟩ : ∃ xs, encL e (l.take pos) = xs := ⟨_, rfl⟩
      rw [hxs] at HP2 HN
      have HX := Lib.hid (rfl : xs = xs)
      clear hxs
      rcases hc with rfl | rfl | rfl | rfl | rfl | rfl | rfl
      · have HEN := Lib.hid (show encFld e 82 = encU e.r from rfl)
        have hb := okF_r HOK.out
        obtain ⟨hb1, hb2⟩ := hb
        go_wp2_with fail
        refine (outW_U p g xs _ e.r _ (by omega) (by omega) HP2.out.o (by omega)).mono ?_
        rintro E W2 ⟨rfl, g2, hO2, ho2⟩
        have HP3 := Lib.hid (HP2.out.wrote hqX hqp hO2 ho2 (by have := HP2.out.n; intro h; exact this (List.append_eq_nil_iff.1 h).1))
        have HK4 := Lib.hid (HKw.out.onl ho2 HGS.out)
        clear hO2 ho2
        go_wp2_with fail
        go_roundg g'
        case measure => omega
        case rel => exact ⟨pos + 1, g2, by rw [HN.out, HEN.out]; exact Lib.hid (by have := HP3.out; rwa [show 1034 * (pos + 1 + 1) = 1034 * (pos + 1) + 1034 by omega]), HK4, by omega⟩
      · have HEN := Lib.hid (show encFld e 84 = encU e.t from rfl)
        have hb := okF_t HOK.out
        obtain ⟨hb1, hb2⟩ := hb
        go_wp2_with fail
        refine (outW_U p g xs _ e.t _ (by omega) (by omega) HP2.out.o (by omega)).mono ?_
        rintro E W2 ⟨rfl, g2, hO2, ho2⟩
        have HP3 := Lib.hid (HP2.out.wrote hqX hqp hO2 ho2 (by have := HP2.out.n; intro h; exact this (List.append_eq_nil_iff.1 h).1))
        have HK4 := Lib.hid (HKw.out.onl ho2 HGS.out)
        clear hO2 ho2
        go_wp2_with fail
        go_roundg g'
        case measure => omega
        case rel => exact ⟨pos + 1, g2, by rw [HN.out, HEN.out]; exact Lib.hid (by have := HP3.out; rwa [show 1034 * (pos + 1 + 1) = 1034 * (pos + 1) + 1034 by omega]), HK4, by omega⟩
      · have HEN := Lib.hid (show encFld e 89 = encU e.y from rfl)
        have hb := okF_y HOK.out
        obtain ⟨hb1, hb2⟩ := hb
        go_wp2_with fail
        refine (outW_U p g xs _ e.y _ (by omega) (by omega) HP2.out.o (by omega)).mono ?_
        rintro E W2 ⟨rfl, g2, hO2, ho2⟩
        have HP3 := Lib.hid (HP2.out.wrote hqX hqp hO2 ho2 (by have := HP2.out.n; intro h; exact this (List.append_eq_nil_iff.1 h).1))
        have HK4 := Lib.hid (HKw.out.onl ho2 HGS.out)
        clear hO2 ho2
        go_wp2_with fail
        go_roundg g'
        case measure => omega
        case rel => exact ⟨pos + 1, g2, by rw [HN.out, HEN.out]; exact Lib.hid (by have := HP3.out; rwa [show 1034 * (pos + 1 + 1) = 1034 * (pos + 1) + 1034 by omega]), HK4, by omega⟩
      · have HEN := Lib.hid (show encFld e 78 = encU e.n from rfl)
        have hb := okF_n HOK.out
        obtain ⟨hb1, hb2⟩ := hb
        go_wp2_with fail
        refine (outW_U p g xs _ e.n _ (by omega) (by omega) HP2.out.o (by omega)).mono ?_
        rintro E W2 ⟨rfl, g2, hO2, ho2⟩
        have HP3 := Lib.hid (HP2.out.wrote hqX hqp hO2 ho2 (by have := HP2.out.n; intro h; exact this (List.append_eq_nil_iff.1 h).1))
        have HK4 := Lib.hid (HKw.out.onl ho2 HGS.out)
        clear hO2 ho2
        go_wp2_with fail
        go_roundg g'
        case measure => omega
        case rel => exact ⟨pos + 1, g2, by rw [HN.out, HEN.out]; exact Lib.hid (by have := HP3.out; rwa [show 1034 * (pos + 1 + 1) = 1034 * (pos + 1) + 1034 by omega]), HK4, by omega⟩
      · have HEN := Lib.hid (show encFld e 77 = encS (ofStr e.nm) from rfl)
        go_wp2_with fail
        refine (outW_S p g xs _ e.nm _ (by have := okF_nm HOK.out; omega) HP2.out.o (by omega)).mono ?_
        rintro E W2 ⟨rfl, g2, hO2, ho2⟩
        have HP3 := Lib.hid (HP2.out.wrote hqX hqp hO2 ho2 (by have := HP2.out.n; intro h; exact this (List.append_eq_nil_iff.1 h).1))
        have HK4 := Lib.hid (HKw.out.onl ho2 HGS.out)
        clear hO2 ho2
        go_wp2_with fail
        go_roundg g'
        case measure => omega
        case rel => exact ⟨pos + 1, g2, by rw [HN.out, HEN.out]; exact Lib.hid (by have := HP3.out; rwa [show 1034 * (pos + 1 + 1) = 1034 * (pos + 1) + 1034 by omega]), HK4, by omega⟩
      · have HEN := Lib.hid (show encFld e 75 = encS (ofStr e.ky) from rfl)
        go_wp2_with fail
        refine (outW_S p g xs _ e.ky _ (by have := okF_ky HOK.out; omega) HP2.out.o (by omega)).mono ?_
        rintro E W2 ⟨rfl, g2, hO2, ho2⟩
        have HP3 := Lib.hid (HP2.out.wrote hqX hqp hO2 ho2 (by have := HP2.out.n; intro h; exact this (List.append_eq_nil_iff.1 h).1))
        have HK4 := Lib.hid (HKw.out.onl ho2 HGS.out)
        clear hO2 ho2
        go_wp2_with fail
        go_roundg g'
        case measure => omega
        case rel => exact ⟨pos + 1, g2, by rw [HN.out, HEN.out]; exact Lib.hid (by have := HP3.out; rwa [show 1034 * (pos + 1 + 1) = 1034 * (pos + 1) + 1034 by omega]), HK4, by omega⟩
      · have HEN := Lib.hid (show encFld e 68 = encS (ofStr e.dt) from rfl)
        go_wp2_with fail
        refine (outW_S p g xs _ e.dt _ (by have := okF_dt HOK.out; omega) HP2.out.o (by omega)).mono ?_
        rintro E W2 ⟨rfl, g2, hO2, ho2⟩
        have HP3 := Lib.hid (HP2.out.wrote hqX hqp hO2 ho2 (by have := HP2.out.n; intro h; exact this (List.append_eq_nil_iff.1 h).1))
        have HK4 := Lib.hid (HKw.out.onl ho2 HGS.out)
        clear hO2 ho2
        go_wp2_with fail
        go_roundg g'
        case measure => omega
        case rel => exact ⟨pos + 1, g2, by rw [HN.out, HEN.out]; exact Lib.hid (by have := HP3.out; rwa [show 1034 * (pos + 1 + 1) = 1034 * (pos + 1) + 1034 by omega]), HK4, by omega⟩
    · have hz : ¬ pos < s.size := hps
      obtain rfl : pos = s.size := by have := HP1.out.o.len; omega
      have hnx : ∀ ty, (Instr.next (.pointer (some ⟨it, 0, none⟩)) true ty).run Tryd.prog wr = _ := fun ty => Lib.run_next_end_at wr _ s s.size ty hOd hz
      have hAt := HP1.out.o.at'
      rw [HL.out] at hAt
      obtain ⟨a, c, hp, hS, -⟩ := outAt_sl hAt
      have HS := Lib.hid hS
      have hcell := one_cell hp
      clear hAt hp hS HP1 HG HL HNE hOd
      obtain ⟨zs, hzs⟩ : ∃ zs, encEv e = zs := ⟨_, rfl⟩
      rw [hzs] at HS hcell
      have HZ := Lib.hid hzs
      clear hzs
      go_wp2_with fail
      go_ret
      exact ⟨a, c, by rw [HZ.out]; rfl, by rw [HZ.out]; exact HS.out, HKw0.out⟩
set_option maxRecDepth 100000 in
set_option maxHeartbeats 4000000 in
theorem ev_put_no (e : EV) (hg : goodE e = false) (w : World) : Calls Tryd.prog 9 #[evV e] w fun E w' => E = .returned (.slice none 0 0) ∧ Kept w w' := by
  have HGd := Lib.hid (fun W => ev_good e W)
  rw [hg] at HGd
  clear hg
  go_enter Tryd.func9, Tryd.ntmps9
  go_wp2_with fail
  refine (HGd.out _).mono ?_
  rintro E V ⟨rfl, hK⟩
  have HK := Lib.hid (Kept.trans (show Kept w (w.alloc (evO e)) by (unfold Kept; repeat (first | exact Below.refl _ _ | assumption | (refine Below.alloc ?_ (by simp) _) | (refine Below.setCell ?_ (by simp) _) | (refine Below.drew ?_) | (refine _root_.Go.below_drewN ?_ _)))) hK)
  clear hK
  go_wp2_with fail
  go_ret
  exact ⟨rfl, HK.out⟩
end Go.Proofs.YteaepgbakcifkaaDoor
