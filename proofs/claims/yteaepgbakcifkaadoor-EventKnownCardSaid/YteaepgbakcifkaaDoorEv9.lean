/- Events: Show, the walk. -/
import Derived.Test.YteaepgbakcifkaaDoorEv8
set_option linter.unusedVariables false
set_option linter.unusedSimpArgs false
namespace Go.Proofs.YteaepgbakcifkaaDoor
open Go.RowKit
theorem kept_alS (w : World) (o : Obj) : Kept w (w.alloc o) := by (unfold Kept; repeat (first | exact Below.refl _ _ | assumption | (refine Below.alloc ?_ (by simp) _) | (refine Below.setCell ?_ (by simp) _) | (refine Below.drew ?_) | (refine _root_.Go.below_drewN ?_ _)))
/-- Show's loop -/
structure ShW (w wr : World) (q it : Nat) (a : Option Addr) (n c : Nat) (g : Option Nat) (e : EV) (L : List ByteArray) (s : ByteArray) (pos : Nat) : Prop where
  ap : App wr 9 1 (.slice a n c) n g (strsV L)
  ea : wr.heap[q]? = some (evO e)
  d : wr.heap[it]? = some (.stringIter s pos)
  k : Kept w wr
  n : L ≠ []
  f : ∀ k, g = some k → w.heap.size ≤ k
theorem app_block {w : World} {n : Nat} {a : Option Addr} {c : Nat} {g : Option Nat} {L : List ByteArray} (h : App w 9 1 (.slice a n c) n g (strsV L)) (hn : L ≠ []) : ∃ k cs, g = some k ∧ w.heap[k]? = some (.cells cs 9 (0, 0)) := by
  have hl : L.length = n := by have := h.len; simpa [strsV] using this
  obtain ⟨h1, h2⟩ := h
  rcases h1.2 with ⟨hv, h0⟩ | ⟨b, cap, cur, hv, _, hb, _⟩
  · exact absurd (List.eq_nil_of_length_eq_zero (by omega)) hn
  · injection hv with e1 e2 e3
    subst e1
    exact ⟨b, cur, h2.symm, hb⟩
theorem ShW.far {w wr : World} {q it : Nat} {a : Option Addr} {n c : Nat} {g : Option Nat} {e : EV} {L : List ByteArray} {s : ByteArray} {pos : Nat} (h : ShW w wr q it a n c g e L s pos) : (∀ k, g = some k → k ≠ q ∧ k ≠ it) := by
  obtain ⟨b, cs, hb, hh⟩ := app_block h.ap h.n
  intro k hk
  rw [hb] at hk
  injection hk with hk
  subst hk
  constructor
  · intro e
    rw [e, h.ea] at hh
    injection hh with hh
    injection hh with _ hh
    exact absurd hh (by decide)
  · intro e
    rw [e, h.d] at hh
    cases hh
theorem ShW.iter {w wr : World} {q it : Nat} {a : Option Addr} {n c : Nat} {g : Option Nat} {e : EV} {L : List ByteArray} {s : ByteArray} {pos : Nat} (h : ShW w wr q it a n c g e L s pos) (hq : q < it) (hw : w.heap.size ≤ it) (pos' : Nat) : ShW w (wr.iterAt it s pos') q it a n c g e L s pos' := by
  have ho : Only [it] wr (wr.iterAt it s pos') := ⟨rfl, rfl, rfl, by rw [Lib.iterAt_size]; exact Nat.le_refl _, fun k _ hk => Lib.iterAt_other wr it k s pos' (by simpa using hk)⟩
  exact ⟨ho.app h.ap (fun k hk => by simpa using (h.far k hk).2), ho.heap h.ea (by simp; omega), Lib.iterAt_heap wr it s pos pos' h.d, Lib.below_iterAt h.k hw s pos', h.n, h.f⟩
theorem ShW.kept {w wr V : World} {q it : Nat} {a : Option Addr} {n c : Nat} {g : Option Nat} {e : EV} {L : List ByteArray} {s : ByteArray} {pos : Nat} (h : ShW w wr q it a n c g e L s pos) (k : Kept wr V) : ShW w V q it a n c g e L s pos :=
  ⟨k.only.app h.ap (by simp), k.only.heap h.ea (by simp), k.only.heap h.d (by simp), h.k.trans k, h.n, h.f⟩
theorem ShW.app {w wr V : World} {q it : Nat} {a : Option Addr} {n c : Nat} {g : Option Nat} {e : EV} {L : List ByteArray} {s : ByteArray} {pos : Nat} (h : ShW w wr q it a n c g e L s pos) {y : ByteArray} {a' : Option Addr} {c' : Nat} {g' : Option Nat} (hA : App V 9 1 (.slice a' (n + 1) c') (n + 1) g' (strsV L ++ (#[.string y] : Array Value).toList)) (ho : Only g.toList wr V) (hg : g' = g ∨ g' = some wr.heap.size) : ShW w V q it a' (n + 1) c' g' e (L ++ [y]) s pos := by
  have hfar := h.far
  have hs : ∀ i, i ∈ g.toList → g = some i := by
    intro i hi
    cases g with
    | none => cases hi
    | some k => simp at hi; rw [hi]
  refine ⟨by have : strsV (L ++ [y]) = strsV L ++ [.string y] := by simp [strsV]
             rw [this]; exact hA, ho.heap h.ea (fun hm => (hfar _ (hs _ hm)).1 rfl), ho.heap h.d (fun hm => (hfar _ (hs _ hm)).2 rfl), h.k.onl ho (fun i hi => h.f i (hs i hi)), by simp, ?_⟩
  intro k hk
  rcases hg with e | e
  · exact h.f k (by rw [← e]; exact hk)
  · rw [e] at hk
    injection hk with hk
    have := h.k.size
    omega
set_option maxRecDepth 100000 in
set_option maxHeartbeats 8000000 in
theorem ev_show_yes (e : EV) (hg : goodE e = true) {w : World} (hv : EvV w) : Calls Tryd.prog 10 #[evV e] w fun E w' => E = .returned (.string (joinB (showL e (flds e.k)))) ∧ Kept w w' := by
  have HSz := Lib.hid (showL_size e hg)
  obtain ⟨hne, hon, hok⟩ := (goodE_iff e).1 hg
  have hkd := flds_kind hne
  have HF := Lib.hid (fun W => ev_fields e.k W)
  have HGd := Lib.hid (fun W => ev_good e W)
  have HWd := Lib.hid (fun W => ev_word e.k hkd.1 hkd.2 W)
  have HV := Lib.hid hv
  rw [hg] at HGd
  have hsz : (⟨(flds e.k).toArray⟩ : ByteArray).size = (flds e.k).length := by show (flds e.k).toArray.size = _; simp
  have hl4 := flds_len e.k
  obtain ⟨s, hs⟩ : ∃ s : ByteArray, (⟨(flds e.k).toArray⟩ : ByteArray) = s := ⟨_, rfl⟩
  have HG := Lib.hid (fun (pos : Nat) (hp : pos < s.size) => (by
    subst hs
    rw [hsz] at hp
    have hc : (⟨(flds e.k).toArray⟩ : ByteArray)[pos] = (flds e.k)[pos]'hp := by
      show (flds e.k).toArray[pos] = _
      simp
    exact ⟨(flds e.k)[pos]'hp, flds_ltr _ _ (List.getElem_mem _), hc, hok _ (List.getElem_mem _), showL_succ e (flds e.k) pos hp⟩ : ∃ c, ltr c ∧ s[pos]'hp = c ∧ okF e c.toNat = true ∧ showL e ((flds e.k).take (pos + 1)) = showL e ((flds e.k).take pos) ++ [fldTxt e c]))
  have HL := Lib.hid (show showL e ((flds e.k).take s.size) = showL e (flds e.k) by rw [← hs, hsz, List.take_of_length_le (Nat.le_refl _)])
  have HLn := Lib.hid (show (showL e (flds e.k)).length = s.size + 1 by rw [showL_len, ← hs, hsz])
  have h4 : s.size ≤ 4 := by rw [← hs, hsz]; exact hl4
  rw [hs] at HF
  have HNE := Lib.hid (show ∀ i, showL e ((flds e.k).take i) ≠ [] from fun i => by unfold showL; simp)
  have H0 := Lib.hid (show showL e ((flds e.k).take 0) = [⟨(wordK e.k).toArray⟩] from rfl)
  clear hsz hl4 hne hon hok hg hs hv
  generalize flds e.k = l at *
  obtain ⟨wd, hwd⟩ : ∃ wd : ByteArray, (⟨(wordK e.k).toArray⟩ : ByteArray) = wd := ⟨_, rfl⟩
  rw [hwd] at HWd H0
  clear hwd hkd
  go_enter Tryd.func10, Tryd.ntmps10
  go_wp2_with fail
  refine (HGd.out _).mono ?_
  rintro E V ⟨rfl, hK⟩
  have HQ := Lib.hid (hK.only.heap (heap_alloc_new w (evO e)) (by simp))
  have HK := Lib.hid (Kept.trans (show Kept w (w.alloc (evO e)) by (unfold Kept; repeat (first | exact Below.refl _ _ | assumption | (refine Below.alloc ?_ (by simp) _) | (refine Below.setCell ?_ (by simp) _) | (refine Below.drew ?_) | (refine _root_.Go.below_drewN ?_ _)))) hK)
  clear hK
  generalize hq : w.heap.size = q at *
  have HQW := Lib.hid hq
  clear hq
  obtain ⟨a0, a1, a2, a3, a4, a5, a6, a7⟩ := ev_cells HQ.out
  go_wp2_with fail
  refine (HWd.out _).mono ?_
  rintro E V1 ⟨rfl, hK1⟩
  have HQ1 := Lib.hid (hK1.only.heap HQ.out (by simp))
  have HK1 := Lib.hid (HK.out.trans hK1)
  clear hK1 HQ HK a0 a1 a2 a3 a4 a5 a6 a7
  have HQ2 := Lib.hid (heap_keep HQ1.out (.cells #[.string wd] 9))
  have HK2 := Lib.hid (HK1.out.trans (kept_alS V1 (.cells #[.string wd] 9)))
  have HA2 := Lib.hid (heap_alloc_new V1 (.cells #[.string wd] 9))
  have hs2 : (V1.alloc (.cells #[.string wd] 9)).heap.size = V1.heap.size + 1 := by simp
  have hqV : q < V1.heap.size := lt_heap HQ1.out
  obtain ⟨a0, a1, a2, a3, a4, a5, a6, a7⟩ := ev_cells HQ2.out
  go_wp2_with fail
  refine (HF.out _).mono ?_
  rintro E W' ⟨rfl, rfl⟩
  go_wp2_with fail
  have HP : Hid (ShW w ((V1.alloc (.cells #[.string wd] 9)).iter s 0) q (V1.heap.size + 1) (some ⟨V1.heap.size, 0, none⟩) (0 + 1) 1 (some V1.heap.size) e (showL e (l.take 0)) s 0) := by
    rw [H0.out]
    have K := kept_alS (V1.alloc (.cells #[.string wd] 9)) (.stringIter s 0)
    refine ⟨K.only.app (⟨⟨rfl, .inr ⟨V1.heap.size, 1, #[.string wd], rfl, Nat.zero_le _, HA2.out, by omega, by unfold maxLen; omega, rfl, rfl⟩⟩, rfl⟩ : App _ _ _ _ _ _ _) (by simp), K.only.heap HQ2.out (by simp), by rw [← hs2]; exact heap_alloc_new _ _, HK2.out.trans K, by simp, ?_⟩
    intro k hk
    injection hk with hk
    rw [HQW.out]
    omega
  have hit : q < V1.heap.size + 1 := by omega
  have hwit : Hid (w.heap.size ≤ V1.heap.size + 1) := by unfold Hid; rw [HQW.out]; omega
  clear a0 a1 a2 a3 a4 a5 a6 a7 HQ1 HK1 HQ2 HK2 HA2 hs2
  generalize V1.heap.size + 1 = it at *
  generalize V1.heap.size = b0 at *
  go_loopg [3] s.size (fun gf v3 wx => ∃ (pos : Nat) (a : Option Addr) (c : Nat) (g : Option Nat), v3 = .slice a (pos + 1) c ∧ Hid (ShW w wx q it a (pos + 1) c g e (showL e (l.take pos)) s pos) ∧ pos + gf = s.size)
  case atStart => exact ⟨0, _, _, _, rfl, HP, by omega⟩
  case round =>
    obtain ⟨pos, a, c, g, rfl, HP1, hfu⟩ := hrel
    clear HP
    have hOd := HP1.out.d
    by_cases hps : pos < s.size
    · obtain ⟨g', rfl⟩ : ∃ g', gk = g' + 1 := ⟨gk - 1, by omega⟩
      obtain ⟨ch, hc, hcs, hok, hnext⟩ := HG.out pos hps
      have hasc : (s[pos]'hps).toNat < 128 := by rw [hcs]; exact ltr_lt hc
      have hnx : ∀ ty, (Instr.next (.pointer (some ⟨it, 0, none⟩)) true ty).run Tryd.prog wr = _ := fun ty => Lib.run_next_ascii_at wr _ s pos ty hOd hps hasc
      rw [hcs] at hnx
      have HP2 := Lib.hid (HP1.out.iter hit hwit.out (pos + 1))
      obtain ⟨W, hWd⟩ : ∃ W, wr.iterAt it s (pos + 1) = W := ⟨_, rfl⟩
      rw [hWd] at hnx HP2
      obtain ⟨a0, a1, a2, a3, a4, a5, a6, a7⟩ := ev_cells HP2.out.ea
      have HN := Lib.hid hnext
      have HOK := Lib.hid hok
      clear hOd hasc hcs hnext hWd HG HP1 hok
      obtain ⟨L, hL⟩ : ∃ L, showL e (l.take pos) = L := ⟨_, rfl⟩
      rw [hL] at HP2 HN
      clear hL
      rcases hc with rfl | rfl | rfl | rfl | rfl | rfl | rfl
      · obtain ⟨hb1, hb2⟩ := okF_r HOK.out
        obtain ⟨tx, htx⟩ : ∃ tx : ByteArray, (⟨(Lib.itoa e.r).toArray⟩ : ByteArray) = tx := ⟨_, rfl⟩
        have HT := Lib.hid (show fldTxt e 82 = tx from htx)
        have HC := Lib.hid (ev_itoa e.r (by omega) (by omega) (HV.out.kept HP2.out.k))
        rw [htx] at HC
        clear htx
        go_wp2_with fail
        refine HC.out.mono ?_
        rintro E V ⟨rfl, hKV⟩
        have HP3 := Lib.hid (HP2.out.kept hKV)
        clear hKV HP2
        have HP4 := Lib.hid (HP3.out.kept (kept_alS V (.cells #[.string tx] 9)))
        have hlb := Lib.hid (heap_alloc_new V (.cells #[.string tx] 9))
        go_wp2_with (at_builtin; refine wpList_app rfl (.tmp 23) (.tmp 27) 52 52 rfl elemS _ (pos + 1) _ _ rfl HP4.out.ap _ 1 _ rfl (src_block Tryd.underlying52 hlb.out 1 1 rfl (by simp [Value.oneCell'])) (by omega) (by unfold maxLen; omega) ?_; intro a5 c5 g5 w5 hA5 hO5 hG5)
        have HP5 := Lib.hid (HP4.out.app (y := tx) hA5 hO5 hG5)
        clear hA5 hO5 hG5 HP3 HP4 hlb
        go_roundg g'
        case measure => omega
        case rel => exact ⟨pos + 1, a5, c5, g5, rfl, by rw [HN.out, HT.out]; exact HP5, by omega⟩
      · obtain ⟨hb1, hb2⟩ := okF_t HOK.out
        obtain ⟨tx, htx⟩ : ∃ tx : ByteArray, (⟨(Lib.itoa e.t).toArray⟩ : ByteArray) = tx := ⟨_, rfl⟩
        have HT := Lib.hid (show fldTxt e 84 = tx from htx)
        have HC := Lib.hid (ev_itoa e.t (by omega) (by omega) (HV.out.kept HP2.out.k))
        rw [htx] at HC
        clear htx
        go_wp2_with fail
        refine HC.out.mono ?_
        rintro E V ⟨rfl, hKV⟩
        have HP3 := Lib.hid (HP2.out.kept hKV)
        clear hKV HP2
        have HP4 := Lib.hid (HP3.out.kept (kept_alS V (.cells #[.string tx] 9)))
        have hlb := Lib.hid (heap_alloc_new V (.cells #[.string tx] 9))
        go_wp2_with (at_builtin; refine wpList_app rfl (.tmp 31) (.tmp 35) 52 52 rfl elemS _ (pos + 1) _ _ rfl HP4.out.ap _ 1 _ rfl (src_block Tryd.underlying52 hlb.out 1 1 rfl (by simp [Value.oneCell'])) (by omega) (by unfold maxLen; omega) ?_; intro a5 c5 g5 w5 hA5 hO5 hG5)
        have HP5 := Lib.hid (HP4.out.app (y := tx) hA5 hO5 hG5)
        clear hA5 hO5 hG5 HP3 HP4 hlb
        go_roundg g'
        case measure => omega
        case rel => exact ⟨pos + 1, a5, c5, g5, rfl, by rw [HN.out, HT.out]; exact HP5, by omega⟩
      · obtain ⟨hb1, hb2⟩ := okF_y HOK.out
        obtain ⟨tx, htx⟩ : ∃ tx : ByteArray, (⟨(Lib.itoa e.y).toArray⟩ : ByteArray) = tx := ⟨_, rfl⟩
        have HT := Lib.hid (show fldTxt e 89 = tx from htx)
        have HC := Lib.hid (ev_itoa e.y (by omega) (by omega) (HV.out.kept HP2.out.k))
        rw [htx] at HC
        clear htx
        go_wp2_with fail
        refine HC.out.mono ?_
        rintro E V ⟨rfl, hKV⟩
        have HP3 := Lib.hid (HP2.out.kept hKV)
        clear hKV HP2
        have HP4 := Lib.hid (HP3.out.kept (kept_alS V (.cells #[.string tx] 9)))
        have hlb := Lib.hid (heap_alloc_new V (.cells #[.string tx] 9))
        go_wp2_with (at_builtin; refine wpList_app rfl (.tmp 39) (.tmp 43) 52 52 rfl elemS _ (pos + 1) _ _ rfl HP4.out.ap _ 1 _ rfl (src_block Tryd.underlying52 hlb.out 1 1 rfl (by simp [Value.oneCell'])) (by omega) (by unfold maxLen; omega) ?_; intro a5 c5 g5 w5 hA5 hO5 hG5)
        have HP5 := Lib.hid (HP4.out.app (y := tx) hA5 hO5 hG5)
        clear hA5 hO5 hG5 HP3 HP4 hlb
        go_roundg g'
        case measure => omega
        case rel => exact ⟨pos + 1, a5, c5, g5, rfl, by rw [HN.out, HT.out]; exact HP5, by omega⟩
      · obtain ⟨hb1, hb2⟩ := okF_n HOK.out
        obtain ⟨tx, htx⟩ : ∃ tx : ByteArray, (⟨(Lib.itoa e.n).toArray⟩ : ByteArray) = tx := ⟨_, rfl⟩
        have HT := Lib.hid (show fldTxt e 78 = tx from htx)
        have HC := Lib.hid (ev_fmt e.n (by omega) (by omega) (HV.out.kept HP2.out.k))
        rw [htx] at HC
        clear htx
        go_wp2_with fail
        refine HC.out.mono ?_
        rintro E V ⟨rfl, hKV⟩
        have HP3 := Lib.hid (HP2.out.kept hKV)
        clear hKV HP2
        have HP4 := Lib.hid (HP3.out.kept (kept_alS V (.cells #[.string tx] 9)))
        have hlb := Lib.hid (heap_alloc_new V (.cells #[.string tx] 9))
        go_wp2_with (at_builtin; refine wpList_app rfl (.tmp 47) (.tmp 51) 52 52 rfl elemS _ (pos + 1) _ _ rfl HP4.out.ap _ 1 _ rfl (src_block Tryd.underlying52 hlb.out 1 1 rfl (by simp [Value.oneCell'])) (by omega) (by unfold maxLen; omega) ?_; intro a5 c5 g5 w5 hA5 hO5 hG5)
        have HP5 := Lib.hid (HP4.out.app (y := tx) hA5 hO5 hG5)
        clear hA5 hO5 hG5 HP3 HP4 hlb
        go_roundg g'
        case measure => omega
        case rel => exact ⟨pos + 1, a5, c5, g5, rfl, by rw [HN.out, HT.out]; exact HP5, by omega⟩
      · obtain ⟨tx, htx⟩ : ∃ tx : ByteArray, e.nm = tx := ⟨_, rfl⟩
        have HT := Lib.hid (show fldTxt e 77 = tx from htx)
        rw [htx] at a5
        clear htx
        have HP3 := HP2
        clear HP2
        obtain ⟨V, hV⟩ : ∃ V, W = V := ⟨_, rfl⟩
        subst hV
        have HP4 := Lib.hid (HP3.out.kept (kept_alS W (.cells #[.string tx] 9)))
        have hlb := Lib.hid (heap_alloc_new W (.cells #[.string tx] 9))
        go_wp2_with (at_builtin; refine wpList_app rfl (.tmp 55) (.tmp 58) 52 52 rfl elemS _ (pos + 1) _ _ rfl HP4.out.ap _ 1 _ rfl (src_block Tryd.underlying52 hlb.out 1 1 rfl (by simp [Value.oneCell'])) (by omega) (by unfold maxLen; omega) ?_; intro a5 c5 g5 w5 hA5 hO5 hG5)
        have HP5 := Lib.hid (HP4.out.app (y := tx) hA5 hO5 hG5)
        clear hA5 hO5 hG5 HP3 HP4 hlb
        go_roundg g'
        case measure => omega
        case rel => exact ⟨pos + 1, a5, c5, g5, rfl, by rw [HN.out, HT.out]; exact HP5, by omega⟩
      · obtain ⟨tx, htx⟩ : ∃ tx : ByteArray, e.ky = tx := ⟨_, rfl⟩
        have HT := Lib.hid (show fldTxt e 75 = tx from htx)
        rw [htx] at a6
        clear htx
        have HP3 := HP2
        clear HP2
        obtain ⟨V, hV⟩ : ∃ V, W = V := ⟨_, rfl⟩
        subst hV
        have HP4 := Lib.hid (HP3.out.kept (kept_alS W (.cells #[.string tx] 9)))
        have hlb := Lib.hid (heap_alloc_new W (.cells #[.string tx] 9))
        go_wp2_with (at_builtin; refine wpList_app rfl (.tmp 62) (.tmp 65) 52 52 rfl elemS _ (pos + 1) _ _ rfl HP4.out.ap _ 1 _ rfl (src_block Tryd.underlying52 hlb.out 1 1 rfl (by simp [Value.oneCell'])) (by omega) (by unfold maxLen; omega) ?_; intro a5 c5 g5 w5 hA5 hO5 hG5)
        have HP5 := Lib.hid (HP4.out.app (y := tx) hA5 hO5 hG5)
        clear hA5 hO5 hG5 HP3 HP4 hlb
        go_roundg g'
        case measure => omega
        case rel => exact ⟨pos + 1, a5, c5, g5, rfl, by rw [HN.out, HT.out]; exact HP5, by omega⟩
      · obtain ⟨tx, htx⟩ : ∃ tx : ByteArray, e.dt = tx := ⟨_, rfl⟩
        have HT := Lib.hid (show fldTxt e 68 = tx from htx)
        rw [htx] at a7
        clear htx
        have HP3 := HP2
        clear HP2
        obtain ⟨V, hV⟩ : ∃ V, W = V := ⟨_, rfl⟩
        subst hV
        have HP4 := Lib.hid (HP3.out.kept (kept_alS W (.cells #[.string tx] 9)))
        have hlb := Lib.hid (heap_alloc_new W (.cells #[.string tx] 9))
        go_wp2_with (at_builtin; refine wpList_app rfl (.tmp 69) (.tmp 72) 52 52 rfl elemS _ (pos + 1) _ _ rfl HP4.out.ap _ 1 _ rfl (src_block Tryd.underlying52 hlb.out 1 1 rfl (by simp [Value.oneCell'])) (by omega) (by unfold maxLen; omega) ?_; intro a5 c5 g5 w5 hA5 hO5 hG5)
        have HP5 := Lib.hid (HP4.out.app (y := tx) hA5 hO5 hG5)
        clear hA5 hO5 hG5 HP3 HP4 hlb
        go_roundg g'
        case measure => omega
        case rel => exact ⟨pos + 1, a5, c5, g5, rfl, by rw [HN.out, HT.out]; exact HP5, by omega⟩
    · have hz : ¬ pos < s.size := hps
      obtain rfl : pos = s.size := by
        rcases Nat.lt_or_ge s.size pos with h | h
        · omega
        · omega
      have hnx : ∀ ty, (Instr.next (.pointer (some ⟨it, 0, none⟩)) true ty).run Tryd.prog wr = _ := fun ty => Lib.run_next_end_at wr _ s s.size ty hOd hz
      rw [HL.out] at HP1
      have HJ := Lib.hid (ev_join a (s.size + 1) c g (showL e l) wr HP1.out.ap (by rw [HLn.out]; omega) (by rw [HLn.out]; omega) HSz.out)
      generalize hjb : joinB (showL e l) = jb at HJ
      have HJB := Lib.hid hjb
      clear hjb hOd HG HL
      go_wp2_with fail
      refine HJ.out.mono ?_
      rintro E V2 ⟨rfl, hK2⟩
      have HK2 := Lib.hid (HP1.out.k.trans hK2)
      clear hK2
      go_wp2_with fail
      go_ret
      exact ⟨by rw [HJB.out]; rfl, HK2.out⟩
set_option maxRecDepth 100000 in
set_option maxHeartbeats 4000000 in
theorem ev_show_no (e : EV) (hg : goodE e = false) (w : World) : Calls Tryd.prog 10 #[evV e] w fun E w' => E = .returned (.string emp) ∧ Kept w w' := by
  have HGd := Lib.hid (fun W => ev_good e W)
  rw [hg] at HGd
  clear hg
  go_enter Tryd.func10, Tryd.ntmps10
  go_wp2_with fail
  refine (HGd.out _).mono ?_
  rintro E V ⟨rfl, hK⟩
  have HK := Lib.hid (Kept.trans (show Kept w (w.alloc (evO e)) by (unfold Kept; repeat (first | exact Below.refl _ _ | assumption | (refine Below.alloc ?_ (by simp) _) | (refine Below.setCell ?_ (by simp) _) | (refine Below.drew ?_) | (refine _root_.Go.below_drewN ?_ _)))) hK)
  clear hK
  go_wp2_with fail
  go_ret
  exact ⟨rfl, HK.out⟩
theorem ev_show (e : EV) {w : World} (hv : EvV w) : Calls Tryd.prog 10 #[evV e] w fun E w' => E = .returned (.string (showE e)) ∧ Kept w w' := by
  unfold showE
  by_cases hg : goodE e = true
  · rw [if_pos hg]; exact ev_show_yes e hg hv
  · rw [if_neg hg]; exact ev_show_no e (by simpa using hg) w
end Go.Proofs.YteaepgbakcifkaaDoor
