/- ShipSays: what both sides answer, side by side. -/
import Derived.Test.YtmkoabalakfehaaShipRefI
import Derived.Test.YtmkoabalakfehaaShipTy
set_option linter.unusedVariables false
set_option linter.unusedSimpArgs false
namespace Go.Proofs.Ytmkoabalakfehaa
open Go.RowKit
theorem run_eqSR (a b c d : Int) (w : World) : (binOp .eql 57 (.agg #[.int .i64 a, .int .i64 b, .int .i64 c, .int .i64 d]) (.agg #[.int .i64 a, .int .i64 b, .int .i64 c, .int .i64 d])).run Try.prog w = .ok (.bool true) w := by
  have h : (Op.equalIn 10000 57 (.agg #[.int .i64 a, .int .i64 b, .int .i64 c, .int .i64 d]) (.agg #[.int .i64 a, .int .i64 b, .int .i64 c, .int .i64 d])).run Try.prog w = .ok true w := by
    have hS : Try.prog.underlying 57 = some (.struct (Try.prog.fieldsOf 57)) := by kernel_rfl
    have hp : Try.prog.stoodInHeld 57 = false := by kernel_rfl
    rw [show (10000 : Nat) = 9999 + 1 from rfl, run_equalIn_agg w 9999 57 _ _ hS hp]
    simp only [Program.fieldsOf, Try.underlying57]
    go_simp
  rw [run_eql_struct, h]; rfl
set_option maxHeartbeats 1000000 in
theorem law_own (a b c d : Int) (w : World) : Calls Try.prog 17 #[.agg #[.int .i64 a, .int .i64 b, .int .i64 c, .int .i64 d]] w fun e w' => e = .returned (.agg #[.int .i64 a, .int .i64 b, .int .i64 c, .int .i64 d]) ∧ Kept w w' := by
  have K : Kept w ((w.alloc (.cells #[.int .i64 a, .int .i64 b, .int .i64 c, .int .i64 d] 29)).alloc (.cells #[.int .i64 a, .int .i64 b, .int .i64 c, .int .i64 d] 57)) := (kept_al _ _).trans (kept_al _ _)
  obtain ⟨d0, d1, d2, d3⟩ := four_cells (heap_alloc_new w (.cells #[.int .i64 a, .int .i64 b, .int .i64 c, .int .i64 d] 29))
  go_enter Try.func17, Try.ntmps17
  go_wp2
  exact bodyPost_ret (v := .agg #[.int .i64 a, .int .i64 b, .int .i64 c, .int .i64 d]) (by simp [results, Try.results17, go_sem]) rfl ⟨rfl, K⟩
theorem bytesAt_nil (w : World) : BytesAt w [] [] := ⟨rfl, fun i r l h => by simp at h⟩
theorem bytesAt_cons {w : World} {r : RV} {R : List RV} {l : Int × List Int} {L : List (Int × List Int)} : BytesAt w (r :: R) (l :: L) ↔ (r.at' = l.1 ∧ Sl .u8 w r.a r.n r.c l.2) ∧ BytesAt w R L := by
  constructor
  · intro h
    exact ⟨h.2 0 r l rfl rfl, by simpa using h.1, fun i r' l' h1 h2 => h.2 (i + 1) r' l' (by simpa using h1) (by simpa using h2)⟩
  · rintro ⟨h0, h1, h2⟩
    refine ⟨by simp [h1], fun i r' l' e1 e2 => ?_⟩
    cases i with
    | zero =>
      obtain rfl : r = r' := by simpa using e1
      obtain rfl : l = l' := by simpa using e2
      exact h0
    | succ i => exact h2 i r' l' (by simpa using e1) (by simpa using e2)
theorem bytesAt_pick {w : World} (off : Int) : ∀ (R : List RV) (L : List (Int × List Int)) (k : Nat), BytesAt w R L → BytesAt w (pickQ off k R) (pickL off k L)
  | [], [], k, _ => bytesAt_nil w
  | [], l :: L, k, h => by have := h.1; simp at this
  | r :: R, [], k, h => by have := h.1; simp at this
  | r :: R, l :: L, k, h => by
    obtain ⟨⟨e, hs⟩, h'⟩ := bytesAt_cons.1 h
    unfold pickQ pickL
    rw [e]
    split
    · exact bytesAt_cons.2 ⟨⟨e, hs⟩, bytesAt_pick off R L (k + 1) h'⟩
    · exact bytesAt_pick off R L k h'
theorem rvM_rowL {w : World} : ∀ (R : List RV) (L : List (Int × List Int)), BytesAt w R L → rvM R = rowL L
  | [], [], _ => rfl
  | [], l :: L, h => by have := h.1; simp at this
  | r :: R, [], h => by have := h.1; simp at this
  | r :: R, l :: L, h => by
    obtain ⟨⟨e, hs⟩, h'⟩ := bytesAt_cons.1 h
    have := rvM_rowL R L h'
    unfold rvM rowL at this ⊢
    rw [List.map_cons, List.map_cons, this, e, hs.1]
/-- both Makes -/
theorem says_make (who ep nx ak E : Int) (ta : Option Addr) (tn tc : Nat) (T : List Int) (la : Option Addr) (ln lc : Nat) (R : List RV) (L : List (Int × List Int)) (w : World)
    (hT : Sl .u64 w ta tn tc T) (wT : IsW T) (hQ : SlQ w la ln lc R) (hB : BytesAt w R L) (hn : ln ≤ 1000) (hLw : ∀ l ∈ L, 0 ≤ l.1 ∧ l.1 ≤ 18446744073709551615) (hnx : -9223372036854775808 ≤ nx) :
    ∃ (k0 f0 t0 e0 o0 p0 er : Int) (n0 : Nat) (R0 : List RV) (L0 : List (Int × List Int)),
      (∀ W, Kept w W → Calls Try.prog 14 #[.agg #[.int .i64 who, .int .i64 ep, .int .i64 nx, .int .i64 ak], .agg #[.slice ta tn tc, .int .i64 E], .slice la ln lc] W fun e w' => ∃ a' c', e = .returned (.tuple #[.agg #[.int .i64 k0, .int .i64 f0, .int .i64 t0, .int .i64 e0, .int .i64 o0, .int .i64 p0, .slice a' n0 c', .slice none 0 0, .int .i64 0], .int .i64 er]) ∧ SlQ w' a' n0 c' R0 ∧ Kept W w') ∧
      (∀ W ta2 tc2 la2 lc2, Sl .u64 W ta2 tn tc2 T → SlRR W la2 ln lc2 L → Calls Try.prog 16 #[.agg #[.int .i64 who, .int .i64 ep, .int .i64 nx, .int .i64 ak], .agg #[.slice ta2 tn tc2, .int .i64 E], .slice la2 ln lc2] W fun e w' => ∃ a' c', e = .returned (.tuple #[.agg #[.int .i64 k0, .int .i64 f0, .int .i64 t0, .int .i64 e0, .int .i64 o0, .int .i64 p0, .slice a' n0 c', .slice none 0 0, .int .i64 0], .int .i64 er]) ∧ SlRR w' a' n0 c' L0 ∧ Kept W w') ∧
      BytesAt w R0 L0 ∧ n0 ≤ 1000 := by
  have hrow : rvM (pickQ (offM ⟨who, ep, nx, ak⟩ E) 0 R) = rowL (pickL (offM ⟨who, ep, nx, ak⟩ E) 0 L) := rvM_rowL _ _ (bytesAt_pick _ R L 0 hB)
  have hlen : (pickQ (offM ⟨who, ep, nx, ak⟩ E) 0 R).length = (pickL (offM ⟨who, ep, nx, ak⟩ E) 0 L).length := (bytesAt_pick _ R L 0 hB).1
  have hok : okM ⟨who, ep, nx, ak⟩ T E R = okL ⟨who, ep, nx, ak⟩ T E L := by unfold okM okL; rw [hrow, hlen]
  by_cases hg : GoodT T E ∧ okM ⟨who, ep, nx, ak⟩ T E R = true
  · refine ⟨1, who, IntKind.i64.wrap (1 - who), ep, offM ⟨who, ep, nx, ak⟩ E, prevM ⟨who, ep, nx, ak⟩ T E, 0, (pickQ (offM ⟨who, ep, nx, ak⟩ E) 0 R).length, pickQ (offM ⟨who, ep, nx, ak⟩ E) 0 R, pickL (offM ⟨who, ep, nx, ak⟩ E) 0 L, ?_, ?_, bytesAt_pick _ R L 0 hB, ?_⟩
    · intro W kk
      refine (ship_make ⟨who, ep, nx, ak⟩ ta tn tc T E la ln lc R W (kk.sl hT) wT (hQ.kept kk) hnx).mono ?_
      rintro e w' ⟨a', c', rfl, hs, K⟩
      refine ⟨a', c', ?_, hs hg.1, K⟩
      unfold makeM makeE
      rw [if_pos hg, if_pos hg]
      rfl
    · intro W ta2 tc2 la2 lc2 h1 h2
      refine (ref_make who ep nx ak E ta2 tn tc2 T la2 ln lc2 L W h1 wT h2 hn hLw hnx).mono ?_
      rintro e w' ⟨a', c', (⟨h3, h4, rfl, hs⟩ | ⟨h3, _⟩), K⟩
      · rw [hlen]; exact ⟨a', c', rfl, hs, K⟩
      · exact absurd ⟨hg.1, hok ▸ hg.2⟩ h3
    · have := (pickQ_ok (offM ⟨who, ep, nx, ak⟩ E) R 0 (by omega) (fun r hr => by obtain ⟨i, hi, rfl⟩ := List.mem_iff_getElem.1 hr; exact (hQ.2.2.2 i _ (List.getElem?_eq_getElem hi)).1)).2
      omega
  · refine ⟨0, 0, 0, 0, 0, 0, 1, 0, [], [], ?_, ?_, bytesAt_nil w, by omega⟩
    · intro W kk
      refine (ship_make ⟨who, ep, nx, ak⟩ ta tn tc T E la ln lc R W (kk.sl hT) wT (hQ.kept kk) hnx).mono ?_
      rintro e w' ⟨a', c', rfl, hs, K⟩
      refine ⟨none, 0, ?_, ⟨rfl, Nat.le_refl _, Nat.zero_le _, by simp⟩, K⟩
      unfold makeM makeE
      rw [if_neg hg, if_neg hg]
      rfl
    · intro W ta2 tc2 la2 lc2 h1 h2
      refine (ref_make who ep nx ak E ta2 tn tc2 T la2 ln lc2 L W h1 wT h2 hn hLw hnx).mono ?_
      rintro e w' ⟨a', c', (⟨h3, h4, _⟩ | ⟨_, rfl⟩), K⟩
      · exact absurd ⟨h3, hok ▸ h4⟩ hg
      · exact ⟨none, 0, rfl, ⟨rfl, Nat.le_refl _, Nat.zero_le _, by simp⟩, K⟩
/-- both Takes -/
theorem says_take (who ep nx ak E : Int) (ta : Option Addr) (tn tc : Nat) (T : List Int) (m : MV) (R : List RV) (L : List (Int × List Int)) (T2 : List Int) (w : World)
    (hT : Sl .u64 w ta tn tc T) (wT : IsW T) (hQ : SlQ w m.la m.ln m.lc R) (hB : BytesAt w R L) (hn : m.ln ≤ 100) (hLw : ∀ l ∈ L, 0 ≤ l.1 ∧ l.1 ≤ 18446744073709551615) (hT2 : Sl .u64 w m.ta m.tn m.tc T2) (wT2 : IsW T2) :
    ∃ (x0 x1 x2 x3 er : Int),
      (∀ W, Kept w W → Calls Try.prog 11 #[.agg #[.int .i64 who, .int .i64 ep, .int .i64 nx, .int .i64 ak], .agg #[.slice ta tn tc, .int .i64 E], .agg m.cs] W fun e w' => e = .returned (.tuple #[.agg #[.int .i64 x0, .int .i64 x1, .int .i64 x2, .int .i64 x3], .int .i64 er]) ∧ Kept W w') ∧
      (∀ W ta2 tc2 a c a2 c2, Sl .u64 W ta2 tn tc2 T → SlRR W a m.ln c L → Sl .u64 W a2 m.tn c2 T2 → Calls Try.prog 20 #[.agg #[.int .i64 who, .int .i64 ep, .int .i64 nx, .int .i64 ak], .agg #[.slice ta2 tn tc2, .int .i64 E], .agg #[.int .i64 m.k, .int .i64 m.f, .int .i64 m.t, .int .i64 m.e, .int .i64 m.o, .int .i64 m.p, .slice a m.ln c, .slice a2 m.tn c2, .int .i64 m.te]] W fun e w' => e = .returned (.tuple #[.agg #[.int .i64 x0, .int .i64 x1, .int .i64 x2, .int .i64 x3], .int .i64 er]) ∧ Kept W w') := by
  have hrow : rvM R = rowL L := rvM_rowL R L hB
  refine ⟨_, _, _, _, _, fun W kk => ship_take ⟨who, ep, nx, ak⟩ ta tn tc T E m (rvM R) T2 W (kk.sl hT) wT ((hQ.kept kk).slM) (kk.sl hT2) wT2 hn, fun W ta2 tc2 a c a2 c2 h1 h2 h3 => ?_⟩
  have h := ref_take who ep nx ak E ta2 tn tc2 T m.k m.f m.t m.e m.o m.p m.te a m.ln c a2 m.tn c2 L T2 W h1 wT h2 h3 wT2 (by omega) hLw
  rw [hrow]
  exact h
/-- the records among the arguments -/
theorem slT_recQ {w : World} {a : Option Addr} {n c : Nat} {l : List TyRec.den} (h : SlT w TyRec a n c l) : ∃ (R : List RV) (L : List (Int × List Int)), SlQ w a n c R ∧ BytesAt w R L ∧ ∀ x ∈ L, 0 ≤ x.1 ∧ x.1 ≤ 18446744073709551615 := by
  obtain ⟨h1, h2, h3, h4⟩ := h
  have hall : ∀ i, i < n → ∃ x : RV × (Int × List Int), rvOk x.1 ∧ x.1.at' = x.2.1 ∧ Sl .u8 w x.1.a x.1.n x.1.c x.2.2 ∧ ∃ b o, a = some ⟨b, o, none⟩ ∧ w.cell? ⟨b, o + i * 2, none⟩ = some (.int .u64 x.1.at') ∧ w.cell? ⟨b, o + i * 2 + 1, none⟩ = some (.slice x.1.a x.1.n x.1.c) := by
    intro i hi
    obtain ⟨b, o, cs', rfl, hb, hl, hc, hr⟩ := h4 i l[i] (List.getElem?_eq_getElem (by omega))
    obtain ⟨c1, r1, rfl, _, ⟨rfl, hw⟩, c2, r2, rfl, _, h6, h7⟩ := hr
    obtain ⟨a', n', c', rfl, hs⟩ := rep_sl h6
    have q0 := hc 0 (.int .u64 l[i].1) rfl
    have q1 := hc 1 (.slice a' n' c') rfl
    obtain ⟨s1, s2⟩ := slT_int hs
    have hw' := wf_bd_u64 hw
    refine ⟨(⟨l[i].1, a', n', c'⟩, (l[i].1, l[i].2.1)), ⟨hw'.1, hw'.2, by have := s1.2.1; have := s1.2.2.1; show n' ≤ maxLen; omega⟩, rfl, s1, b, o, rfl, ?_, ?_⟩
    · simp [Ty.size] at q0; exact q0
    · simp [Ty.size] at q1; exact q1
  obtain ⟨f, hf⟩ : ∃ f : Fin n → RV × (Int × List Int), ∀ i : Fin n, rvOk (f i).1 ∧ (f i).1.at' = (f i).2.1 ∧ Sl .u8 w (f i).1.a (f i).1.n (f i).1.c (f i).2.2 ∧ ∃ b o, a = some ⟨b, o, none⟩ ∧ w.cell? ⟨b, o + i.1 * 2, none⟩ = some (.int .u64 (f i).1.at') ∧ w.cell? ⟨b, o + i.1 * 2 + 1, none⟩ = some (.slice (f i).1.a (f i).1.n (f i).1.c) :=
    ⟨fun i => Classical.choose (hall i.1 i.2), fun i => Classical.choose_spec (hall i.1 i.2)⟩
  refine ⟨List.ofFn fun i => (f i).1, List.ofFn fun i => (f i).2, ⟨by simp, h2, h3, fun i r hr => ?_⟩, ⟨by simp, fun i r x hr hx => ?_⟩, fun x hx => ?_⟩
  · have hi : i < n := by
      rcases Nat.lt_or_ge i n with h' | h'
      · exact h'
      · simp [List.getElem?_eq_none, h'] at hr
    simp [hi] at hr
    obtain ⟨g1, g2, g3, b, o, g4, g5, g6⟩ := hf ⟨i, hi⟩
    rw [hr] at g1 g5 g6
    exact ⟨g1, b, o, g4, g5, g6⟩
  · have hi : i < n := by
      rcases Nat.lt_or_ge i n with h' | h'
      · exact h'
      · simp [List.getElem?_eq_none, h'] at hr
    simp [hi] at hr hx
    obtain ⟨g1, g2, g3, _⟩ := hf ⟨i, hi⟩
    rw [hr, hx] at g2 g3
    exact ⟨g2, g3⟩
  · obtain ⟨i, rfl⟩ := List.mem_ofFn.1 hx
    obtain ⟨g1, g2, _⟩ := hf i
    rw [← g2]
    exact ⟨g1.1, g1.2.1⟩
end Go.Proofs.Ytmkoabalakfehaa
