/- msg.Good: whether a message may be so. -/
import Derived.Test.YtnnjflljlooifaaEpGood
import Derived.Test.YtnnjflljlooifaaEpStamp
set_option linter.unusedVariables false
set_option linter.unusedSimpArgs false
namespace Go.Proofs.Ytnnjflljlooifaa
open Go.RowKit
/-- a message as its value -/
structure MV where
  k : Int
  f : Int
  t : Int
  e : Int
  o : Int
  p : Int
  la : Option Addr
  ln : Nat
  lc : Nat
  ta : Option Addr
  tn : Nat
  tc : Nat
  te : Int
def MV.cs (m : MV) : Array Value := #[.int .i64 m.k, .int .i64 m.f, .int .i64 m.t, .int .i64 m.e, .int .i64 m.o, .int .i64 m.p, .slice m.la m.ln m.lc, .slice m.ta m.tn m.tc, .int .i64 m.te]
/-- a slice of records, as far as Good looks: stamps and lengths -/
def SlM (w : World) (a : Option Addr) (n c : Nat) (L : List (Int × Nat)) : Prop :=
  L.length = n ∧ n ≤ c ∧ c ≤ maxLen ∧ ∀ (i : Nat) (l : Int × Nat), L[i]? = some l → (0 ≤ l.1 ∧ l.1 ≤ 18446744073709551615 ∧ l.2 ≤ maxLen) ∧ ∃ b o x d, a = some ⟨b, o, none⟩ ∧ w.cell? ⟨b, o + i * 2, none⟩ = some (.int .u64 l.1) ∧ w.cell? ⟨b, o + i * 2 + 1, none⟩ = some (.slice x l.2 d)
theorem SlM.kept {w w' : World} {a : Option Addr} {k c : Nat} {L : List (Int × Nat)} (h : Kept w w') (hs : SlM w a k c L) : SlM w' a k c L :=
  ⟨hs.1, hs.2.1, hs.2.2.1, fun i l hi => by obtain ⟨hb, b, o, x, d, h1, h2, h3⟩ := hs.2.2.2 i l hi; exact ⟨hb, b, o, x, d, h1, h.cel h2, h.cel h3⟩⟩
/-- the records may be so -/
def RowF (e o : Int) : Int → Nat → List (Int × Nat) → Bool
  | _, _, [] => true
  | at', i, (s, len) :: r => decide (ofI s = o + i) && (decide (at' ≤ epI s ∧ epI s ≤ e) && (decide (len ≤ 1024) && RowF e o (epI s) (i + 1) r))
theorem msg_in (n l h : Int) (w : World) : Calls Try.prog 25 #[.int .i64 n, .int .i64 l, .int .i64 h] w fun e w' => e = .returned (.bool (decide (l ≤ n ∧ n ≤ h))) ∧ w = w' := by
  by_cases h1 : l ≤ n
  · by_cases h2 : n ≤ h
    · rw [decide_eq_true ⟨h1, h2⟩]
      go_enter Try.func25, Try.ntmps25
      go_wp2
      go_ret
      exact ⟨rfl, rfl⟩
    · rw [decide_eq_false (fun q => h2 q.2)]
      go_enter Try.func25, Try.ntmps25
      go_wp2
      go_ret
      exact ⟨rfl, rfl⟩
  · rw [decide_eq_false (fun q => h1 q.1)]
    go_enter Try.func25, Try.ntmps25
    go_wp2
    go_ret
    exact ⟨rfl, rfl⟩
set_option maxHeartbeats 1000000 in
theorem msg_noTable (m : MV) (w : World) : Calls Try.prog 26 #[.agg m.cs] w fun e w' => e = .returned (.bool (decide (m.tn = 0 ∧ m.te = 0))) ∧ Kept w w' := by
  obtain ⟨k, f, t, e, o, p, la, ln, lc, ta, tn, tc, te⟩ := m
  unfold MV.cs
  dsimp only
  have K := ((Only.refl [] w).alloc (.cells #[.int .i64 k, .int .i64 f, .int .i64 t, .int .i64 e, .int .i64 o, .int .i64 p, .slice la ln lc, .slice ta tn tc, .int .i64 te] 33)).kept
  have hh := heap_alloc_new w (.cells #[.int .i64 k, .int .i64 f, .int .i64 t, .int .i64 e, .int .i64 o, .int .i64 p, .slice la ln lc, .slice ta tn tc, .int .i64 te] 33)
  have d7 := at_cell hh 7 _ rfl
  have d8 := at_cell hh 8 _ rfl
  clear hh
  by_cases h1 : tn = 0
  · by_cases h2 : te = 0
    · rw [decide_eq_true ⟨h1, h2⟩]
      subst h1 h2
      go_enter Try.func26, Try.ntmps26
      go_wp2
      go_ret
      exact ⟨rfl, K⟩
    · rw [decide_eq_false (fun q => h2 q.2)]
      subst h1
      have hb : (te == 0) = false := by simp [h2]
      go_enter Try.func26, Try.ntmps26
      go_wp2
      go_ret
      exact ⟨rfl, K⟩
  · rw [decide_eq_false (fun q => h1 q.1)]
    have hb : ((tn : Int) == 0) = false := by simp [h1]
    go_enter Try.func26, Try.ntmps26
    go_wp2
    go_ret
    exact ⟨rfl, K⟩
set_option maxRecDepth 100000 in
set_option maxHeartbeats 2000000 in
theorem msg_row (m : MV) (L : List (Int × Nat)) (w : World) (hL : SlM w m.la m.ln m.lc L) (hn : m.ln ≤ 100) (o0 : 0 ≤ m.o) (o1 : m.o ≤ 17592186044415) (p0 : 0 ≤ m.p) (p1 : m.p ≤ m.e) (e1 : m.e ≤ 1048575) :
    Calls Try.prog 27 #[.agg m.cs] w fun e w' => e = .returned (.bool (RowF m.e m.o m.p 0 L && decide (m.ln ≤ 8))) ∧ Kept w w' := by
  obtain ⟨k, f, t, e, o, p, la, ln, lc, ta, tn, tc, te⟩ := m
  unfold MV.cs
  dsimp only at *
  have K := ((Only.refl [] w).alloc (.cells #[.int .i64 k, .int .i64 f, .int .i64 t, .int .i64 e, .int .i64 o, .int .i64 p, .slice la ln lc, .slice ta tn tc, .int .i64 te] 33)).kept
  have hh := heap_alloc_new w (.cells #[.int .i64 k, .int .i64 f, .int .i64 t, .int .i64 e, .int .i64 o, .int .i64 p, .slice la ln lc, .slice ta tn tc, .int .i64 te] 33)
  have hbs : w.heap.size < (w.alloc (.cells #[.int .i64 k, .int .i64 f, .int .i64 t, .int .i64 e, .int .i64 o, .int .i64 p, .slice la ln lc, .slice ta tn tc, .int .i64 te] 33)).heap.size := by simp
  have HL := Lib.hid (hL.kept K)
  have hl := hL.1
  have hnc := hL.2.1
  have hcm := hL.2.2.1
  unfold maxLen at hcm
  have d3 := at_cell hh 3 _ rfl
  have d4 := at_cell hh 4 _ rfl
  have d5 := at_cell hh 5 _ rfl
  have d6 := at_cell hh 6 _ rfl
  clear hh hL
  generalize hX : w.alloc (.cells #[.int .i64 k, .int .i64 f, .int .i64 t, .int .i64 e, .int .i64 o, .int .i64 p, .slice la ln lc, .slice ta tn tc, .int .i64 te] 33) = X at *
  have HC : Hid (∀ V, Kept X V → V.cell? ⟨w.heap.size, 3, none⟩ = some (.int .i64 e) ∧ V.cell? ⟨w.heap.size, 4, none⟩ = some (.int .i64 o) ∧ V.cell? ⟨w.heap.size, 6, none⟩ = some (.slice la ln lc)) := fun V kk => ⟨kk.cel d3, kk.cel d4, kk.cel d6⟩
  go_enter Try.func27, Try.ntmps27
  go_wp2_with fail
  clear d3 d4 d5 d6
  go_loopw [3, 11] (fun sa i wr => ∃ (j : Nat) (at' : Int), sa = .int .i64 at' ∧ i = .int .i64 j ∧ j ≤ ln ∧ 0 ≤ at' ∧ at' ≤ 1048575 ∧ Hid (RowF e o p 0 L = RowF e o at' j (L.drop j)) ∧ Kept X wr) (fun _ i _ => ln - (intOf i).toNat)
  case atStart => exact ⟨0, p, rfl, rfl, by omega, p0, by omega, rfl, Kept.refl _⟩
  case round =>
    obtain ⟨j, at', rfl, rfl, hj, a0, a1, HRw, Kj⟩ := hrel
    obtain ⟨c3, c4, c6⟩ := HC.out _ Kj
    by_cases hlt : j < ln
    · have hlt' : (j : Int) < ln := by omega
      obtain ⟨⟨s, len⟩, hsl⟩ : ∃ l, L[j]? = some l := ⟨_, List.getElem?_eq_getElem (by omega)⟩
      obtain ⟨hb, b, ob, x, d, rfl, q0, q1⟩ := (HL.out.kept Kj).2.2.2 j _ hsl
      dsimp only at hb q0 q1
      obtain ⟨s0, s1, hlm⟩ := hb
      have hlm' := hlm
      unfold maxLen at hlm'
      have hdr : Hid (L.drop j = (s, len) :: L.drop (j + 1)) := by
        unfold Hid
        obtain ⟨hjl, he⟩ := List.getElem?_eq_some_iff.1 hsl
        rw [List.drop_eq_getElem_cons hjl, he]
      have Hrow : Hid (RowF e o p 0 L = (decide (ofI s = o + j) && (decide (at' ≤ epI s ∧ epI s ≤ e) && (decide (len ≤ 1024) && RowF e o (epI s) (j + 1) (L.drop (j + 1)))))) := by
        unfold Hid; rw [HRw.out, hdr.out]; rfl
      have HOf := Lib.hid (fun W => stamp_off s W s0 s1)
      have HEp := Lib.hid (fun W => stamp_epoch s W s0 s1)
      have HIn := Lib.hid (fun W => msg_in (epI s) at' e W)
      have heb : 0 ≤ epI s ∧ epI s ≤ 1048575 := by unfold epI; omega
      have hob : 0 ≤ ofI s ∧ ofI s ≤ 17592186044415 := by unfold ofI; omega
      clear hsl hdr
      generalize epI s = es at *
      generalize ofI s = os at *
      have hbo : IntKind.i64.wrap (o + (j : Int)) = o + j := by rw [IntKind.wrap_i64]; omega
      clear c3 c4 c6
      by_cases g1 : os = o + j
      · have hg1 : (os != o + (j : Int)) = false := by simp [g1]
        by_cases g2 : at' ≤ es ∧ es ≤ e
        · rw [decide_eq_true g2] at HIn
          by_cases g3 : len ≤ 1024
          · have hg3 : decide ((1024 : Int) < len) = false := decide_eq_false (by omega)
            have hres : Hid (RowF e o p 0 L = RowF e o es (j + 1) (L.drop (j + 1))) := by unfold Hid; rw [Hrow.out, decide_eq_true g1, decide_eq_true g2, decide_eq_true g3]; rfl
            clear Hrow g2
            go_wp2_with fail
            have k4 : Kept X (wr.alloc (.cells #[.int .u64 s, .slice x len d] 58)) := Kj.trans (((Only.refl [] wr).alloc _).kept)
            obtain ⟨n3, n4, n6⟩ := HC.out _ k4
            have b0 := at_cell (heap_alloc_new wr (.cells #[.int .u64 s, .slice x len d] 58)) 0 _ rfl
            have b1 := at_cell (heap_alloc_new wr (.cells #[.int .u64 s, .slice x len d] 58)) 1 _ rfl
            generalize hW : wr.alloc (.cells #[.int .u64 s, .slice x len d] 58) = W at *
            go_quiet ((first | (go_at_call 37; exact Calls.quiet_of_same (unflip (HOf.out _))) | (go_at_call 38; exact Calls.quiet_of_same (unflip (HEp.out _))) | (go_at_call 25; exact Calls.quiet_of_same (unflip (HIn.out _)))))
            go_wp2_with fail
            refine (HEp.out _).mono ?_
            rintro E w' ⟨rfl, rfl⟩
            go_wp2
            go_roundw
            case rel => exact ⟨j + 1, es, rfl, by go_num, by omega, heb.1, heb.2, hres.out, k4.dr ⟨_, rfl⟩⟩
            case measure => simp [intOf]; omega
          · have hg3 : decide ((1024 : Int) < len) = true := decide_eq_true (by omega)
            have hres : Hid (RowF e o p 0 L = false) := by unfold Hid; rw [Hrow.out, decide_eq_true g1, decide_eq_true g2, decide_eq_false g3]; rfl
            clear Hrow g2
            go_wp2_with fail
            have k4 : Kept X (wr.alloc (.cells #[.int .u64 s, .slice x len d] 58)) := Kj.trans (((Only.refl [] wr).alloc _).kept)
            obtain ⟨n3, n4, n6⟩ := HC.out _ k4
            have b0 := at_cell (heap_alloc_new wr (.cells #[.int .u64 s, .slice x len d] 58)) 0 _ rfl
            have b1 := at_cell (heap_alloc_new wr (.cells #[.int .u64 s, .slice x len d] 58)) 1 _ rfl
            generalize hW : wr.alloc (.cells #[.int .u64 s, .slice x len d] 58) = W at *
            go_quiet ((first | (go_at_call 37; exact Calls.quiet_of_same (unflip (HOf.out _))) | (go_at_call 38; exact Calls.quiet_of_same (unflip (HEp.out _))) | (go_at_call 25; exact Calls.quiet_of_same (unflip (HIn.out _)))))
            go_wp2
            go_ret
            exact ⟨ret_bool (by rw [hres.out, Bool.false_and]), (K.trans k4).dr ⟨_, rfl⟩⟩
        · rw [decide_eq_false g2] at HIn
          have hres : Hid (RowF e o p 0 L = false) := by unfold Hid; rw [Hrow.out, decide_eq_true g1, decide_eq_false g2]; rfl
          clear Hrow g2
          go_wp2_with fail
          have k4 : Kept X (wr.alloc (.cells #[.int .u64 s, .slice x len d] 58)) := Kj.trans (((Only.refl [] wr).alloc _).kept)
          obtain ⟨n3, n4, n6⟩ := HC.out _ k4
          have b0 := at_cell (heap_alloc_new wr (.cells #[.int .u64 s, .slice x len d] 58)) 0 _ rfl
          have b1 := at_cell (heap_alloc_new wr (.cells #[.int .u64 s, .slice x len d] 58)) 1 _ rfl
          generalize hW : wr.alloc (.cells #[.int .u64 s, .slice x len d] 58) = W at *
          go_quiet ((first | (go_at_call 37; exact Calls.quiet_of_same (unflip (HOf.out _))) | (go_at_call 38; exact Calls.quiet_of_same (unflip (HEp.out _))) | (go_at_call 25; exact Calls.quiet_of_same (unflip (HIn.out _)))))
          go_wp2
          go_ret
          exact ⟨ret_bool (by rw [hres.out, Bool.false_and]), (K.trans k4).dr ⟨_, rfl⟩⟩
      · have hg1 : (os != o + (j : Int)) = true := by simp [g1]
        have hres : Hid (RowF e o p 0 L = false) := by unfold Hid; rw [Hrow.out, decide_eq_false g1]; rfl
        clear Hrow
        go_wp2_with fail
        have k4 : Kept X (wr.alloc (.cells #[.int .u64 s, .slice x len d] 58)) := Kj.trans (((Only.refl [] wr).alloc _).kept)
        obtain ⟨n3, n4, n6⟩ := HC.out _ k4
        have b0 := at_cell (heap_alloc_new wr (.cells #[.int .u64 s, .slice x len d] 58)) 0 _ rfl
        have b1 := at_cell (heap_alloc_new wr (.cells #[.int .u64 s, .slice x len d] 58)) 1 _ rfl
        generalize hW : wr.alloc (.cells #[.int .u64 s, .slice x len d] 58) = W at *
        go_quiet ((first | (go_at_call 37; exact Calls.quiet_of_same (unflip (HOf.out _))) | (go_at_call 38; exact Calls.quiet_of_same (unflip (HEp.out _))) | (go_at_call 25; exact Calls.quiet_of_same (unflip (HIn.out _)))))
        go_wp2
        go_ret
        exact ⟨ret_bool (by rw [hres.out, Bool.false_and]), (K.trans k4).dr ⟨_, rfl⟩⟩
    · have hge : (ln : Int) ≤ j := by omega
      obtain rfl : ln = j := by omega
      have hr : Hid (RowF e o p 0 L = true) := by unfold Hid; rw [HRw.out, List.drop_of_length_le (by omega)]; rfl
      by_cases h8 : ln ≤ 8
      · have h8' : (ln : Int) ≤ 8 := by omega
        go_wp2
        go_ret
        exact ⟨ret_bool (by first | rfl | (rw [hr.out, decide_eq_true h8]; rfl)), K.trans Kj⟩
      · have h8' : ¬ ((ln : Int) ≤ 8) := by omega
        go_wp2
        go_ret
        exact ⟨ret_bool (by first | rfl | (rw [hr.out, decide_eq_false h8]; rfl)), K.trans Kj⟩
end Go.Proofs.Ytnnjflljlooifaa
