/- EncReads: any bytes, read by any steps. -/
import Derived.Test.YtciolohapanpfabEncRefIn2
import Derived.Test.YtciolohapanpfabEncBackLaw
import Derived.Test.YtciolohapanpfabTy
import Derived.Deep.RegionHeld3
set_option linter.unusedVariables false
set_option linter.unusedSimpArgs false
namespace Go.Proofs.Ytciolohapanpfab
open Go.RowKit
/-- an In stays what it is when other Ins' blocks are written: no byte lies in those -/
theorem Only.inAt2 {S : List Nat} {w w' : World} {t : TypeId} {p : Nat} {zs : List Int} {bad : Bool} (h : Only S w w') (hI : InAt w t p zs bad) (hp : p ∉ S)
    (hS : ∀ q, q ∈ S → ∃ (a : Option Addr) (n c : Nat) (b : Bool) (t' : TypeId), w.heap[q]? = some (.cells #[.slice a n c, .bool b] t' (0, 0))) : InAt w' t p zs bad := by
  obtain ⟨a, n, c, hh, hs, hi, hB⟩ := hI
  refine ⟨a, n, c, h.heap hh hp, ?_, hi, hB⟩
  obtain ⟨h1, h2, h3, h4⟩ := hs
  refine ⟨h1, h2, h3, fun i hi' => ?_⟩
  obtain ⟨b, o, rfl, hlt, hc⟩ := h4 i hi'
  have hb : b ∉ S := by
    intro hm
    obtain ⟨a', n', c', b', t', hq⟩ := hS b hm
    simp only [World.cell?, hq] at hc
    rcases Nat.lt_or_ge (o + i) 2 with h' | h'
    · have : o + i = 0 ∨ o + i = 1 := by omega
      rcases this with h0 | h0 <;> simp [h0] at hc
    · simp [Array.getElem?_eq_none (xs := #[Value.slice a' n' c', Value.bool b']) (i := o + i) (by simp; omega)] at hc
  exact ⟨b, o, rfl, Nat.lt_of_lt_of_le hlt h.size, (h.cell (p := ⟨b, o + i, none⟩) hlt hb).trans hc⟩
theorem InAt.form {w : World} {t : TypeId} {p : Nat} {zs : List Int} {bad : Bool} (hI : InAt w t p zs bad) : ∃ (a : Option Addr) (n c : Nat) (b : Bool) (t' : TypeId), w.heap[p]? = some (.cells #[.slice a n c, .bool b] t' (0, 0)) := by
  obtain ⟨a, n, c, hh, _⟩ := hI
  exact ⟨a, n, c, bad, t, hh⟩
/-- a slice of steps -/
def Sts (w : World) (a : Option Addr) (n c : Nat) : Prop :=
  n ≤ c ∧ c ≤ maxLen ∧ ∀ i, i < n → ∃ (b o : Nat) (x y : Int), a = some ⟨b, o, none⟩ ∧ b < w.heap.size ∧ w.cell? ⟨b, o + i * 2, none⟩ = some (.int .i64 x) ∧ w.cell? ⟨b, o + i * 2 + 1, none⟩ = some (.int .i64 y) ∧ -9223372036854775808 ≤ x ∧ x ≤ 9223372036854775807 ∧ -9223372036854775808 ≤ y ∧ y ≤ 9223372036854775807
abbrev TyStep : Ty := .st (.cons (.int .i64) (.cons (.int .i64) .nil))
theorem slT_steps {w : World} {a : Option Addr} {n c : Nat} {l : List TyStep.den} (h : SlT w TyStep a n c l) : Sts w a n c := by
  obtain ⟨h1, h2, h3, h4⟩ := h
  refine ⟨h2, h3, fun i hi => ?_⟩
  obtain ⟨b, o, cs', ha, hlt, hl, hc, c1, r1, rfl, _, ⟨rfl, hw1⟩, c2, r2, rfl, _, ⟨rfl, hw2⟩, h5⟩ := h4 i (l[i]'(by omega)) (List.getElem?_eq_getElem (by omega))
  have b1 := wf_bd_i64 hw1
  have b2 := wf_bd_i64 hw2
  refine ⟨b, o, _, _, ha, hlt, hc 0 _ rfl, ?_, b1.1, b1.2, b2.1, b2.2⟩
  exact hc 1 _ rfl
theorem inAt_appT (t : TypeId) {w : World} {a : Option Addr} {n c : Nat} {g : Option Nat} {zs : List Int} (hA : App w 5 1 (.slice a n c) n g (bytesV zs)) (hB : IsB zs) :
    InAt (w.alloc (.cells #[.slice a n c, .bool false] t (0, 0))) t w.heap.size zs false :=
  inAt_new (app_sl hA).1 (by intro x hx; have h1 := (app_sl hA).2 x hx; have h2 := hA.lt _ h1; simp; omega) hB
theorem app_empty2 (w : World) (x : Obj) (e : TypeId) : App ((w.alloc x).alloc (.cells #[] e)) e 1 (.slice (some ⟨w.heap.size + 1, 0, none⟩) 0 0) 0 (some (w.heap.size + 1)) [] := by
  have := app_empty (w.alloc x) e
  simpa using this
set_option maxRecDepth 100000 in
set_option maxHeartbeats 4000000 in
theorem encReads_walk (a b : Option Addr) (n k c d : Nat) (zs : List Int) (w : World) (hs : Sl .u8 w a n c zs) (hB : IsB zs) (ht : Sts w b k d) (hn : n ≤ 300) (hk : k ≤ 30) :
    Calls Try.prog 6 #[.slice a n c, .slice b k d] w fun e w' => e = .returned (.bool true) ∧ Kept w w' := by
  have HS := Lib.hid hs
  have HT := Lib.hid ht
  have HB := Lib.hid hB
  have hnc := hs.2.1
  have hcm := hs.2.2.1
  have hkd := ht.1
  have hdm := ht.2.1
  unfold maxLen at hcm hdm
  clear hs ht hB
  go_enter Try.func6, Try.ntmps6
  go_wp2_with fail
  refine (awake3 _).mono ?_
  rintro e w1 ⟨rfl, k1⟩
  have K1 : Kept w w1 := k1
  clear k1
  go_wp2_with (first
    | (at_builtin; refine wpList_app rfl (.tmp 19) (.tmp 20) 25 25 rfl elemB _ 0 _ _ rfl (app_empty w1 _) _ n _ rfl (src_sl Try.underlying25 ((K1.only.alloc _).kept.sl HS.out)) (by omega) (by unfold maxLen; omega) ?_; intro a5 c5 g5 w5 hA5 hO5 hG5; simp only [Nat.zero_add, List.nil_append] at hA5; rw [Nat.zero_add]; have K5 : Kept w w5 := ((K1.only.alloc _).then hO5 (by intro i hi hm; simp at hm; have := K1.size; omega)).kept; have HA5 := Lib.hid hA5; clear hA5 hO5 hG5)
    | (at_builtin; refine wpList_app rfl (.tmp 24) (.tmp 25) 25 25 rfl elemB _ 0 _ _ rfl (app_empty2 w5 _ _) _ n _ rfl (src_sl Try.underlying25 (((K5.only.alloc _).alloc _).kept.sl HS.out)) (by omega) (by unfold maxLen; omega) ?_; intro a7 c7 g7 w7 hA7 hO7 hG7; simp only [Nat.zero_add, List.nil_append] at hA7; rw [Nat.zero_add]))
  have hI6 : InAt (w5.alloc (.cells #[.slice a5 n c5, .bool false] 35)) 35 w5.heap.size zs false := inAt_appT _ HA5.out HB.out
  have hJ8 : InAt (w7.alloc (.cells #[.slice a7 n c7, .bool false] 45)) 45 w7.heap.size zs false := inAt_appT _ hA7 HB.out
  have K57 : Kept (w5.alloc (.cells #[.slice a5 n c5, .bool false] 35)) w7 := (((Only.refl [] _).alloc _).then hO7 (by intro i hi hm; simp at hm hi; omega)).kept
  have hI8 : InAt (w7.alloc (.cells #[.slice a7 n c7, .bool false] 45)) 35 w5.heap.size zs false := ((Only.refl [] w7).alloc _).inAt2 (K57.only.inAt2 hI6 (by simp) (by simp)) (by simp) (by simp)
  have K8 : Kept w (w7.alloc (.cells #[.slice a7 n c7, .bool false] 45)) := (((K5.only.alloc _).kept.trans K57).only.alloc _).kept
  have hP : w.heap.size ≤ w5.heap.size := K5.size
  have hPQ : w5.heap.size < w7.heap.size := by have := K57.size; simp at this; omega
  have HI8 := Lib.hid hI8
  have HJ8 := Lib.hid hJ8
  clear hI6 hJ8 hI8 K57 K5 K1 hO7 hG7 hA7 HA5 HS HB
  generalize hw8 : World.alloc w7 _ = w8 at *
  generalize w5.heap.size = P at *
  generalize w7.heap.size = Q at *
  clear hw8
  go_loopw [7] (fun i wr => ∃ (j : Nat) (s : St), j ≤ k ∧ i = .int .i64 j ∧ Hid (InAt wr 35 P s.1 s.2) ∧ Hid (InAt wr 45 Q s.1 s.2) ∧ Kept w wr)
    (fun i _ => k - (intOf i).toNat)
  case atStart => exact ⟨0, (zs, false), by omega, rfl, HI8.out, HJ8.out, K8⟩
  case round =>
    obtain ⟨j, s, hj, rfl, HI, HJ, Kj⟩ := hrel
    by_cases hlt : j < k
    · have hlt' : (j : Int) < k := by omega
      obtain ⟨b', o, x, y, rfl, hbl, hc1, hc2, x0, x1, y0, y1⟩ := HT.out.2.2 j hlt
      have d1 := Kj.cel hc1
      have d2 := Kj.cel hc2
      have Hd2 := Lib.hid hc2
      clear hc1 hc2
      by_cases e0 : x = 0
      · have b0 : (x == 0) = true := by simp [e0]
        clear e0
        go_wp2_with fail
        refine (in_U_any P s _ HI.out).mono ?_
        rintro e w1 ⟨rfl, hI1, hO1, _, _⟩
        have HJ1 := Lib.hid (hO1.inAt2 HJ.out (by simp; omega) (by intro q hq; simp at hq; subst hq; exact HI.out.form))
        have HI1 := Lib.hid hI1
        have K1 := Kj.onl hO1 (by intro i hi; simp at hi; omega)
        clear hI1 hO1 d1 d2
        go_wp2_with fail
        refine (rin_U_any Q s _ HJ1.out).mono ?_
        rintro e w2 ⟨rfl, hJ2, hO2, _, _⟩
        have HI2 := Lib.hid (hO2.inAt2 HI1.out (by simp; omega) (by intro q hq; simp at hq; subst hq; exact HJ1.out.form))
        have HJ2 := Lib.hid hJ2
        have K2 := K1.onl hO2 (by intro i hi; simp at hi; omega)
        have tv : ((stU s).1 == (stU s).1) = true := by simp
        clear hJ2 hO2 HI1 HJ1
        generalize (stU s).1 = v at *
        go_wp2_with fail
        generalize hsv : (stU s).2 = s2 at *
        clear hsv
        obtain ⟨z2, bad2⟩ := s2
        dsimp only at *
        obtain ⟨ai, ni, ci, hpi, hSi, _, _⟩ := HI2.out
        obtain ⟨aj, nj, cj, hpj, hSj, _, _⟩ := HJ2.out
        have i0 := at_cell hpi 0 _ rfl
        have i1 := at_cell hpi 1 _ rfl
        have j0 := at_cell hpj 0 _ rfl
        have j1 := at_cell hpj 1 _ rfl
        have gsi := fun m => run_strN 25 9 5 Try.underlying25 Try.underlying5 Try.underlying9 hSi m
        have gsj := fun m => run_strN 25 9 5 Try.underlying25 Try.underlying5 Try.underlying9 hSj m
        have hnj : Hid (((nj : Int) == 0) = z2.isEmpty) := by
          unfold Hid; rw [← hSj.1]; cases z2 <;> simp <;> omega
        have HEnd := Lib.hid (fun m => in_End P (z2, bad2) (w2.drewN m) (((Only.refl [] w2).drewN m).inAt2 HI2.out (by simp) (by simp)))
        have hnj2 := hnj.out
        clear hpi hpj hSi hSj HI HJ
        cases bad2
        · cases hz : z2.isEmpty
          · rw [hz] at hnj2
            have HE : Hid (∀ m, Calls Try.prog 15 #[.pointer (some ⟨P, 0, none⟩)] (w2.drewN m) fun e w' => e = .returned (.bool false) ∧ w2.drewN m = w') := by
              intro m; have := HEnd.out m; simpa [hz] using this
            go_quiet ((go_at_call 15; exact Calls.quiet_of_same (unflip (HE.out _))))
            go_wp2
            go_roundw
            case rel => exact ⟨j + 1, (z2, false), by omega, by go_num, (by unfold Hid; exact ((Only.refl [] w2).drewN _).inAt2 HI2.out (by simp) (by simp)), (by unfold Hid; exact ((Only.refl [] w2).drewN _).inAt2 HJ2.out (by simp) (by simp)), K2.dr ((Dr.refl _).drewN _)⟩
            case measure => simp [intOf]; omega
          · rw [hz] at hnj2
            have HE : Hid (∀ m, Calls Try.prog 15 #[.pointer (some ⟨P, 0, none⟩)] (w2.drewN m) fun e w' => e = .returned (.bool true) ∧ w2.drewN m = w') := by
              intro m; have := HEnd.out m; simpa [hz] using this
            go_quiet ((go_at_call 15; exact Calls.quiet_of_same (unflip (HE.out _))))
            go_wp2
            go_roundw
            case rel => exact ⟨j + 1, (z2, false), by omega, by go_num, (by unfold Hid; exact ((Only.refl [] w2).drewN _).inAt2 HI2.out (by simp) (by simp)), (by unfold Hid; exact ((Only.refl [] w2).drewN _).inAt2 HJ2.out (by simp) (by simp)), K2.dr ((Dr.refl _).drewN _)⟩
            case measure => simp [intOf]; omega
        · clear hnj2
          have HE : Hid (∀ m, Calls Try.prog 15 #[.pointer (some ⟨P, 0, none⟩)] (w2.drewN m) fun e w' => e = .returned (.bool false) ∧ w2.drewN m = w') := by
            intro m; have := HEnd.out m; simpa using this
          go_quiet ((go_at_call 15; exact Calls.quiet_of_same (unflip (HE.out _))))
          go_wp2
          go_roundw
          case rel => exact ⟨j + 1, (z2, true), by omega, by go_num, (by unfold Hid; exact ((Only.refl [] w2).drewN _).inAt2 HI2.out (by simp) (by simp)), (by unfold Hid; exact ((Only.refl [] w2).drewN _).inAt2 HJ2.out (by simp) (by simp)), K2.dr ((Dr.refl _).drewN _)⟩
          case measure => simp [intOf]; omega
      · have b0 : (x == 0) = false := by simp [e0]
        clear e0
        by_cases e1 : x = 1
        · have b1 : (x == 1) = true := by simp [e1]
          clear e1
          go_wp2_with fail
          refine (in_I P s _ HI.out).mono ?_
          rintro e w1 ⟨rfl, hI1, hO1⟩
          have HJ1 := Lib.hid (hO1.inAt2 HJ.out (by simp; omega) (by intro q hq; simp at hq; subst hq; exact HI.out.form))
          have HI1 := Lib.hid hI1
          have K1 := Kj.onl hO1 (by intro i hi; simp at hi; omega)
          clear hI1 hO1 d1 d2
          go_wp2_with fail
          refine (rin_I Q s _ HJ1.out).mono ?_
          rintro e w2 ⟨rfl, hJ2, hO2⟩
          have HI2 := Lib.hid (hO2.inAt2 HI1.out (by simp; omega) (by intro q hq; simp at hq; subst hq; exact HJ1.out.form))
          have HJ2 := Lib.hid hJ2
          have K2 := K1.onl hO2 (by intro i hi; simp at hi; omega)
          have tv : ((stI s).1 == (stI s).1) = true := by simp
          clear hJ2 hO2 HI1 HJ1
          generalize (stI s).1 = v at *
          go_wp2_with fail
          generalize hsv : (stI s).2 = s2 at *
          clear hsv
          obtain ⟨z2, bad2⟩ := s2
          dsimp only at *
          obtain ⟨ai, ni, ci, hpi, hSi, _, _⟩ := HI2.out
          obtain ⟨aj, nj, cj, hpj, hSj, _, _⟩ := HJ2.out
          have i0 := at_cell hpi 0 _ rfl
          have i1 := at_cell hpi 1 _ rfl
          have j0 := at_cell hpj 0 _ rfl
          have j1 := at_cell hpj 1 _ rfl
          have gsi := fun m => run_strN 25 9 5 Try.underlying25 Try.underlying5 Try.underlying9 hSi m
          have gsj := fun m => run_strN 25 9 5 Try.underlying25 Try.underlying5 Try.underlying9 hSj m
          have hnj : Hid (((nj : Int) == 0) = z2.isEmpty) := by
            unfold Hid; rw [← hSj.1]; cases z2 <;> simp <;> omega
          have HEnd := Lib.hid (fun m => in_End P (z2, bad2) (w2.drewN m) (((Only.refl [] w2).drewN m).inAt2 HI2.out (by simp) (by simp)))
          have hnj2 := hnj.out
          clear hpi hpj hSi hSj HI HJ
          cases bad2
          · cases hz : z2.isEmpty
            · rw [hz] at hnj2
              have HE : Hid (∀ m, Calls Try.prog 15 #[.pointer (some ⟨P, 0, none⟩)] (w2.drewN m) fun e w' => e = .returned (.bool false) ∧ w2.drewN m = w') := by
                intro m; have := HEnd.out m; simpa [hz] using this
              go_quiet ((go_at_call 15; exact Calls.quiet_of_same (unflip (HE.out _))))
              go_wp2
              go_roundw
              case rel => exact ⟨j + 1, (z2, false), by omega, by go_num, (by unfold Hid; exact ((Only.refl [] w2).drewN _).inAt2 HI2.out (by simp) (by simp)), (by unfold Hid; exact ((Only.refl [] w2).drewN _).inAt2 HJ2.out (by simp) (by simp)), K2.dr ((Dr.refl _).drewN _)⟩
              case measure => simp [intOf]; omega
            · rw [hz] at hnj2
              have HE : Hid (∀ m, Calls Try.prog 15 #[.pointer (some ⟨P, 0, none⟩)] (w2.drewN m) fun e w' => e = .returned (.bool true) ∧ w2.drewN m = w') := by
                intro m; have := HEnd.out m; simpa [hz] using this
              go_quiet ((go_at_call 15; exact Calls.quiet_of_same (unflip (HE.out _))))
              go_wp2
              go_roundw
              case rel => exact ⟨j + 1, (z2, false), by omega, by go_num, (by unfold Hid; exact ((Only.refl [] w2).drewN _).inAt2 HI2.out (by simp) (by simp)), (by unfold Hid; exact ((Only.refl [] w2).drewN _).inAt2 HJ2.out (by simp) (by simp)), K2.dr ((Dr.refl _).drewN _)⟩
              case measure => simp [intOf]; omega
          · clear hnj2
            have HE : Hid (∀ m, Calls Try.prog 15 #[.pointer (some ⟨P, 0, none⟩)] (w2.drewN m) fun e w' => e = .returned (.bool false) ∧ w2.drewN m = w') := by
              intro m; have := HEnd.out m; simpa using this
            go_quiet ((go_at_call 15; exact Calls.quiet_of_same (unflip (HE.out _))))
            go_wp2
            go_roundw
            case rel => exact ⟨j + 1, (z2, true), by omega, by go_num, (by unfold Hid; exact ((Only.refl [] w2).drewN _).inAt2 HI2.out (by simp) (by simp)), (by unfold Hid; exact ((Only.refl [] w2).drewN _).inAt2 HJ2.out (by simp) (by simp)), K2.dr ((Dr.refl _).drewN _)⟩
            case measure => simp [intOf]; omega
        · have b1 : (x == 1) = false := by simp [e1]
          clear e1
          by_cases e2 : x = 2
          · have b2 : (x == 2) = true := by simp [e2]
            clear e2
            go_wp2_with fail
            have KD : Kept w wr.drew := Kj.dr ⟨1, rfl⟩
            have HD := Lib.hid (((Only.refl [] wr).drew).inAt2 HI.out (by simp) (by simp))
            have HE := Lib.hid (((Only.refl [] wr).drew).inAt2 HJ.out (by simp) (by simp))
            clear d1 d2
            go_region_held3 (fun w' => w'.cell? ⟨b', o + j * 2 + 1, none⟩ = some (.int .i64 y)) (first | exact K2.cel Hd2.out | exact K1.cel Hd2.out | exact KD.cel Hd2.out) (first | (go_at_call 14; refine (in_S P s y _ y0 y1 HD.out).mono ?_; rintro e w1 ⟨rfl, hI1, hO1⟩; have K1 := KD.onl hO1 (by intro i hi; simp at hi; omega); have HJ1 := Lib.hid (hO1.inAt2 HE.out (by simp; omega) (by intro q hq; simp at hq; subst hq; exact HD.out.form)); have HI1 := Lib.hid hI1; clear hI1 hO1) | (go_at_call 18; refine (rin_S Q s y _ y0 y1 HJ1.out).mono ?_; rintro e w2 ⟨rfl, hJ2, hO2⟩; have K2 := K1.onl hO2 (by intro i hi; simp at hi; omega); have HI2 := Lib.hid (hO2.inAt2 HI1.out (by simp; omega) (by intro q hq; simp at hq; subst hq; exact HJ1.out.form)); have HJ2 := Lib.hid hJ2; clear hJ2 hO2))
            have tv : ((strOf (stS y s).1).toList == (strOf (stS y s).1).toList) = true := str_eq _
            clear HI1 HJ1 HD HE
            generalize strOf (stS y s).1 = v at *
            go_wp2_with fail
            generalize hsv : (stS y s).2 = s2 at *
            clear hsv
            obtain ⟨z2, bad2⟩ := s2
            dsimp only at *
            obtain ⟨ai, ni, ci, hpi, hSi, _, _⟩ := HI2.out
            obtain ⟨aj, nj, cj, hpj, hSj, _, _⟩ := HJ2.out
            have i0 := at_cell hpi 0 _ rfl
            have i1 := at_cell hpi 1 _ rfl
            have j0 := at_cell hpj 0 _ rfl
            have j1 := at_cell hpj 1 _ rfl
            have gsi := fun m => run_strN 25 9 5 Try.underlying25 Try.underlying5 Try.underlying9 hSi m
            have gsj := fun m => run_strN 25 9 5 Try.underlying25 Try.underlying5 Try.underlying9 hSj m
            have hnj : Hid (((nj : Int) == 0) = z2.isEmpty) := by
              unfold Hid; rw [← hSj.1]; cases z2 <;> simp <;> omega
            have HEnd := Lib.hid (fun m => in_End P (z2, bad2) (w2.drewN m) (((Only.refl [] w2).drewN m).inAt2 HI2.out (by simp) (by simp)))
            have hnj2 := hnj.out
            clear hpi hpj hSi hSj HI HJ
            cases bad2
            · cases hz : z2.isEmpty
              · rw [hz] at hnj2
                have HE : Hid (∀ m, Calls Try.prog 15 #[.pointer (some ⟨P, 0, none⟩)] (w2.drewN m) fun e w' => e = .returned (.bool false) ∧ w2.drewN m = w') := by
                  intro m; have := HEnd.out m; simpa [hz] using this
                go_quiet ((go_at_call 15; exact Calls.quiet_of_same (unflip (HE.out _))))
                go_wp2
                go_roundw
                case rel => exact ⟨j + 1, (z2, false), by omega, by go_num, (by unfold Hid; exact ((Only.refl [] w2).drewN _).inAt2 HI2.out (by simp) (by simp)), (by unfold Hid; exact ((Only.refl [] w2).drewN _).inAt2 HJ2.out (by simp) (by simp)), K2.dr ((Dr.refl _).drewN _)⟩
                case measure => simp [intOf]; omega
              · rw [hz] at hnj2
                have HE : Hid (∀ m, Calls Try.prog 15 #[.pointer (some ⟨P, 0, none⟩)] (w2.drewN m) fun e w' => e = .returned (.bool true) ∧ w2.drewN m = w') := by
                  intro m; have := HEnd.out m; simpa [hz] using this
                go_quiet ((go_at_call 15; exact Calls.quiet_of_same (unflip (HE.out _))))
                go_wp2
                go_roundw
                case rel => exact ⟨j + 1, (z2, false), by omega, by go_num, (by unfold Hid; exact ((Only.refl [] w2).drewN _).inAt2 HI2.out (by simp) (by simp)), (by unfold Hid; exact ((Only.refl [] w2).drewN _).inAt2 HJ2.out (by simp) (by simp)), K2.dr ((Dr.refl _).drewN _)⟩
                case measure => simp [intOf]; omega
            · clear hnj2
              have HE : Hid (∀ m, Calls Try.prog 15 #[.pointer (some ⟨P, 0, none⟩)] (w2.drewN m) fun e w' => e = .returned (.bool false) ∧ w2.drewN m = w') := by
                intro m; have := HEnd.out m; simpa using this
              go_quiet ((go_at_call 15; exact Calls.quiet_of_same (unflip (HE.out _))))
              go_wp2
              go_roundw
              case rel => exact ⟨j + 1, (z2, true), by omega, by go_num, (by unfold Hid; exact ((Only.refl [] w2).drewN _).inAt2 HI2.out (by simp) (by simp)), (by unfold Hid; exact ((Only.refl [] w2).drewN _).inAt2 HJ2.out (by simp) (by simp)), K2.dr ((Dr.refl _).drewN _)⟩
              case measure => simp [intOf]; omega
          · have b2 : (x == 2) = false := by simp [e2]
            clear e2
            obtain ⟨u0, u1⟩ := wrap_range y
            go_wp2_with fail
            have KD : Kept w wr.drew := Kj.dr ⟨1, rfl⟩
            have HD := Lib.hid (((Only.refl [] wr).drew).inAt2 HI.out (by simp) (by simp))
            have HE := Lib.hid (((Only.refl [] wr).drew).inAt2 HJ.out (by simp) (by simp))
            clear d1 d2
            go_region_held3 (fun w' => w'.cell? ⟨b', o + j * 2 + 1, none⟩ = some (.int .i64 y)) (first | exact K2.cel Hd2.out | exact K1.cel Hd2.out | exact KD.cel Hd2.out) (first | (go_at_call 19; refine (in_Small P s (IntKind.u64.wrap y) _ u0 u1 HD.out).mono ?_; rintro e w1 ⟨rfl, hI1, hO1⟩; have K1 := KD.onl hO1 (by intro i hi; simp at hi; omega); have HJ1 := Lib.hid (hO1.inAt2 HE.out (by simp; omega) (by intro q hq; simp at hq; subst hq; exact HD.out.form)); have HI1 := Lib.hid hI1; clear hI1 hO1) | (go_at_call 20; refine (rin_Small Q s (IntKind.u64.wrap y) _ u0 u1 HJ1.out).mono ?_; rintro e w2 ⟨rfl, hJ2, hO2⟩; have K2 := K1.onl hO2 (by intro i hi; simp at hi; omega); have HI2 := Lib.hid (hO2.inAt2 HI1.out (by simp; omega) (by intro q hq; simp at hq; subst hq; exact HJ1.out.form)); have HJ2 := Lib.hid hJ2; clear hJ2 hO2))
            have tv : ((stSmall (IntKind.u64.wrap y) s).1 == (stSmall (IntKind.u64.wrap y) s).1) = true := by simp
            clear HI1 HJ1 HD HE
            generalize (stSmall (IntKind.u64.wrap y) s).1 = v at *
            go_wp2_with fail
            generalize hsv : (stSmall (IntKind.u64.wrap y) s).2 = s2 at *
            clear hsv
            obtain ⟨z2, bad2⟩ := s2
            dsimp only at *
            obtain ⟨ai, ni, ci, hpi, hSi, _, _⟩ := HI2.out
            obtain ⟨aj, nj, cj, hpj, hSj, _, _⟩ := HJ2.out
            have i0 := at_cell hpi 0 _ rfl
            have i1 := at_cell hpi 1 _ rfl
            have j0 := at_cell hpj 0 _ rfl
            have j1 := at_cell hpj 1 _ rfl
            have gsi := fun m => run_strN 25 9 5 Try.underlying25 Try.underlying5 Try.underlying9 hSi m
            have gsj := fun m => run_strN 25 9 5 Try.underlying25 Try.underlying5 Try.underlying9 hSj m
            have hnj : Hid (((nj : Int) == 0) = z2.isEmpty) := by
              unfold Hid; rw [← hSj.1]; cases z2 <;> simp <;> omega
            have HEnd := Lib.hid (fun m => in_End P (z2, bad2) (w2.drewN m) (((Only.refl [] w2).drewN m).inAt2 HI2.out (by simp) (by simp)))
            have hnj2 := hnj.out
            clear hpi hpj hSi hSj HI HJ
            cases bad2
            · cases hz : z2.isEmpty
              · rw [hz] at hnj2
                have HE : Hid (∀ m, Calls Try.prog 15 #[.pointer (some ⟨P, 0, none⟩)] (w2.drewN m) fun e w' => e = .returned (.bool false) ∧ w2.drewN m = w') := by
                  intro m; have := HEnd.out m; simpa [hz] using this
                go_quiet ((go_at_call 15; exact Calls.quiet_of_same (unflip (HE.out _))))
                go_wp2
                go_roundw
                case rel => exact ⟨j + 1, (z2, false), by omega, by go_num, (by unfold Hid; exact ((Only.refl [] w2).drewN _).inAt2 HI2.out (by simp) (by simp)), (by unfold Hid; exact ((Only.refl [] w2).drewN _).inAt2 HJ2.out (by simp) (by simp)), K2.dr ((Dr.refl _).drewN _)⟩
                case measure => simp [intOf]; omega
              · rw [hz] at hnj2
                have HE : Hid (∀ m, Calls Try.prog 15 #[.pointer (some ⟨P, 0, none⟩)] (w2.drewN m) fun e w' => e = .returned (.bool true) ∧ w2.drewN m = w') := by
                  intro m; have := HEnd.out m; simpa [hz] using this
                go_quiet ((go_at_call 15; exact Calls.quiet_of_same (unflip (HE.out _))))
                go_wp2
                go_roundw
                case rel => exact ⟨j + 1, (z2, false), by omega, by go_num, (by unfold Hid; exact ((Only.refl [] w2).drewN _).inAt2 HI2.out (by simp) (by simp)), (by unfold Hid; exact ((Only.refl [] w2).drewN _).inAt2 HJ2.out (by simp) (by simp)), K2.dr ((Dr.refl _).drewN _)⟩
                case measure => simp [intOf]; omega
            · clear hnj2
              have HE : Hid (∀ m, Calls Try.prog 15 #[.pointer (some ⟨P, 0, none⟩)] (w2.drewN m) fun e w' => e = .returned (.bool false) ∧ w2.drewN m = w') := by
                intro m; have := HEnd.out m; simpa using this
              go_quiet ((go_at_call 15; exact Calls.quiet_of_same (unflip (HE.out _))))
              go_wp2
              go_roundw
              case rel => exact ⟨j + 1, (z2, true), by omega, by go_num, (by unfold Hid; exact ((Only.refl [] w2).drewN _).inAt2 HI2.out (by simp) (by simp)), (by unfold Hid; exact ((Only.refl [] w2).drewN _).inAt2 HJ2.out (by simp) (by simp)), K2.dr ((Dr.refl _).drewN _)⟩
              case measure => simp [intOf]; omega
    · have hge : (k : Int) ≤ j := by omega
      go_wp2
      go_ret
      exact ⟨rfl, Kj⟩
set_option maxRecDepth 100000 in
set_option maxHeartbeats 1000000 in
theorem encReads_law (v0 v1 : Value) (x0 : List Int) (x1 : List TyStep.den) (w : World) (w0 : RepV w (.sl (.int .u8)) v0 x0) (w1 : RepV w (.sl TyStep) v1 x1) :
    Calls Try.prog 6 #[v0, v1] w fun e w' => e = .returned (.bool true) ∧ Below w.heap.size w w' := by
  obtain ⟨a, m, c, rfl, hs0⟩ := repV_sl w0
  obtain ⟨b, k, d, rfl, hs1⟩ := repV_sl w1
  obtain ⟨hn, hw⟩ := slT_int hs0
  have hl := slT_steps hs1
  have hB : IsB x0 := isB_of_mem fun x hx => wf_bd_u8 (hw x hx)
  by_cases h1 : 300 < (m : Int)
  · clear w0 w1 hs0 hs1 hl hn hw hB
    go_enter Try.func6, Try.ntmps6
    go_wp2_with (go_at_call 8; refine (awake3 _).mono ?_; rintro e w1 ⟨rfl, K1⟩)
    go_ret
    exact ⟨rfl, K1⟩
  · by_cases h2 : 30 < (k : Int)
    · have h1' : (m : Int) ≤ 300 := by omega
      clear w0 w1 hs0 hs1 hl hn hw hB
      go_enter Try.func6, Try.ntmps6
      go_wp2_with (go_at_call 8; refine (awake3 _).mono ?_; rintro e w1 ⟨rfl, K1⟩)
      go_ret
      exact ⟨rfl, K1⟩
    · exact encReads_walk a b m k c d x0 w hn hB hl (by omega) (by omega)
end Go.Proofs.Ytciolohapanpfab
