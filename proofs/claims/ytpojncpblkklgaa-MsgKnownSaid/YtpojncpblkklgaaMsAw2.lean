/- What the document tells of a message's being read. -/
import Derived.Test.YtpojncpblkklgaaMsAw
import Derived.Test.YtpojncpblkklgaaMsRef4
import Derived.Deep.CutRange
import Derived.Deep.RegionHeld3
set_option linter.unusedVariables false
set_option linter.unusedSimpArgs false
namespace Go.Proofs.Ytpojncpblkklgaa
open Go.RowKit
/-- a message's rows -/
def MsgAt (V : World) (la : Option Addr) (ln lc : Nat) (ta : Option Addr) (tn tc : Nat) (L : List (Int × List Int)) (T : List Int) : Prop := ∃ R, SlQ V la ln lc R ∧ BytesAt V R L ∧ Sl .u64 V ta tn tc T
theorem MsgAt.kept {V V' : World} {la : Option Addr} {ln lc : Nat} {ta : Option Addr} {tn tc : Nat} {L : List (Int × List Int)} {T : List Int} (h : MsgAt V la ln lc ta tn tc L T) (k : Kept V V') : MsgAt V' la ln lc ta tn tc L T := by
  obtain ⟨R, h1, h2, h3⟩ := h
  exact ⟨R, h1.kept k, h2.kept k, k.sl h3⟩
/-- the rows of the document's own message -/
def RefAt (V : World) (a : Option Addr) (n c : Nat) (a2 : Option Addr) (n2 c2 : Nat) (L : List (Int × List Int)) (T : List Int) : Prop := SlRR V a n c L ∧ Sl .u64 V a2 n2 c2 T
theorem RefAt.kept {V V' : World} {a : Option Addr} {n c : Nat} {a2 : Option Addr} {n2 c2 : Nat} {L : List (Int × List Int)} {T : List Int} (h : RefAt V a n c a2 n2 c2 L T) (k : Kept V V') : RefAt V' a n c a2 n2 c2 L T := ⟨h.1.kept k, k.sl h.2⟩
theorem cGood {k f t e o p te : Int} {la : Option Addr} {ln lc : Nat} {ta : Option Addr} {tn tc : Nat} {L : List (Int × List Int)} {T : List Int} {V : World} (h : MsgAt V la ln lc ta tn tc L T) (hW : IsW T) (hn : ln ≤ 100) {g : Bool} (hg : goodM ⟨k, f, t, e, o, p, la, ln, lc, ta, tn, tc, te⟩ (lens L) T = g) :
    Calls Try.prog 7 #[.agg #[.int .i64 k, .int .i64 f, .int .i64 t, .int .i64 e, .int .i64 o, .int .i64 p, .slice la ln lc, .slice ta tn tc, .int .i64 te]] V fun E w' => E = .returned (.bool g) ∧ Kept V w' := by
  obtain ⟨R, h1, h2, h3⟩ := h
  have := msg_good ⟨k, f, t, e, o, p, la, ln, lc, ta, tn, tc, te⟩ (lens L) T V (by have h := h1.slM; rwa [rvM_lens h2] at h) h3 hW hn
  rwa [hg] at this
theorem cPut {k f t e o p te : Int} {la : Option Addr} {ln lc : Nat} {ta : Option Addr} {tn tc : Nat} {L : List (Int × List Int)} {T : List Int} {V : World} (h : MsgAt V la ln lc ta tn tc L T) (hz : ∀ l ∈ L, IsB l.2) (hW : IsW T) (hn : ln ≤ 100) :
    Calls Try.prog 8 #[.agg #[.int .i64 k, .int .i64 f, .int .i64 t, .int .i64 e, .int .i64 o, .int .i64 p, .slice la ln lc, .slice ta tn tc, .int .i64 te]] V fun E w' => ∃ a n c, E = .returned (.slice a n c) ∧ Sl .u8 w' a n c (if goodM ⟨k, f, t, e, o, p, la, ln, lc, ta, tn, tc, te⟩ (lens L) T = true then encM k f e o p L T te else []) ∧ Kept V w' := by
  obtain ⟨R, h1, h2, h3⟩ := h
  exact msg_put ⟨k, f, t, e, o, p, la, ln, lc, ta, tn, tc, te⟩ R L T V h1 h2 hz h3 hW hn
theorem cGet {k f t e o p te : Int} {la0 : Option Addr} {ln lc0 : Nat} {ta0 : Option Addr} {tn tc0 : Nat} {L : List (Int × List Int)} {T : List Int} {V : World} {a : Option Addr} {n c : Nat} (hS : Sl .u8 V a n c (encM k f e o p L T te)) (hg : goodM ⟨k, f, t, e, o, p, la0, ln, lc0, ta0, tn, tc0, te⟩ (lens L) T = true) (hl : L.length = ln) (ht : T.length = tn) (hst : ∀ l ∈ L, (0 ≤ l.1 ∧ l.1 ≤ 18446744073709551615) ∧ IsB l.2) (hW : IsW T) :
    Calls Try.prog 10 #[.slice a n c] V fun E w' => ∃ la lc ta tc, E = .returned (.tuple #[.agg #[.int .i64 k, .int .i64 f, .int .i64 t, .int .i64 e, .int .i64 o, .int .i64 p, .slice la ln lc, .slice ta tn tc, .int .i64 te], .int .i64 0]) ∧ MsgAt w' la ln lc ta tn tc L T ∧ Kept V w' := by
  refine (msg_get ⟨k, f, t, e, o, p, la0, ln, lc0, ta0, tn, tc0, te⟩ L T a n c V hS hg hl ht hst hW).mono ?_
  rintro E w' ⟨la, lc, ta, tc, R, rfl, h1, h2, h3, K⟩
  exact ⟨la, lc, ta, tc, rfl, ⟨R, h1, h2, h3⟩, K⟩
theorem cSame {k f t e o p te k' f' t' e' o' p' te' : Int} {la : Option Addr} {ln lc : Nat} {ta : Option Addr} {tn tc : Nat} {L : List (Int × List Int)} {T : List Int} {la' : Option Addr} {ln' lc' : Nat} {ta' : Option Addr} {tn' tc' : Nat} {L' : List (Int × List Int)} {T' : List Int} {V : World} (h : MsgAt V la ln lc ta tn tc L T) (h' : MsgAt V la' ln' lc' ta' tn' tc' L' T') (hz : ∀ l ∈ L, IsB l.2) (hz' : ∀ l ∈ L', IsB l.2) :
    Calls Try.prog 11 #[.agg #[.int .i64 k, .int .i64 f, .int .i64 t, .int .i64 e, .int .i64 o, .int .i64 p, .slice la ln lc, .slice ta tn tc, .int .i64 te], .agg #[.int .i64 k', .int .i64 f', .int .i64 t', .int .i64 e', .int .i64 o', .int .i64 p', .slice la' ln' lc', .slice ta' tn' tc', .int .i64 te']] V fun E w' => E = .returned (.bool (decide (k = k' ∧ f = f' ∧ t = t' ∧ e = e' ∧ o = o' ∧ p = p' ∧ te = te' ∧ T = T' ∧ L = L'))) ∧ Kept V w' := by
  obtain ⟨R, h1, h2, h3⟩ := h
  obtain ⟨R', h1', h2', h3'⟩ := h'
  exact msg_same ⟨k, f, t, e, o, p, la, ln, lc, ta, tn, tc, te⟩ ⟨k', f', t', e', o', p', la', ln', lc', ta', tn', tc', te'⟩ R R' L L' T T' V h1 h1' h2 h2' hz hz' h3 h3'
theorem cMsgOf {k f t e o p te : Int} {la : Option Addr} {ln lc : Nat} {ta : Option Addr} {tn tc : Nat} {L : List (Int × List Int)} {T : List Int} {V : World} (h : MsgAt V la ln lc ta tn tc L T) (hn : ln ≤ 1000) (ht : tn ≤ 1000) :
    Calls Try.prog 14 #[.agg #[.int .i64 k, .int .i64 f, .int .i64 t, .int .i64 e, .int .i64 o, .int .i64 p, .slice la ln lc, .slice ta tn tc, .int .i64 te]] V fun E w' => ∃ a c a2 c2, E = .returned (.agg #[.int .i64 k, .int .i64 f, .int .i64 t, .int .i64 e, .int .i64 o, .int .i64 p, .slice a ln c, .slice a2 tn c2, .int .i64 te]) ∧ RefAt w' a ln c a2 tn c2 L T ∧ Kept V w' := by
  obtain ⟨R, h1, h2, h3⟩ := h
  refine (law_msgOf ⟨k, f, t, e, o, p, la, ln, lc, ta, tn, tc, te⟩ R L T V h1 h2 h3 hn ht).mono ?_
  rintro E w' ⟨a, c, a2, c2, rfl, g1, g2, K⟩
  exact ⟨a, c, a2, c2, rfl, ⟨g1, g2⟩, K⟩
theorem cAlike {k f t e o p te k' f' t' e' o' p' te' : Int} {a : Option Addr} {n c : Nat} {a2 : Option Addr} {n2 c2 : Nat} {L : List (Int × List Int)} {T : List Int} {a' : Option Addr} {n' c' : Nat} {a2' : Option Addr} {n2' c2' : Nat} {L' : List (Int × List Int)} {T' : List Int} {V : World} (h : RefAt V a n c a2 n2 c2 L T) (h' : RefAt V a' n' c' a2' n2' c2' L' T') (hz : ∀ l ∈ L, IsB l.2) (hz' : ∀ l ∈ L', IsB l.2) :
    Calls Try.prog 13 #[.agg #[.int .i64 k, .int .i64 f, .int .i64 t, .int .i64 e, .int .i64 o, .int .i64 p, .slice a n c, .slice a2 n2 c2, .int .i64 te], .agg #[.int .i64 k', .int .i64 f', .int .i64 t', .int .i64 e', .int .i64 o', .int .i64 p', .slice a' n' c', .slice a2' n2' c2', .int .i64 te']] V fun E w' => E = .returned (.bool (decide (k = k' ∧ f = f' ∧ t = t' ∧ e = e' ∧ o = o' ∧ p = p' ∧ te = te' ∧ T = T' ∧ L = L'))) ∧ Kept V w' := by
  have hh := law_alike k f t e o p te k' f' t' e' o' p' te' a n c a2 n2 c2 a' n' c' a2' n2' c2' L L' T T' V h.1 h.2 h'.1 h'.2 hz hz'
  have e0 : decide (k = k' ∧ f = f' ∧ t = t' ∧ e = e' ∧ o = o' ∧ p = p' ∧ te = te' ∧ L = L' ∧ T = T') = decide (k = k' ∧ f = f' ∧ t = t' ∧ e = e' ∧ o = o' ∧ p = p' ∧ te = te' ∧ T = T' ∧ L = L') := decide_eq_decide.2 ⟨fun ⟨h1, h2, h3, h4, h5, h6, h7, h8, h9⟩ => ⟨h1, h2, h3, h4, h5, h6, h7, h9, h8⟩, fun ⟨h1, h2, h3, h4, h5, h6, h7, h8, h9⟩ => ⟨h1, h2, h3, h4, h5, h6, h7, h9, h8⟩⟩
  rwa [e0] at hh
theorem someL_isB : ∀ l ∈ someL, IsB l.2 := by
  intro l hl
  simp only [someL, List.mem_cons, List.not_mem_nil, or_false] at hl
  rcases hl with rfl | rfl <;> exact isB_of_mem (by decide)
theorem someL_st : ∀ l ∈ someL, (0 ≤ l.1 ∧ l.1 ≤ 18446744073709551615) ∧ IsB l.2 := by
  intro l hl
  refine ⟨?_, someL_isB l hl⟩
  simp only [someL, List.mem_cons, List.not_mem_nil, or_false] at hl
  rcases hl with rfl | rfl <;> decide
theorem goodSome : goodM ⟨1, 0, 1, 3, 5, 2, none, 2, 0, none, 0, 0, 0⟩ (lens someL) [] = true := by decide +kernel
theorem goodSome' (la ta : Option Addr) (lc tc : Nat) : goodM ⟨1, 0, 1, 3, 5, 2, la, 2, lc, ta, 0, tc, 0⟩ (lens someL) [] = true := goodSome
theorem isW_nil : IsW [] := isW_of_mem (by simp)
theorem lSome (w : World) :
    Calls Try.prog 6 #[] w fun E w' => ∃ la lc, E = .returned (.agg #[.int .i64 1, .int .i64 0, .int .i64 1, .int .i64 3, .int .i64 5, .int .i64 2, .slice la 2 lc, .slice none 0 0, .int .i64 0]) ∧ MsgAt w' la 2 lc none 0 0 someL [] ∧ Kept w w' := by
  refine (law_some w).mono ?_
  rintro E w' ⟨la, lc, R, rfl, h1, h2, K⟩
  exact ⟨la, lc, rfl, ⟨R, h1, h2, sl_nil _ _⟩, K⟩
theorem sameSome : decide ((1 : Int) = 1 ∧ (0 : Int) = 0 ∧ (1 : Int) = 1 ∧ (3 : Int) = 3 ∧ (5 : Int) = 5 ∧ (2 : Int) = 2 ∧ (0 : Int) = 0 ∧ ([] : List Int) = [] ∧ someL = someL) = true := by simp
set_option maxRecDepth 100000 in
set_option maxHeartbeats 4000000 in
theorem awake22 (w : World) : Calls Try.prog 5 #[] w fun e w' => e = .returned (.bool true) ∧ Kept w w' := by
  have HSo := Lib.hid lSome
  have HGd := Lib.hid (fun V la lc (h : MsgAt V la 2 lc none 0 0 someL []) => cGood (k := 1) (f := 0) (t := 1) (e := 3) (o := 5) (p := 2) (te := 0) h isW_nil (by omega) (goodSome' la none lc 0))
  have HPt := Lib.hid (fun V la lc (h : MsgAt V la 2 lc none 0 0 someL []) => cPut (k := 1) (f := 0) (t := 1) (e := 3) (o := 5) (p := 2) (te := 0) h someL_isB isW_nil (by omega))
  simp only [goodSome', if_true] at HPt
  have HGt := Lib.hid (fun V a n c hS => cGet (V := V) (a := a) (n := n) (c := c) (k := 1) (f := 0) (t := 1) (e := 3) (o := 5) (p := 2) (te := 0) (L := someL) (T := []) hS goodSome rfl rfl someL_st isW_nil)
  generalize encM 1 0 3 5 2 someL [] 0 = ZS at *
  have KW := Kept.refl w
  go_enter Try.func5, Try.ntmps5
  go_upto_region 2 with (first
    | (go_at_call 6; refine (HSo.out _).mono ?_; rintro E V1 ⟨la1, lc1, rfl, h1, J⟩; replace KW := KW.trans J; clear J; have H1 := Lib.hid h1; clear h1)
    | (go_at_call 8; refine (HPt.out _ _ _ H1.out).mono ?_; rintro E V2 ⟨a, n, c, rfl, h2, J⟩; replace KW := KW.trans J; clear J; have H2 := Lib.hid h2; clear h2)
    | (go_at_call 10; refine (HGt.out _ _ _ _ H2.out).mono ?_; rintro E V3 ⟨la, lc, ta, tc, rfl, h3, J⟩; replace KW := KW.trans J; clear J; have H3 := Lib.hid h3; clear h3))
  have hb := heap_alloc_new V3 (.cells #[.int .i64 1, .int .i64 0, .int .i64 1, .int .i64 3, .int .i64 5, .int .i64 2, .slice la 2 lc, .slice ta 0 tc, .int .i64 0] 29)
  have KB := kept_al V3 (.cells #[.int .i64 1, .int .i64 0, .int .i64 1, .int .i64 3, .int .i64 5, .int .i64 2, .slice la 2 lc, .slice ta 0 tc, .int .i64 0] 29)
  have HM := Lib.hid (H3.out.kept KB)
  replace KW := KW.trans KB
  clear KB H1 H2 H3 HPt HGt
  generalize V3.heap.size = q1 at *
  generalize World.alloc V3 _ = Wb at *
  have HC : Hid (∀ Z, Kept Wb Z → Z.cell? ⟨q1, 0, none⟩ = some (.int .i64 1) ∧ Z.cell? ⟨q1, 1, none⟩ = some (.int .i64 0) ∧ Z.cell? ⟨q1, 2, none⟩ = some (.int .i64 1) ∧ Z.cell? ⟨q1, 3, none⟩ = some (.int .i64 3) ∧ Z.cell? ⟨q1, 4, none⟩ = some (.int .i64 5) ∧ Z.cell? ⟨q1, 5, none⟩ = some (.int .i64 2) ∧ Z.cell? ⟨q1, 6, none⟩ = some (.slice la 2 lc) ∧ Z.cell? ⟨q1, 7, none⟩ = some (.slice ta 0 tc) ∧ Z.cell? ⟨q1, 8, none⟩ = some (.int .i64 0)) := fun Z kk => nine_cells (kk.only.heap hb (by simp))
  clear hb
  have HSm := Lib.hid (fun V la1 lc1 (kk : Kept Wb V) (h : MsgAt V la1 2 lc1 none 0 0 someL []) => cSame (k := 1) (f := 0) (t := 1) (e := 3) (o := 5) (p := 2) (te := 0) (k' := 1) (f' := 0) (t' := 1) (e' := 3) (o' := 5) (p' := 2) (te' := 0) (HM.out.kept kk) h someL_isB someL_isB)
  have HMm := Lib.hid (fun V (kk : Kept Wb V) => cMsgOf (k := 1) (f := 0) (t := 1) (e := 3) (o := 5) (p := 2) (te := 0) (HM.out.kept kk) (by omega) (by omega))
  have HMs := Lib.hid (fun V la1 lc1 (h : MsgAt V la1 2 lc1 none 0 0 someL []) => cMsgOf (k := 1) (f := 0) (t := 1) (e := 3) (o := 5) (p := 2) (te := 0) h (by omega) (by omega))
  have HAl := Lib.hid (fun V a c a2 c2 a' c' a2' c2' (h : RefAt V a 2 c a2 0 c2 someL []) (h' : RefAt V a' 2 c' a2' 0 c2' someL []) => cAlike (k := 1) (f := 0) (t := 1) (e := 3) (o := 5) (p := 2) (te := 0) (k' := 1) (f' := 0) (t' := 1) (e' := 3) (o' := 5) (p' := 2) (te' := 0) h h' someL_isB someL_isB)
  rw [sameSome] at HSm HAl
  have KD : Kept Wb Wb.drew := (Kept.refl _).dr ⟨1, rfl⟩
  have tk1 : True := trivial
  have tn1 : True := trivial
  go_region_held3 (fun Z => Z.cell? ⟨q1, 0, none⟩ = some (.int .i64 1) ∧ Z.cell? ⟨q1, 1, none⟩ = some (.int .i64 0) ∧ Z.cell? ⟨q1, 2, none⟩ = some (.int .i64 1) ∧ Z.cell? ⟨q1, 3, none⟩ = some (.int .i64 3) ∧ Z.cell? ⟨q1, 4, none⟩ = some (.int .i64 5) ∧ Z.cell? ⟨q1, 5, none⟩ = some (.int .i64 2) ∧ Z.cell? ⟨q1, 6, none⟩ = some (.slice la 2 lc) ∧ Z.cell? ⟨q1, 7, none⟩ = some (.slice ta 0 tc) ∧ Z.cell? ⟨q1, 8, none⟩ = some (.int .i64 0)) (exact HC.out _ KD) (first
    | (go_at_call 6; have tk2 := tk1; clear tk1; refine (HSo.out _).mono ?_; rintro E V4 ⟨la4, lc4, rfl, h, J⟩; replace KD := KD.trans J; clear J; have H4 := Lib.hid h; clear h)
    | (go_at_call 6; have tk3 := tk2; clear tk2; refine (HSo.out _).mono ?_; rintro E V5 ⟨la5, lc5, rfl, h, J⟩; replace KD := KD.trans J; clear J; have H5 := Lib.hid h; clear h)
    | (go_at_call 6; have tk4 := tk3; clear tk3; refine (HSo.out _).mono ?_; rintro E V6 ⟨la6, lc6, rfl, h, J⟩; replace KD := KD.trans J; (first | (replace H7 := Lib.hid (H7.out.kept J)) | skip); clear J; have H6 := Lib.hid h; clear h)
    | (go_at_call 7; refine (HGd.out _ _ _ H4.out).mono ?_; rintro E V7 ⟨rfl, J⟩; replace KD := KD.trans J; clear J)
    | (go_at_call 11; refine (HSm.out _ _ _ KD H5.out).mono ?_; rintro E V8 ⟨rfl, J⟩; replace KD := KD.trans J; clear J)
    | (go_at_call 14; have tn2 := tn1; with_reducible refine (HMm.out _ KD).mono ?_; clear tn1; rintro E V9 ⟨a7, c7, b7, d7, rfl, h, J⟩; replace KD := KD.trans J; (first | (replace H6 := Lib.hid (H6.out.kept J)) | skip); (first | (replace H8 := Lib.hid (H8.out.kept J)) | skip); clear J; have H7 := Lib.hid h; clear h)
    | (go_at_call 14; with_reducible refine (HMs.out _ _ _ H6.out).mono ?_; rintro E V10 ⟨a8, c8, b8, d8, rfl, h, J⟩; replace KD := KD.trans J; (first | (replace H7 := Lib.hid (H7.out.kept J)) | skip); clear J; have H8 := Lib.hid h; clear h)
    | (go_at_call 13; refine (HAl.out _ _ _ _ _ _ _ _ _ H7.out H8.out).mono ?_; rintro E V11 ⟨rfl, J⟩; replace KD := KD.trans J; clear J))
  all_goals (
    go_wp2
    exact bodyPost_ret (v := .bool true) (by simp [results, Try.results5, go_sem]) rfl ⟨rfl, KW.trans KD⟩)
end Go.Proofs.Ytpojncpblkklgaa
