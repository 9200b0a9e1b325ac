/- msg.Put: a good message's bytes, else none. -/
import Derived.Test.YtnnjflljlooifaaMsgGood2
import Derived.Test.YtnnjflljlooifaaEncOut2
import Derived.Test.YtnnjflljlooifaaMsMath
import Derived.Deep.CutRange
set_option linter.unusedVariables false
set_option linter.unusedSimpArgs false
namespace Go.Proofs.Ytnnjflljlooifaa
open Go.RowKit
/-- an Out made in X holds xs now -/
structure OutW (X w : World) (p : Nat) (g : Option Nat) (xs : List Int) (B : Nat) : Prop where
  at' : OutAt w p g xs
  only : Only [p] X w
  went : Went X none g
  len : xs.length ≤ B
theorem OutW.lt {X w : World} {p : Nat} {g : Option Nat} {xs : List Int} {B : Nat} (h : OutW X w p g xs B) : ∀ k, g = some k → k < w.heap.size := by
  obtain ⟨⟨a, c, hp, happ, hg⟩, _, _, _⟩ := h
  exact happ.lt
theorem outW_new (w : World) : OutW (w.alloc (.cells #[.slice none 0 0] 69 (0, 0))) (w.alloc (.cells #[.slice none 0 0] 69 (0, 0))) w.heap.size none [] 0 := ⟨outAt_nil w, Only.refl _ _, .inl rfl, Nat.le_refl _⟩
theorem OutW.keep {X w w' : World} {p : Nat} {g : Option Nat} {xs : List Int} {B : Nat} (h : OutW X w p g xs B) (k : Kept w w') : OutW X w' p g xs B := ⟨k.only.outAt h.at' (by simp) (by simp), h.only.then k.only (by simp), h.went, h.len⟩
theorem outW_U {X : World} (p : Nat) (g : Option Nat) (xs : List Int) (B : Nat) (x : Int) (w : World) (h0 : 0 ≤ x) (h1 : x ≤ 18446744073709551615) (hO : OutW X w p g xs B) (hb : B ≤ 35184372088832) :
    Calls Try.prog 29 #[.pointer (some ⟨p, 0, none⟩), .int .u64 x] w fun e w' => e = .returned (.tuple #[]) ∧ ∃ g', OutW X w' p g' (xs ++ encU x) (B + 10) ∧ Only (p :: g.toList) w w' := by
  have hlen := (lenU_le x).2
  unfold lenU at hlen
  refine (out_U p g xs x w h0 h1 hO.at' (by have := hO.len; omega)).mono ?_
  rintro e w' ⟨rfl, g', hA, ho, hg⟩
  exact ⟨rfl, g', ⟨hA, hO.only.then ho (fun i hi hm => went_sub (g := none) hO.went i hi hm), hO.went.trans hg hO.only.size, by have := hO.len; rw [List.length_append]; omega⟩, ho⟩
theorem outW_S {X : World} (p : Nat) (g : Option Nat) (xs : List Int) (B : Nat) (zs : List Int) (w : World) (hz : IsB zs) (hn : zs.length ≤ 1024) (hO : OutW X w p g xs B) (hb : B ≤ 35184372088832) :
    Calls Try.prog 30 #[.pointer (some ⟨p, 0, none⟩), .string (strOf zs)] w fun e w' => e = .returned (.tuple #[]) ∧ ∃ g', OutW X w' p g' (xs ++ encS zs) (B + 1034) ∧ Only (p :: g.toList) w w' := by
  have hlen := (lenU_le zs.length).2
  unfold lenU at hlen
  refine (out_S p g xs (strOf zs) w hO.at' (by have := hO.len; omega) (by rw [strOf_size]; omega)).mono ?_
  rintro e w' ⟨rfl, g', hA, ho, hg⟩
  rw [ofStr_strOf hz] at hA
  exact ⟨rfl, g', ⟨hA, hO.only.then ho (fun i hi hm => went_sub (g := none) hO.went i hi hm), hO.went.trans hg hO.only.size, by have := hO.len; unfold encS; rw [List.length_append, List.length_append]; omega⟩, ho⟩
theorem wrapU {x : Int} (h0 : 0 ≤ x) (h1 : x ≤ 18446744073709551615) : IntKind.u64.wrap x = x := by rw [IntKind.wrap_u64]; omega
set_option maxRecDepth 100000 in
set_option maxHeartbeats 8000000 in
theorem msg_putF (m : MV) (R : List RV) (L : List (Int × List Int)) (T : List Int) (w : World) (hQ : SlQ w m.la m.ln m.lc R) (hB : BytesAt w R L) (hz : ∀ l ∈ L, IsB l.2) (hT : Sl .u64 w m.ta m.tn m.tc T) (hW : IsW T) (hn : m.ln ≤ 100) :
    Calls Try.prog 18 #[.agg m.cs] w fun e w' => ∃ a n c, e = .returned (.slice a n c) ∧ Sl .u8 w' a n c (if goodM m (lens L) T = true then encM m.k m.f m.e m.o m.p L T m.te else []) ∧ Kept w w' ∧ ∀ y, a = some y → w.heap.size ≤ y.block := by
  obtain ⟨k, f, t, e, o, p, la, ln, lc, ta, tn, tc, te⟩ := m
  have HG := Lib.hid (fun W (kk : Kept w W) => msg_good ⟨k, f, t, e, o, p, la, ln, lc, ta, tn, tc, te⟩ (lens L) T W (by have := (hQ.kept kk).slM; rwa [rvM_lens hB] at this) (kk.sl hT) hW hn)
  unfold MV.cs at *
  dsimp only at *
  have hRl := hQ.1
  have hLl : L.length = ln := by rw [← hB.1]; exact hRl
  have htn : T.length = tn := hT.1
  have hnc := hQ.2.1
  have hcm := hQ.2.2.1
  have htm := hT.2.1
  have htm2 := hT.2.2.1
  unfold maxLen at hcm htm2
  have hst : ∀ l ∈ L, (0 ≤ l.1 ∧ l.1 ≤ 18446744073709551615) ∧ IsB l.2 := by
    intro l hl
    obtain ⟨j, hj, rfl⟩ := List.mem_iff_getElem.1 hl
    obtain ⟨r, hr⟩ : ∃ r, R[j]? = some r := ⟨_, List.getElem?_eq_getElem (by rw [hB.1]; exact hj)⟩
    have h1 := (hB.2 j r _ hr (List.getElem?_eq_getElem hj)).1
    have h2 := (hQ.2.2.2 j r hr).1
    rw [← h1]
    exact ⟨⟨h2.1, h2.2.1⟩, hz _ hl⟩
  have Hst := Lib.hid hst
  have hh := heap_alloc_new w (.cells #[.int .i64 k, .int .i64 f, .int .i64 t, .int .i64 e, .int .i64 o, .int .i64 p, .slice la ln lc, .slice ta tn tc, .int .i64 te] 33)
  have K := kept_al w (.cells #[.int .i64 k, .int .i64 f, .int .i64 t, .int .i64 e, .int .i64 o, .int .i64 p, .slice la ln lc, .slice ta tn tc, .int .i64 te] 33)
  have hsz : (w.alloc (.cells #[.int .i64 k, .int .i64 f, .int .i64 t, .int .i64 e, .int .i64 o, .int .i64 p, .slice la ln lc, .slice ta tn tc, .int .i64 te] 33)).heap.size = w.heap.size + 1 := by simp
  have HQ := Lib.hid hQ
  have HB := Lib.hid hB
  have HT := Lib.hid hT
  have HGM := Lib.hid (goodM_ok ⟨k, f, t, e, o, p, la, ln, lc, ta, tn, tc, te⟩ L T)
  clear hQ hB hT hz hst
  by_cases hgd : goodM ⟨k, f, t, e, o, p, la, ln, lc, ta, tn, tc, te⟩ (lens L) T = true
  · obtain ⟨⟨a1, a2, a3, a4, a5, a6, a7, a8, a9, a10⟩, -⟩ := HGM.out hgd hLl htn Hst.out hW
    dsimp only at a1 a2 a3 a4 a5 a6 a7 a8 a9 a10
    rw [if_pos hgd]
    rw [hgd] at HG
    have wk := wrapU (x := k) (by omega) (by omega)
    have wf := wrapU (x := f) (by omega) (by omega)
    have we := wrapU (x := e) (by omega) (by omega)
    have wo := wrapU (x := o) (by omega) (by omega)
    have wp := wrapU (x := p) (by omega) (by omega)
    have wl := wrapU (x := ln) (by omega) (by omega)
    have wt := wrapU (x := tn) (by omega) (by omega)
    have wte := wrapU (x := te) (by omega) (by omega)
    have A7 := Lib.hid a7
    have A9 := Lib.hid a9
    clear a7 a9 HGM
    go_enter Try.func18, Try.ntmps18
    go_upto_region 1 with fail
    generalize World.alloc w _ = Y at *
    obtain ⟨q0, q1, q2, q3, q4, q5, q6, q7, q8⟩ := nine_cells hh
    go_upto_region 4 with (go_at_call 17; refine (HG.out _ K).mono ?_; rintro E V ⟨rfl, J⟩; have KY := J; clear J)
    have hx := KY.only.heap hh (by simp)
    have hx2 := (kept_al V (.cells #[.slice none 0 0] 69)).only.heap hx (by simp)
    have HO := Lib.hid (outW_new V)
    have KX := K.trans (KY.trans (kept_al V (.cells #[.slice none 0 0] 69)))
    have hpY : w.heap.size < V.heap.size := by have := KY.size; omega
    have hXs : (V.alloc (.cells #[.slice none 0 0] 69)).heap.size = V.heap.size + 1 := by simp
    generalize hpO : V.heap.size = pO at *
    generalize World.alloc V _ = X at *
    have HC : Hid (∀ Z, Only [pO] X Z → Z.cell? ⟨w.heap.size, 0, none⟩ = some (.int .i64 k) ∧ Z.cell? ⟨w.heap.size, 1, none⟩ = some (.int .i64 f) ∧ Z.cell? ⟨w.heap.size, 2, none⟩ = some (.int .i64 t) ∧ Z.cell? ⟨w.heap.size, 3, none⟩ = some (.int .i64 e) ∧ Z.cell? ⟨w.heap.size, 4, none⟩ = some (.int .i64 o) ∧ Z.cell? ⟨w.heap.size, 5, none⟩ = some (.int .i64 p) ∧ Z.cell? ⟨w.heap.size, 6, none⟩ = some (.slice la ln lc) ∧ Z.cell? ⟨w.heap.size, 7, none⟩ = some (.slice ta tn tc) ∧ Z.cell? ⟨w.heap.size, 8, none⟩ = some (.int .i64 te)) := fun Z kk => nine_cells (kk.heap hx2 (by simp; omega))
    clear q0 q1 q2 q3 q4 q5 q6 q7 q8 hh hx hx2
    obtain ⟨q0, q1, q2, q3, q4, q5, q6, q7, q8⟩ := HC.out _ (Only.refl _ _)
    go_wp2_with (go_at_call 29; refine (outW_U _ _ _ _ _ _ (by omega) (by omega) HO.out (by omega)).mono ?_; clear q0 q1 q2 q3 q4 q5 q6 q7 q8; rintro E V ⟨rfl, g', hW, -⟩; replace HO := Lib.hid hW; obtain ⟨q0, q1, q2, q3, q4, q5, q6, q7, q8⟩ := HC.out _ hW.only; clear hW)
    obtain ⟨P1, hP1⟩ : ∃ P1, [] ++ encU k ++ encU f ++ encU e ++ encU o ++ encU p ++ encU (ln : Int) = P1 := ⟨_, rfl⟩
    rw [hP1] at HO
    have HP1 := Lib.hid hP1
    clear hP1
    go_loopw [39] (fun i wr => ∃ (j : Nat) (g : Option Nat), i = .int .i64 (j : Nat) ∧ j ≤ ln ∧ Hid (OutW X wr pO g (P1 ++ (L.take j).flatMap encR) (60 + j * 1044))) (fun i _ => ln - (intOf i).toNat)
    case atStart => exact ⟨0, g', rfl, by omega, by simpa using HO⟩
    case round =>
      obtain ⟨j, g, rfl, hj, HO⟩ := hrel
      by_cases hlt : j < ln
      · have hlt' : (j : Int) < ln := by omega
        obtain ⟨r, hr⟩ : ∃ r, R[j]? = some r := ⟨_, List.getElem?_eq_getElem (by omega)⟩
        obtain ⟨l, hll⟩ : ∃ l, L[j]? = some l := ⟨_, List.getElem?_eq_getElem (by omega)⟩
        obtain ⟨he, hs⟩ := HB.out.2 j r l hr hll
        obtain ⟨⟨b0, b1⟩, bz, bn⟩ := A7.out l (List.mem_of_getElem? hll)
        obtain ⟨rat, ra, rn, rc⟩ := r
        obtain ⟨lat, lz⟩ := l
        dsimp only at he hs b0 b1 bz bn
        subst he
        obtain ⟨⟨hb0, hb1, hb2⟩, b, o', rfl, h0, h1⟩ := HQ.out.2.2.2 j _ hr
        dsimp only at hb0 hb1 hb2 h0 h1
        have KW := KX.onl HO.out.only (by intro i hi; simp at hi; omega)
        have c0 := KW.cel h0
        have c1 := KW.cel h1
        have hgl := HO.out.lt
        have hxs := HO.out.only.size
        have HE : Hid ((L.take (j + 1)).flatMap encR = (L.take j).flatMap encR ++ (encU rat ++ encS lz)) := by
          unfold Hid
          rw [List.take_add_one, hll, List.flatMap_append]
          simp [encR]
        have hset := heap_alloc_new wr (.cells #[.int .u64 rat, .slice ra rn rc] 58)
        obtain ⟨d0, d1⟩ := two_cells hset
        have HN := Lib.hid (HO.out.keep (kept_al wr (.cells #[.int .u64 rat, .slice ra rn rc] 58)))
        have HH := Lib.hid hset
        clear HO hset hr hll h0 h1
        go_wp2_with fail
        refine (outW_U _ _ _ _ _ _ (by omega) (by omega) HN.out (by omega)).mono ?_
        rintro E V2 ⟨rfl, g2, h2, o2⟩
        have hx2 := o2.heap HH.out (by
          intro hm
          rcases List.mem_cons.1 hm with hm | hm
          · omega
          · have := hgl wr.heap.size (by simpa using hm)
            omega)
        obtain ⟨e0, e1⟩ := two_cells hx2
        have K2 := KX.onl h2.only (by intro i hi; simp at hi; omega)
        have hcv := run_str (P := Try.prog) (w := V2) 53 9 5 Try.underlying53 Try.underlying5 Try.underlying9 (K2.sl hs)
        have H2 := Lib.hid h2
        clear d0 d1 c0 c1 h2 hx2 o2
        go_wp2_with fail
        refine (outW_S _ _ _ _ _ _ bz bn H2.out (by omega)).mono ?_
        rintro E V3 ⟨rfl, g3, h3, o3⟩
        have H3 := Lib.hid h3
        clear e0 e1 hcv h3 o3
        go_wp2
        go_roundw
        case rel =>
          refine ⟨j + 1, g3, by go_num, by omega, ?_⟩
          have := H3.out
          unfold Hid
          rw [HE.out]
          refine ⟨?_, this.only, this.went, ?_⟩
          · have h := this.at'
            rwa [List.append_assoc, List.append_assoc] at h
          · have h := this.len
            rw [List.append_assoc, List.append_assoc] at h
            omega
        case measure => simp [intOf]; omega
      · have hge : (ln : Int) ≤ j := by omega
        obtain rfl : j = ln := by omega
        rw [List.take_of_length_le (by omega)] at HO
        obtain ⟨q0, q1, q2, q3, q4, q5, q6, q7, q8⟩ := HC.out _ HO.out.only
        have HLn := HO.out.len
        go_wp2_with (first
          | (go_at_call 29; refine (outW_U _ _ _ _ _ _ (by omega) (by omega) HO.out (by omega)).mono ?_; clear q0 q1 q2 q3 q4 q5 q6 q7 q8; rintro E V ⟨rfl, g', hW, -⟩; replace HO := Lib.hid hW; obtain ⟨q0, q1, q2, q3, q4, q5, q6, q7, q8⟩ := HC.out _ hW.only; clear hW))
        obtain ⟨P2, hP2⟩ : ∃ P2, P1 ++ L.flatMap encR ++ encU (tn : Int) = P2 := ⟨_, rfl⟩
        rw [hP2] at HO
        have HP2 := Lib.hid hP2
        have HLn2 := HO.out.len
        clear hP2
        go_loopw [61] (fun i wr => ∃ (j : Nat) (g : Option Nat), i = .int .i64 (j : Nat) ∧ j ≤ tn ∧ Hid (OutW X wr pO g (P2 ++ (T.take j).flatMap encU) (60 + j * 10 + 120000))) (fun i _ => tn - (intOf i).toNat)
        case atStart => exact ⟨0, g', rfl, by omega, by simpa using ⟨HO.out.at', HO.out.only, HO.out.went, by have := HO.out.len; omega⟩⟩
        case round =>
          clear hlt hge
          obtain ⟨j, g, rfl, hj, HO⟩ := hrel
          by_cases hlt : j < tn
          · have hlt' : (j : Int) < tn := by omega
            have KW := KX.onl HO.out.only (by intro i hi; simp at hi; omega)
            have hsl := (KW.sl HT.out)
            obtain ⟨b, o', rfl, -, hc⟩ := hsl.2.2.2 j hlt
            obtain ⟨x, hx⟩ : ∃ x, T[j]? = some x := ⟨_, List.getElem?_eq_getElem (by omega)⟩
            have hxd : T.getD j 0 = x := by rw [List.getD_eq_getElem?_getD, hx]; rfl
            rw [hxd] at hc
            obtain ⟨x0, x1⟩ := A9.out x (List.mem_of_getElem? hx)
            have HE : Hid ((T.take (j + 1)).flatMap encU = (T.take j).flatMap encU ++ encU x) := by
              unfold Hid
              rw [List.take_add_one, hx, List.flatMap_append]
              simp
            clear hx hxd hsl
            go_wp2_with fail
            refine (outW_U _ _ _ _ _ _ (by omega) (by omega) HO.out (by omega)).mono ?_
            rintro E V3 ⟨rfl, g3, h3, o3⟩
            have H3 := Lib.hid h3
            clear hc h3 o3
            go_wp2
            go_roundw
            case rel =>
              refine ⟨j + 1, g3, by go_num, by omega, ?_⟩
              have := H3.out
              unfold Hid
              rw [HE.out]
              refine ⟨?_, this.only, this.went, ?_⟩
              · have h := this.at'
                rwa [List.append_assoc] at h
              · have h := this.len
                rw [List.append_assoc] at h
                omega
            case measure => simp [intOf]; omega
          · have hge : (tn : Int) ≤ j := by omega
            obtain rfl : j = tn := by omega
            rw [List.take_of_length_le (by omega)] at HO
            obtain ⟨q0, q1, q2, q3, q4, q5, q6, q7, q8⟩ := HC.out _ HO.out.only
            go_wp2_with fail
            refine (outW_U _ _ _ _ _ _ (by omega) (by omega) HO.out (by omega)).mono ?_
            rintro E V ⟨rfl, g', hW, -⟩
            have HF : Hid (P2 ++ T.flatMap encU ++ encU te = encM k f e o p L T te) := by
              unfold Hid encM
              rw [← HP2.out, ← HP1.out, hLl, htn]
              simp
            have KF := KX.onl hW.only (by intro i hi; simp at hi; omega)
            obtain ⟨a, n, c, hh, hS, hfr⟩ : ∃ a n c, V.heap[pO]? = some (.cells #[.slice a n c] 69 (0, 0)) ∧ Sl .u8 V a n c (encM k f e o p L T te) ∧ ∀ y, a = some y → w.heap.size ≤ y.block := by
              obtain ⟨a, c, hh, happ, hg⟩ := hW.at'
              obtain ⟨hS, h2⟩ := appF_sl happ
              refine ⟨a, _, c, hh, by rw [← HF.out]; exact hS, fun y hy => ?_⟩
              rcases hW.went with h | ⟨k, h, hk⟩
              · rw [h2 y hy] at h; cases h
              · rw [h2 y hy] at h
                injection h with h
                have := KX.size
                omega
            have hcl := one_cell hh
            clear q0 q1 q2 q3 q4 q5 q6 q7 q8 hh hW
            go_wp2_with fail
            exact bodyPost_ret (v := .slice a n c) (by simp [results, Try.results18, go_sem]) rfl ⟨a, n, c, rfl, hS, KF, hfr⟩
  · rw [if_neg hgd]
    rw [Bool.not_eq_true] at hgd
    rw [hgd] at HG
    go_enter Try.func18, Try.ntmps18
    go_upto_region 1 with fail
    generalize World.alloc w _ = Y at *
    obtain ⟨q0, q1, q2, q3, q4, q5, q6, q7, q8⟩ := nine_cells hh
    go_wp2_with (go_at_call 17; refine (HG.out _ K).mono ?_; rintro E V ⟨rfl, J⟩; have KY := J; clear J)
    exact bodyPost_ret (v := .slice none 0 0) (by simp [results, Try.results18, go_sem]) rfl ⟨none, 0, 0, rfl, sl_nil _ _, K.trans KY, fun y hy => by cases hy⟩
theorem msg_put (m : MV) (R : List RV) (L : List (Int × List Int)) (T : List Int) (w : World) (hQ : SlQ w m.la m.ln m.lc R) (hB : BytesAt w R L) (hz : ∀ l ∈ L, IsB l.2) (hT : Sl .u64 w m.ta m.tn m.tc T) (hW : IsW T) (hn : m.ln ≤ 100) :
    Calls Try.prog 18 #[.agg m.cs] w fun e w' => ∃ a n c, e = .returned (.slice a n c) ∧ Sl .u8 w' a n c (if goodM m (lens L) T = true then encM m.k m.f m.e m.o m.p L T m.te else []) ∧ Kept w w' := by
  refine (msg_putF m R L T w hQ hB hz hT hW hn).mono ?_
  rintro e w' ⟨a, n, c, rfl, h1, h2, -⟩
  exact ⟨a, n, c, rfl, h1, h2⟩
end Go.Proofs.Ytnnjflljlooifaa
