/- EpochsMeets: two logs that began as one. -/
import Derived.Test.YtfblkdecbjplbaaEpMeetsMath
import Derived.Test.YtfblkdecbjplbaaEpAwake
import Derived.Test.YtfblkdecbjplbaaTy
set_option linter.unusedVariables false
set_option linter.unusedSimpArgs false
namespace Go.Proofs.Ytfblkdecbjplbaa
open Go.RowKit
theorem and1_u8 (v : Int) (h0 : 0 ≤ v) (h1 : v ≤ 255) : bits BinOp.and IntKind.u8 v 1 = v % 2 := by
  have h : ∀ n : Fin 256, bits BinOp.and IntKind.u8 (n.val : Int) 1 = (n.val : Int) % 2 := by decide +kernel
  have := h ⟨v.toNat, by omega⟩
  rwa [show ((v.toNat : Nat) : Int) = v by omega] at this
theorem and1_i64 (v : Int) (h0 : 0 ≤ v) (h1 : v ≤ 255) : bits BinOp.and IntKind.i64 v 1 = v % 2 := by
  have h : ∀ n : Fin 256, bits BinOp.and IntKind.i64 (n.val : Int) 1 = (n.val : Int) % 2 := by decide +kernel
  have := h ⟨v.toNat, by omega⟩
  rwa [show ((v.toNat : Nat) : Int) = v by omega] at this
/-- the blocks of two slices of the call's own -/
def Fr (w : World) (ga gb : Option Nat) : Prop := (∀ k, ga = some k → w.heap.size ≤ k) ∧ (∀ k, gb = some k → w.heap.size ≤ k) ∧ ∀ k, ga = some k → gb ≠ some k
theorem Fr.symm {w : World} {ga gb : Option Nat} (h : Fr w ga gb) : Fr w gb ga := ⟨h.2.1, h.1, fun k h1 h2 => h.2.2 k h2 h1⟩
theorem Fr.dis {w : World} {ga gb : Option Nat} (h : Fr w ga gb) : ∀ k, gb = some k → k ∉ ga.toList := fun k hk hm => by
  simp at hm; exact h.2.2 k hm hk
theorem Fr.new {w W : World} {ga gb g : Option Nat} (h : Fr w ga gb) (hg : g = ga ∨ g = some W.heap.size) (hw : w.heap.size ≤ W.heap.size) (hb : ∀ k, gb = some k → k < W.heap.size) : Fr w g gb := by
  refine ⟨fun k hk => ?_, h.2.1, fun k hk hk2 => ?_⟩
  · rcases hg with rfl | rfl
    · exact h.1 k hk
    · injection hk with hk; omega
  · rcases hg with rfl | rfl
    · exact h.2.2 k hk hk2
    · injection hk with hk; have := hb k hk2; omega
theorem runs_le {l : List Int} {e e' : Int} (h : Runs l e) (he : e ≤ e') : Runs l e' := ⟨fun i hi => ⟨(h.1 i hi).1, (h.1 i hi).2.1, by have := (h.1 i hi).2.2; omega⟩, h.2⟩
/-- what an append of one word to a slice of the call's own leaves, beside another slice of its own -/
theorem one_more {w wr W V : World} {v : Int} {ab : Option Addr} {nb cb : Nat} {ga gb g : Option Nat} {D : List Int} (hW : wr.alloc (.cells #[.int .u64 v] 26) = W) (K : Kept w wr) (F : Fr w ga gb)
    (hB : App wr 26 1 (.slice ab nb cb) nb gb (wordsV D)) (o : Only ga.toList W V) (hg : g = ga ∨ g = some W.heap.size) :
    Kept w V ∧ App V 26 1 (.slice ab nb cb) nb gb (wordsV D) ∧ Fr w g gb := by
  subst hW
  have K1 := K.trans (kept_al wr (.cells #[.int .u64 v] 26))
  have hB1 := (kept_al wr (.cells #[.int .u64 v] 26)).only.app hB (by simp)
  refine ⟨K1.onl o (fun i hi => ?_), o.app hB1 F.dis, F.new hg K1.size hB1.lt⟩
  simp at hi
  exact F.1 i hi
set_option maxRecDepth 100000 in
set_option maxHeartbeats 4000000 in
theorem epMeets_walk (a b d : Option Addr) (n ca m cb k cd : Nat) (zs ys xs : List Int) (w : World) (hz : Sl .u8 w a n ca zs) (hy : Sl .u8 w b m cb ys) (hx : Sl .u8 w d k cd xs) (Bz : IsB zs) (By : IsB ys) (Bx : IsB xs) (hn : n ≤ 20) (hm : m ≤ 20) (hk : k ≤ 20) :
    Calls Try.prog 3 #[.slice a n ca, .slice b m cb, .slice d k cd] w fun e w' => e = .returned (.bool true) ∧ Kept w w' := by
  have HZ := Lib.hid hz
  have HY := Lib.hid hy
  have HX := Lib.hid hx
  have HBz := Lib.hid Bz
  have HBy := Lib.hid By
  have HBx := Lib.hid Bx
  have i1 : n ≤ ca := hz.2.1
  have i2 := hz.2.2.1
  have i3 : m ≤ cb := hy.2.1
  have i4 := hy.2.2.1
  have i5 : k ≤ cd := hx.2.1
  have i6 := hx.2.2.1
  unfold maxLen at i2 i4 i6
  have hnI : (n : Int) ≤ 20 := by omega
  have hmI : (m : Int) ≤ 20 := by omega
  have hkI : (k : Int) ≤ 20 := by omega
  clear hz hy hx Bz By Bx
  go_enter Try.func3, Try.ntmps3
  go_wp2_with fail
  refine (awake8 _).mono ?_
  rintro e w1 ⟨rfl, K1⟩
  go_wp2_with fail
  go_loopw [7, 8, 9, 10] (fun ep sa sb i wr => ∃ (j : Nat) (C : List Int) (e : Int) (aa : Option Addr) (cc : Nat) (ga : Option Nat) (ab : Option Addr) (c2 : Nat) (gb : Option Nat), ep = .int .i64 e ∧ sa = .slice aa j cc ∧ sb = .slice ab j c2 ∧ i = .int .i64 j ∧ j ≤ n ∧ Hid (App wr 26 1 (.slice aa j cc) j ga (wordsV C)) ∧ Hid (App wr 26 1 (.slice ab j c2) j gb (wordsV C)) ∧ Hid (Fr w ga gb) ∧ Kept w wr ∧ Hid (Runs C e) ∧ 1 ≤ e ∧ e ≤ 1 + j ∧ Hid (C.length = j))
    (fun _ _ _ i _ => n - (intOf i).toNat)
  case atStart => exact ⟨0, [], 1, none, 0, none, none, 0, none, rfl, rfl, rfl, rfl, by omega, app_nil _ _ _, app_nil _ _ _, ⟨by simp, by simp, by simp⟩, K1, runs_nil _, by omega, by omega, rfl⟩
  case round =>
    obtain ⟨j, C, e, aa, cc, ga, ab, c2, gb, rfl, rfl, rfl, rfl, hj, HA, HB, HF, Kj, HRu, he1, he2, HCl⟩ := hrel
    by_cases hlt : j < n
    · have hlt' : (j : Int) < n := by omega
      obtain ⟨b', o', z, rfl, hzc, hzv⟩ := (Kj.sl HZ.out).at j hlt
      have hzb := HBz.out j
      rw [← hzv.out] at hzb
      obtain ⟨z0, z1⟩ := hzb
      have hbt := and1_u8 z z0 z1
      have hz2 : 0 ≤ z % 2 ∧ z % 2 ≤ 1 := by omega
      generalize z % 2 = q at *
      obtain ⟨q0, q1⟩ := hz2
      have hcc := HA.out.1.2
      clear hzv hcc
      obtain ⟨v, hv⟩ : ∃ v, (e + q) * 17592186044416 + (j : Int) = v := ⟨_, rfl⟩
      have HV := Lib.hid hv
      have HD := Lib.hid (HF.out.dis)
      clear hv
      go_wp2_with (first
        | (go_at_call 8; refine (ep_at (e + q) j v _ HV.out (by omega) (by omega) (by omega) (by omega)).mono ?_; rintro E w' ⟨rfl, rfl⟩)
        | (at_builtin; refine wpList_app rfl (.tmp 49) (.tmp 53) 24 24 rfl elemW _ j _ _ rfl ((kept_al wr _).only.app HA.out (by simp)) _ 1 _ rfl (src_sl Try.underlying24 (sl_lit .u64 wr 26 (0, 0) [v] 1 rfl (by unfold maxLen; omega))) (by omega) (by unfold maxLen; omega) ?_; intro a5 c5 g5 w5 hA5 hO5 hG5; have HA5 := Lib.hid hA5; have HO5 := Lib.hid (one_more rfl Kj HF.out HB.out hO5 hG5); clear hA5 hO5 hG5)
        | (at_builtin; refine wpList_app rfl (.tmp 55) (.tmp 59) 24 24 rfl elemW _ j _ _ rfl ((kept_al w5 _).only.app HO5.out.2.1 (by simp)) _ 1 _ rfl (src_sl Try.underlying24 (sl_lit .u64 w5 26 (0, 0) [v] 1 rfl (by unfold maxLen; omega))) (by omega) (by unfold maxLen; omega) ?_; intro a7 c7 g7 w7 hA7 hO7 hG7; have HA7 := Lib.hid hA7; have HO7 := Lib.hid (one_more (D := C ++ [v]) rfl HO5.out.1 HO5.out.2.2.symm (by simpa [wordsV] using HA5.out) hO7 hG7); clear hA7 hO7 hG7))
      go_roundw
      case rel =>
        have hr := runs_snoc HRu.out (show e ≤ e + q by omega) (by omega) (by rw [HCl.out]; omega)
        rw [HCl.out, HV.out] at hr
        exact ⟨j + 1, C ++ [v], e + q, a5, c5, g5, a7, c7, g7, rfl, rfl, rfl, by go_num, by omega, HO7.out.2.1, (by unfold Hid; simpa [wordsV] using HA7.out), HO7.out.2.2.symm, HO7.out.1, hr, by omega, by push_cast; omega, (by unfold Hid; simp [HCl.out])⟩
      case measure => simp [intOf]; omega
    · have hge : (n : Int) ≤ j := by omega
      obtain rfl : j = n := by omega
      have hbe := and1_i64 e (by omega) (by omega)
      have he3 : 0 ≤ e % 2 ∧ e % 2 ≤ 1 := by omega
      obtain ⟨x0, hx0⟩ : ∃ x0, e + e % 2 + 1 = x0 := ⟨_, rfl⟩
      have hx1 : x0 % 2 = 1 ∧ e < x0 ∧ x0 ≤ 25 := by omega
      have hy0 : e + e % 2 + 2 = x0 + 1 := by omega
      clear he2
      generalize e % 2 = r at *
      go_wp2_with fail
      go_loopw [11, 8, 13] (fun sx sa i wr => ∃ (t : Nat) (P : List Int) (x : Int) (aa : Option Addr) (cc : Nat) (ga : Option Nat), sx = .int .i64 x ∧ sa = .slice aa (j + t) cc ∧ i = .int .i64 t ∧ t ≤ m ∧ Hid (App wr 26 1 (.slice aa (j + t) cc) (j + t) ga (wordsV (C ++ P))) ∧ Hid (App wr 26 1 (.slice ab j c2) j gb (wordsV C)) ∧ Hid (Fr w ga gb) ∧ Kept w wr ∧ Hid (Runs (C ++ P) x) ∧ Hid (P.length = t) ∧ x % 2 = 1 ∧ e < x ∧ x ≤ 25 + 2 * t ∧ Hid (∀ p ∈ P, epI p % 2 = 1 ∧ e < epI p))
        (fun _ _ i _ => m - (intOf i).toNat)
      case atStart => exact ⟨0, [], x0, aa, cc, ga, rfl, rfl, rfl, by omega, (by unfold Hid; simpa using HA.out), HB.out, HF.out, Kj, (by unfold Hid; simpa using runs_le HRu.out (by omega)), rfl, hx1.1, hx1.2.1, by omega, fun p hp => by cases hp⟩
      case round =>
        obtain ⟨t, P, x, aa, cc, ga, rfl, rfl, rfl, ht, HA, HB, HF, Kj, HRu2, HPl, hxo, hxe, hxl, HPp⟩ := hrel
        by_cases hlt : t < m
        · have hlt' : (t : Int) < m := by omega
          obtain ⟨b', o', z, rfl, hzc, hzv⟩ := (Kj.sl HY.out).at t hlt
          have hzb := HBy.out t
          rw [← hzv.out] at hzb
          obtain ⟨z0, z1⟩ := hzb
          have hbt := and1_u8 z z0 z1
          have hz2 : 0 ≤ z % 2 ∧ z % 2 ≤ 1 := by omega
          generalize z % 2 = q at *
          obtain ⟨q0, q1⟩ := hz2
          clear hzv
          obtain ⟨v, hv⟩ : ∃ v, (x + 2 * q) * 17592186044416 + ((j : Int) + t) = v := ⟨_, rfl⟩
          have HV := Lib.hid hv
          clear hv
          go_wp2_with (first
            | (go_at_call 8; refine (ep_at (x + 2 * q) ((j : Int) + t) v _ HV.out (by omega) (by omega) (by omega) (by omega)).mono ?_; rintro E w' ⟨rfl, rfl⟩)
            | (at_builtin; refine wpList_app rfl (.tmp 86) (.tmp 91) 24 24 rfl elemW _ (j + t) _ _ rfl ((kept_al wr _).only.app HA.out (by simp)) _ 1 _ rfl (src_sl Try.underlying24 (sl_lit .u64 wr 26 (0, 0) [v] 1 rfl (by unfold maxLen; omega))) (by omega) (by unfold maxLen; omega) ?_; intro a5 c5 g5 w5 hA5 hO5 hG5; have HA5 := Lib.hid hA5; have HO5 := Lib.hid (one_more rfl Kj HF.out HB.out hO5 hG5); clear hA5 hO5 hG5))
          go_roundw
          case rel =>
            have hr := runs_snoc HRu2.out (show x ≤ x + 2 * q by omega) (by omega) (by rw [List.length_append, HCl.out, HPl.out]; omega)
            rw [List.length_append, HCl.out, HPl.out] at hr
            push_cast at hr
            rw [HV.out, List.append_assoc] at hr
            have hep := ep_of_pack (x + 2 * q) ((j : Int) + t) (by omega) (by omega)
            rw [HV.out] at hep
            exact ⟨t + 1, P ++ [v], x + 2 * q, a5, c5, g5, rfl, rfl, by go_num, by omega, (by unfold Hid; rw [show j + (t + 1) = j + t + 1 by omega]; simpa [wordsV] using HA5.out), HO5.out.2.1, HO5.out.2.2, HO5.out.1, hr, (by unfold Hid; simp [HPl.out]), by omega, by omega, by push_cast; omega, fun p hp => by
              rcases List.mem_append.1 hp with hp | hp
              · exact HPp.out p hp
              · rw [List.mem_singleton.1 hp, hep.1]; omega⟩
          case measure => simp [intOf]; omega
        · have hge2 : (m : Int) ≤ t := by omega
          obtain rfl : t = m := by omega
          have hy1 : (x0 + 1) % 2 = 0 ∧ e < x0 + 1 ∧ x0 + 1 ≤ 26 := by omega
          clear hx1
          go_wp2_with fail
          go_loopw [12, 9, 14] (fun sx sa i wr => ∃ (u : Nat) (Q : List Int) (y : Int) (ab : Option Addr) (c2 : Nat) (gb : Option Nat), sx = .int .i64 y ∧ sa = .slice ab (j + u) c2 ∧ i = .int .i64 u ∧ u ≤ k ∧ Hid (App wr 26 1 (.slice ab (j + u) c2) (j + u) gb (wordsV (C ++ Q))) ∧ Hid (App wr 26 1 (.slice aa (j + t) cc) (j + t) ga (wordsV (C ++ P))) ∧ Hid (Fr w gb ga) ∧ Kept w wr ∧ Hid (Runs (C ++ Q) y) ∧ Hid (Q.length = u) ∧ y % 2 = 0 ∧ e < y ∧ y ≤ 26 + 2 * u ∧ Hid (∀ p ∈ Q, epI p % 2 = 0 ∧ e < epI p))
            (fun _ _ i _ => k - (intOf i).toNat)
          case atStart => exact ⟨0, [], x0 + 1, ab, c2, gb, rfl, rfl, rfl, by omega, (by unfold Hid; simpa using HB.out), HA.out, HF.out.symm, Kj, (by unfold Hid; simpa using runs_le HRu.out (by omega)), rfl, by omega, by omega, by omega, fun p hp => by cases hp⟩
          case round =>
            obtain ⟨u, Q, y, ab, c2, gb, rfl, rfl, rfl, hu, HB, HA, HF, Kj, HRu3, HQl, hyo, hye, hyl, HQp⟩ := hrel
            by_cases hlt : u < k
            · have hlt' : (u : Int) < k := by omega
              obtain ⟨b', o', z, rfl, hzc, hzv⟩ := (Kj.sl HX.out).at u hlt
              have hzb := HBx.out u
              rw [← hzv.out] at hzb
              obtain ⟨z0, z1⟩ := hzb
              have hbt := and1_u8 z z0 z1
              have hz2 : 0 ≤ z % 2 ∧ z % 2 ≤ 1 := by omega
              generalize z % 2 = q at *
              obtain ⟨q0, q1⟩ := hz2
              clear hzv
              obtain ⟨v, hv⟩ : ∃ v, (y + 2 * q) * 17592186044416 + ((j : Int) + u) = v := ⟨_, rfl⟩
              have HV := Lib.hid hv
              clear hv
              go_wp2_with (first
                | (go_at_call 8; refine (ep_at (y + 2 * q) ((j : Int) + u) v _ HV.out (by omega) (by omega) (by omega) (by omega)).mono ?_; rintro E w' ⟨rfl, rfl⟩)
                | (at_builtin; refine wpList_app rfl (.tmp 108) (.tmp 113) 24 24 rfl elemW _ (j + u) _ _ rfl ((kept_al wr _).only.app HB.out (by simp)) _ 1 _ rfl (src_sl Try.underlying24 (sl_lit .u64 wr 26 (0, 0) [v] 1 rfl (by unfold maxLen; omega))) (by omega) (by unfold maxLen; omega) ?_; intro a5 c5 g5 w5 hA5 hO5 hG5; have HA5 := Lib.hid hA5; have HO5 := Lib.hid (one_more rfl Kj HF.out HA.out hO5 hG5); clear hA5 hO5 hG5))
              go_roundw
              case rel =>
                have hr := runs_snoc HRu3.out (show y ≤ y + 2 * q by omega) (by omega) (by rw [List.length_append, HCl.out, HQl.out]; omega)
                rw [List.length_append, HCl.out, HQl.out] at hr
                push_cast at hr
                rw [HV.out, List.append_assoc] at hr
                have hep := ep_of_pack (y + 2 * q) ((j : Int) + u) (by omega) (by omega)
                rw [HV.out] at hep
                exact ⟨u + 1, Q ++ [v], y + 2 * q, a5, c5, g5, rfl, rfl, by go_num, by omega, (by unfold Hid; rw [show j + (u + 1) = j + u + 1 by omega]; simpa [wordsV] using HA5.out), HO5.out.2.1, HO5.out.2.2, HO5.out.1, hr, (by unfold Hid; simp [HQl.out]), by omega, by omega, by push_cast; omega, fun p hp => by
                  rcases List.mem_append.1 hp with hp | hp
                  · exact HQp.out p hp
                  · rw [List.mem_singleton.1 hp, hep.1]; omega⟩
              case measure => simp [intOf]; omega
            · have hge3 : (k : Int) ≤ u := by omega
              obtain rfl : u = k := by omega
              have hsa := (app_slk (k := .u64) (xs := C ++ P) HA.out).1
              have hsb := (app_slk (k := .u64) (xs := C ++ Q) HB.out).1
              have la : (C ++ P).length = j + t := hsa.1
              have lb : (C ++ Q).length = j + u := hsb.1
              have oa : ofI ((C ++ P).getD 0 0) + ((j + t : Nat) : Int) ≤ 17592186044416 := by
                by_cases h0 : 0 < (C ++ P).length
                · have := (HRu2.out.1 0 h0).1; push_cast; omega
                · rw [List.getD_eq_getElem?_getD, List.getElem?_eq_none (by omega)]; simp [ofI]; omega
              have ob : ofI ((C ++ Q).getD 0 0) + ((j + u : Nat) : Int) ≤ 17592186044416 := by
                by_cases h0 : 0 < (C ++ Q).length
                · have := (HRu3.out.1 0 h0).1; push_cast; omega
                · rw [List.getD_eq_getElem?_getD, List.getElem?_eq_none (by omega)]; simp [ofI]; omega
              have hM1 := meets_half C P Q e x y HRu.out HRu2.out HRu3.out (by omega) (by omega) (fun p hp => (HPp.out p hp).2) (fun p hp => (HQp.out p hp).2) (fun p hp q hq he => by have h1 := (HPp.out p hp).1; have h2 := (HQp.out q hq).1; rw [he] at h2; omega) (by omega) (by omega)
              have hM2 := meets_half C Q P e y x HRu.out HRu3.out HRu2.out (by omega) (by omega) (fun p hp => (HQp.out p hp).2) (fun p hp => (HPp.out p hp).2) (fun p hp q hq he => by have h1 := (HQp.out p hp).1; have h2 := (HPp.out q hq).1; rw [he] at h2; omega) (by omega) (by omega)
              rw [la, lb, HCl.out] at hM1
              rw [la, lb, HCl.out] at hM2
              have HM1 := Lib.hid hM1
              have HM2 := Lib.hid hM2
              have WA : IsW (tabL (C ++ P) (j + t)) := isW_of_mem fun z hz => isW_mem (runs_isW HRu2.out (by omega)) z (tabL_mem _ _ (by omega) z hz)
              have WB : IsW (tabL (C ++ Q) (j + u)) := isW_of_mem fun z hz => isW_mem (runs_isW HRu3.out (by omega)) z (tabL_mem _ _ (by omega) z hz)
              have HWA := Lib.hid WA
              have HWB := Lib.hid WB
              have HOA := Lib.hid (ep_of aa (j + t) cc (C ++ P) wr hsa (runs_isW HRu2.out (by omega)) (runs_rises HRu2.out) oa (by omega))
              have HOB := Lib.hid (fun V (kk : Kept wr V) => ep_of ab (j + u) c2 (C ++ Q) V (kk.sl hsb) (runs_isW HRu3.out (by omega)) (runs_rises HRu3.out) ob (by omega))
              generalize endOf (C ++ P) = EA at *
              generalize endOf (C ++ Q) = EB at *
              generalize tabL (C ++ P) (j + t) = TA at *
              generalize tabL (C ++ Q) (j + u) = TB at *
              clear hsa hsb oa ob hM1 hM2 WA WB HA HB HRu HRu2 HRu3 HPp HQp hge hge2 hge3 hlt
              go_wp2_with fail
              refine HOA.out.mono ?_
              rintro E V1 ⟨a1, n1, c1, rfl, hS1, J1⟩
              have HS1 := Lib.hid hS1
              have K4 := J1.trans (kept_al V1 (.cells #[.slice a1 n1 c1, .int .i64 EA] 29))
              have HB1 := Lib.hid (heap_alloc_new V1 (.cells #[.slice a1 n1 c1, .int .i64 EA] 29))
              have HS1' := Lib.hid ((kept_al V1 (.cells #[.slice a1 n1 c1, .int .i64 EA] 29)).sl hS1)
              clear hS1
              go_wp2_with fail
              generalize World.alloc V1 _ = W1 at *
              refine (HOB.out _ K4).mono ?_
              rintro E V2 ⟨a2, n2, c3, rfl, hS2, J2⟩
              have K5 := (Kj.trans K4).trans (J2.trans (kept_al V2 (.cells #[.slice a2 n2 c3, .int .i64 EB] 29)))
              have K6 := J2.trans (kept_al V2 (.cells #[.slice a2 n2 c3, .int .i64 EB] 29))
              have HB2 := Lib.hid (heap_alloc_new V2 (.cells #[.slice a2 n2 c3, .int .i64 EB] 29))
              have HS2 := Lib.hid ((kept_al V2 (.cells #[.slice a2 n2 c3, .int .i64 EB] 29)).sl hS2)
              have HS3 := Lib.hid (K6.sl HS1'.out)
              have HCc : Hid (∀ Z, Kept (V2.alloc (.cells #[.slice a2 n2 c3, .int .i64 EB] 29)) Z → Z.cell? ⟨V1.heap.size, 0, none⟩ = some (.slice a1 n1 c1) ∧ Z.cell? ⟨V1.heap.size, 1, none⟩ = some (.int .i64 EA) ∧ Z.cell? ⟨V2.heap.size, 0, none⟩ = some (.slice a2 n2 c3) ∧ Z.cell? ⟨V2.heap.size, 1, none⟩ = some (.int .i64 EB)) := fun Z kk => ⟨(K6.trans kk).cel (two_cells HB1.out).1, (K6.trans kk).cel (two_cells HB1.out).2, kk.cel (two_cells HB2.out).1, kk.cel (two_cells HB2.out).2⟩
              have C0 := HCc.out _ (Kept.refl _)
              clear hS2
              obtain ⟨p0, p1, q0, q1⟩ := C0
              go_wp2_with fail
              clear p0 p1 q0 q1
              generalize World.alloc V2 _ = W2 at *
              refine (ep_meet a1 a2 n1 c1 n2 c3 TA TB EA EB W2 HS3.out HS2.out HWA.out HWB.out).mono ?_
              rintro E Z1 ⟨rfl, k1⟩
              rw [HM1.out]
              have C1 := HCc.out _ k1
              obtain ⟨p0, p1, q0, q1⟩ := C1
              go_wp2_with fail
              clear p0 p1 q0 q1
              refine (ep_meet a2 a1 n2 c3 n1 c1 TB TA EB EA Z1 (k1.sl HS2.out) (k1.sl HS3.out) HWB.out HWA.out).mono ?_
              rintro E Z2 ⟨rfl, k2⟩
              rw [HM2.out]
              go_wp2
              go_ret
              exact ⟨rfl, (K5.trans k1).trans k2⟩
set_option maxRecDepth 100000 in
set_option maxHeartbeats 1000000 in
theorem epochsMeets_law (v0 v1 v2 : Value) (x0 x1 x2 : List Int) (w : World) (w0 : RepV w (.sl (.int .u8)) v0 x0) (w1 : RepV w (.sl (.int .u8)) v1 x1) (w2 : RepV w (.sl (.int .u8)) v2 x2) :
    Calls Try.prog 3 #[v0, v1, v2] w fun e w' => e = .returned (.bool true) ∧ Below w.heap.size w w' := by
  obtain ⟨a, n, ca, rfl, h0⟩ := repV_sl w0
  obtain ⟨b, m, cb, rfl, h1⟩ := repV_sl w1
  obtain ⟨d, k, cd, rfl, h2⟩ := repV_sl w2
  obtain ⟨s0, b0⟩ := slT_int h0
  obtain ⟨s1, b1⟩ := slT_int h1
  obtain ⟨s2, b2⟩ := slT_int h2
  by_cases c0 : 20 < (n : Int)
  · clear w0 w1 w2 h0 h1 h2 s0 s1 s2 b0 b1 b2
    go_enter Try.func3, Try.ntmps3
    go_wp2_with fail
    refine (awake8 _).mono ?_
    rintro e w1 ⟨rfl, K1⟩
    go_wp2
    go_ret
    exact ⟨rfl, K1⟩
  · have c0' : (n : Int) ≤ 20 := by omega
    by_cases c1 : 20 < (m : Int)
    · clear w0 w1 w2 h0 h1 h2 s0 s1 s2 b0 b1 b2 c0
      go_enter Try.func3, Try.ntmps3
      go_wp2_with fail
      refine (awake8 _).mono ?_
      rintro e w1 ⟨rfl, K1⟩
      go_wp2
      go_ret
      exact ⟨rfl, K1⟩
    · have c1' : (m : Int) ≤ 20 := by omega
      by_cases c2 : 20 < (k : Int)
      · clear w0 w1 w2 h0 h1 h2 s0 s1 s2 b0 b1 b2 c0 c1
        go_enter Try.func3, Try.ntmps3
        go_wp2_with fail
        refine (awake8 _).mono ?_
        rintro e w1 ⟨rfl, K1⟩
        go_wp2
        go_ret
        exact ⟨rfl, K1⟩
      · exact epMeets_walk a b d n ca m cb k cd x0 x1 x2 w s0 s1 s2 (isB_of_mem fun x hx => wf_bd_u8 (b0 x hx)) (isB_of_mem fun x hx => wf_bd_u8 (b1 x hx)) (isB_of_mem fun x hx => wf_bd_u8 (b2 x hx)) (by omega) (by omega) (by omega)
end Go.Proofs.Ytfblkdecbjplbaa
