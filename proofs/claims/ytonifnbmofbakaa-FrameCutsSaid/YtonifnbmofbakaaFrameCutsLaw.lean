/- FrameCuts: records one behind the other are read again; cut off anywhere, all whole ones are, and no more. -/
import Derived.Test.YtonifnbmofbakaaFrCutsMath
import Derived.Test.YtonifnbmofbakaaFrameTurnedLaw
set_option linter.unusedVariables false
set_option linter.unusedSimpArgs false
namespace Go.Proofs.Ytonifnbmofbakaa
open Go.RowKit
theorem elemI : Elem Try.prog 50 3 (.int .i64 0) 1 8 :=
  ⟨Try.underlying50, info_parts (by kernel_rfl), rfl, by omega⟩
def intsV (zs : List Int) : List Value := zs.map (Value.int .i64)
theorem app_slI {w : World} {e : TypeId} {a : Option Addr} {n c : Nat} {g : Option Nat} {xs : List Int} (h : App w e 1 (.slice a n c) n g (intsV xs)) : Sl .i64 w a n c xs := by
  obtain ⟨⟨h1, h2⟩, h3⟩ := h
  have hl : xs.length = n := by simpa [intsV] using h1
  rcases h2 with ⟨hn, rfl⟩ | ⟨b, cap, cur, hv, _, hh, hnc, hcm, hcs, htake⟩
  · injection hn with e1 e2 e3
    subst e3
    exact ⟨hl, Nat.le_refl _, by unfold maxLen; omega, fun i hi => by omega⟩
  · injection hv with e1 e2 e3
    subst e1 e3
    refine ⟨hl, hnc, hcm, fun i hi => ⟨b, 0, rfl, lt_heap hh, ?_⟩⟩
    rw [cell_of_row w b _ cur _ _ hh, Nat.zero_add, ← Array.getElem?_toList]
    have hj : (intsV xs)[i]? = some (.int .i64 (xs.getD i 0)) := by
      simp [intsV, List.getElem?_map, List.getD_eq_getElem?_getD, (by omega : i < xs.length)]
    rw [← htake, List.getElem?_take] at hj
    split at hj
    · exact hj
    · cases hj
/-- a slice of byte slices -/
def Sll (w : World) (a : Option Addr) (n c : Nat) (l : List (List Int)) : Prop :=
  l.length = n ∧ n ≤ c ∧ c ≤ maxLen ∧ ∀ i, i < n → ∃ b o x m d, a = some ⟨b, o, none⟩ ∧ w.cell? ⟨b, o + i, none⟩ = some (.slice x m d) ∧ Sl .u8 w x m d (l.getD i [])
theorem Sll.kept {w w' : World} {a : Option Addr} {n c : Nat} {l : List (List Int)} (k : Kept w w') (h : Sll w a n c l) : Sll w' a n c l :=
  ⟨h.1, h.2.1, h.2.2.1, fun i hi => by obtain ⟨b, o, x, m, d, h1, h2, h3⟩ := h.2.2.2 i hi; exact ⟨b, o, x, m, d, h1, k.cel h2, k.sl h3⟩⟩
theorem slT_sll {w : World} {a : Option Addr} {n c : Nat} {l : List (List Int)} (h : SlT w (.sl (.int .u8)) a n c l) : Sll w a n c l ∧ ∀ i, IsB (l.getD i []) := by
  obtain ⟨h1', h2, h3, h4⟩ := h
  have h1 : List.length (α := List Int) l = n := h1'
  refine ⟨⟨h1, h2, h3, fun i hi => ?_⟩, fun i => ?_⟩
  · obtain ⟨b, o, cs', ha, hlt, hl, hc, hr⟩ := h4 i (l[i]'(by omega)) (List.getElem?_eq_getElem (by omega))
    obtain ⟨x, m, d, rfl, hs⟩ := rep_sl hr
    have := hc 0 (.slice x m d) rfl
    simp only [Ty.size, Nat.mul_one, Nat.add_zero] at this
    refine ⟨b, o, x, m, d, ha, this, ?_⟩
    have := (slT_int hs).1
    rw [List.getD_eq_getElem?_getD, List.getElem?_eq_getElem (by omega)]
    exact this
  · rcases Nat.lt_or_ge i l.length with hi | hi
    · obtain ⟨b, o, cs', ha, hlt, hl, hc, hr⟩ := h4 i (l[i]'hi) (List.getElem?_eq_getElem hi)
      obtain ⟨x, m, d, rfl, hs⟩ := rep_sl hr
      rw [List.getD_eq_getElem?_getD, List.getElem?_eq_getElem hi]
      exact isB_of_mem fun x hx => wf_bd_u8 ((slT_int hs).2 x hx)
    · rw [List.getD_eq_getElem?_getD, List.getElem?_eq_none hi]
      exact fun i => by simp
set_option maxRecDepth 100000 in
set_option maxHeartbeats 4000000 in
theorem frCuts_walk (a : Option Addr) (n c : Nat) (l : List (List Int)) (cut : Int) (w : World) (hS : Sll w a n c l) (hB : ∀ i, IsB (l.getD i [])) :
    Calls Try.prog 7 #[.slice a n c, .int .i64 cut] w fun e w' => e = .returned (.bool true) ∧ Below w.heap.size w w' := by
  have HS := Lib.hid hS
  have HB := Lib.hid hB
  have hnl := hS.1
  have hnc := hS.2.1
  have hcm := hS.2.2.1
  unfold maxLen at hcm
  clear hS hB
  by_cases hn : 12 < (n : Int)
  · go_enter Try.func7, Try.ntmps7
    go_wp2_with fail
    refine (fr_awake _).mono ?_
    rintro e w1 ⟨rfl, K1⟩
    go_wp2
    go_ret
    exact ⟨rfl, K1⟩
  · have hn' : (n : Int) ≤ 12 := by omega
    go_enter Try.func7, Try.ntmps7
    go_wp2_with fail
    refine (fr_awake _).mono ?_
    rintro e w1 ⟨rfl, K1⟩
    go_wp2_with fail
    go_loopw [5, 6, 7] (fun sb se i wr => ∃ (j m : Nat) (a5 : Option Addr) (c5 : Nat) (a6 : Option Addr) (c6 : Nat) (g6 : Option Nat), sb = .slice a5 m c5 ∧ se = .slice a6 j c6 ∧ i = .int .i64 j ∧ j ≤ n ∧ Hid (m = offR l j) ∧ m ≤ 116 * j ∧ Hid (∀ i, i < j → (l.getD i []).length ≤ 100) ∧ Hid (Sl .u8 wr a5 m c5 (catR l j)) ∧ Hid (inB a5 g6.toList) ∧ Hid (App wr 3 1 (.slice a6 j c6) j g6 (intsV ((List.range j).map fun i => (offR l (i + 1) : Int)))) ∧ Hid (∀ k, g6 = some k → w.heap.size ≤ k) ∧ Kept w wr) (fun _ _ i _ => n - (intOf i).toNat)
    case atStart => exact ⟨0, 0, none, 0, none, 0, none, rfl, rfl, rfl, by omega, rfl, by omega, (by intro i hi; omega), sl_nil _ _, (by intro x hx; cases hx), app_nil _ _ _, (by intro k hk; cases hk), K1⟩
    case round =>
      obtain ⟨j, m, a5, c5, a6, c6, g6, rfl, rfl, rfl, hj, Hm, hm, Hlen, HX, Hin, HA, Hg, KW⟩ := hrel
      by_cases hlt : j < n
      · have hlt' : (j : Int) < n := by omega
        obtain ⟨b, o, x, k, d, rfl, e0, e1⟩ := (HS.out.kept KW).2.2.2 j hlt
        have hkl := e1.1
        have HE := Lib.hid e1
        clear e1
        by_cases h100 : 100 < (k : Int)
        · go_wp2
          go_ret
          exact ⟨rfl, KW⟩
        · have h100' : (k : Int) ≤ 100 := by omega
          have hw1 : IntKind.u64.wrap (j : Int) = j := by rw [IntKind.wrap_u64]; omega
          have HP := Lib.hid (fr_put_ok a5 m c5 (catR l j) x k d (l.getD j []) j wr HX.out HE.out (HB.out j) (by omega) (by omega) (by omega) (by omega))
          have HC : Hid (∀ V, Kept wr V → V.cell? ⟨b, o + j, none⟩ = some (.slice x k d)) := fun V kk => kk.cel e0
          go_wp2_with fail
          refine HP.out.mono ?_
          rintro e w2 ⟨a7, c7, g7, rfl, hA7, K7, hg7⟩
          clear HP e0
          have e0 := HC.out _ K7
          have HX7 := Lib.hid (app_sl hA7)
          have hlt7 := hA7.lt
          have hI7 := (app_sl hA7).2
          clear hA7
          have hgl := HA.out.lt
          have HA7 := Lib.hid (K7.only.app HA.out (by simp))
          have hs7 := K7.size
          go_wp2_with (at_builtin; refine wpList_app rfl (.tmp 62) (.tmp 65) 50 50 rfl elemI _ j _ _ rfl ((kept_al w2 _).only.app HA7.out (by simp)) _ 1 _ rfl (src_sl Try.underlying50 (sl_lit .i64 w2 3 (0, 0) [((m + 16 + k : Nat) : Int)] 1 rfl (by unfold maxLen; omega))) (by omega) (by unfold maxLen; omega) ?_; intro a8 c8 g8 w8 hA8 hO8 hG8)
          have hoff : (offR l (j + 1) : Int) = ((m + 16 + k : Nat) : Int) := by rw [offR, ← Hm.out, hkl]
          have hin7 : ∀ (x : Addr), a7 = some x → wr.heap.size ≤ x.block ∧ x.block < w2.heap.size := fun x hx => ⟨hg7 _ (hI7 x hx), hlt7 _ (hI7 x hx)⟩
          go_roundw
          case rel =>
            refine ⟨j + 1, m + 16 + k, a7, c7, a8, c8, g8, rfl, rfl, by go_num, by omega, ?_, by omega, ?_, ?_, ?_, ?_, ?_, ?_⟩
            · unfold Hid; rw [offR, ← Hm.out, hkl]
            · intro i hi
              rcases Nat.lt_or_ge i j with h | h
              · exact Hlen.out i h
              · obtain rfl : i = j := by omega
                omega
            · exact hO8.sl ((kept_al w2 _).sl HX7.out.1) (fun x hx hm => by
                have h1 := hin7 x hx
                have h2 := hgl x.block (by simpa using hm)
                omega)
            · intro x hx hm
              have h1 := hin7 x hx
              rcases hG8 with rfl | rfl
              · have h2 := hgl x.block (by simpa using hm); omega
              · simp at hm; omega
            · unfold Hid
              rw [List.range_succ, List.map_append, intsV, List.map_append, List.map_cons, List.map_nil, hoff]
              exact hA8
            · rcases hG8 with rfl | rfl
              · exact Hg.out
              · intro q hq
                injection hq with hq
                have := KW.size
                simp at hq
                omega
            · exact (KW.trans (K7.trans (kept_al w2 _))).onl hO8 (fun i hi => Hg.out i (by simpa using hi))
          case measure => simp [intOf]; omega
      · have hge : (n : Int) ≤ j := by omega
        obtain rfl : j = n := by omega
        by_cases hcut : cut < 0 ∨ (m : Int) < cut
        · rcases hcut with h | h
          · go_wp2
            go_ret
            exact ⟨rfl, KW⟩
          · by_cases h0 : cut < 0
            · go_wp2
              go_ret
              exact ⟨rfl, KW⟩
            · go_wp2
              go_ret
              exact ⟨rfl, KW⟩
        · obtain ⟨q, rfl⟩ := Int.eq_ofNat_of_zero_le (show 0 ≤ cut by omega)
          have hq : q ≤ m := by omega
          have hmc := HX.out.2.1
          have x1 := fun W => run_cut_h elemB a5 m c5 .i64 q (q : Int) rfl (by omega) W
          have HAl := Lib.hid (fr_all a5 q c5 ((catR l j).take q) wr (sl_take HX.out q hq) (isB_take (isB_catR HB.out j) q) (by omega))
          have d0 : decide ((q : Int) < 0) = false := decide_eq_false (by omega)
          have d1 : decide ((m : Int) < q) = false := decide_eq_false (by omega)
          clear hcut
          go_wp2_with fail
          refine HAl.out.mono ?_
          rintro e w3 ⟨k, L, nn, er, pa, pc, rfl, hRd, hSt, hSl, K3⟩
          have HRd := Lib.hid hRd
          have HSt := Lib.hid hSt
          have HSl := Lib.hid hSl
          have HEn := Lib.hid (K3.sl (app_slI HA.out))
          have HS3 := Lib.hid (HS.out.kept (KW.trans K3))
          have KK := KW.trans K3
          have hjc := HEn.out.2.1
          have hjm := HEn.out.2.2.1
          have hkc := hSl.2.1
          have hkm := hSl.2.2.1
          unfold maxLen at hjm hkm
          clear hRd hSt hSl HAl x1 HA Hin Hg
          have HEv : Hid (∀ i, i < j → ∃ b o, a6 = some ⟨b, o, none⟩ ∧ w3.cell? ⟨b, o + i, none⟩ = some (.int .i64 (offR l (i + 1) : Nat))) := by
            intro i hi
            obtain ⟨b, o, v, h1, h2, h3⟩ := HEn.out.at i hi
            refine ⟨b, o, h1, ?_⟩
            rw [h2, h3.out, List.getD_eq_getElem?_getD, List.getElem?_map, List.getElem?_range hi]
            rfl
          have hb : Hid (∀ i, i < j → (l.getD i []).length ≤ 100) := Hlen
          have hqo : Hid (q ≤ offR l j) := by unfold Hid; rw [← Hm.out]; exact hq
          clear HEn Hm HX Hlen
          go_wp2_with fail
          go_loopw [13, 14] (fun i s wx => ∃ (kk : Nat), i = .int .i64 kk ∧ s = .int .i64 (offR l kk : Nat) ∧ kk ≤ j ∧ offR l kk ≤ q ∧ w3 = wx) (fun i _ _ => j - (intOf i).toNat)
          case atStart => exact ⟨0, rfl, rfl, by omega, Nat.zero_le _, rfl⟩
          case round =>
            obtain ⟨kk, rfl, rfl, hkj, hko, rfl⟩ := hrel
            by_cases hgo : kk < j ∧ offR l (kk + 1) ≤ q
            · obtain ⟨hg1, hg2⟩ := hgo
              have hg1' : (kk : Int) < j := by omega
              obtain ⟨b', o', rfl, hc⟩ := HEv.out kk hg1
              generalize hof : offR l (kk + 1) = f1 at *
              have hg2' : (f1 : Int) ≤ q := by omega
              go_wp2
              go_roundw
              case rel => exact ⟨kk + 1, by go_num, by rw [hof], by omega, by rw [hof]; exact hg2, (by first | trivial | rfl)⟩
              case measure => simp [intOf]; omega
            · have hstop : kk = j ∨ (kk < j ∧ q < offR l (kk + 1)) := by omega
              have hst2 : kk = j ∨ q < offR l (kk + 1) := by omega
              obtain ⟨rfl, rfl, rfl, hre⟩ := rd_only (isB_take (isB_catR HB.out j) q) HRd.out HSt.out (cuts_rd l j q hb.out (by omega) hqo.out kk hkj hko) (cuts_stop l j q kk hb.out hqo.out hkj hko hst2)
              have hL := recsR_at l k
              have HLr := Lib.hid hL
              clear hgo hst2 hL HRd HSt
              have hend : (er = 0 ∧ ((offR l k : Int) == q) = true) ∨ (er = 3 ∧ ((offR l k : Int) == q) = false) := by
                by_cases h : offR l k = q
                · rw [if_pos h] at hre; exact .inl ⟨hre, by simp [h]⟩
                · rw [if_neg h] at hre; exact .inr ⟨hre, by simp; omega⟩
              clear hre
              have hof : ∃ f0 : Nat, f0 = offR l k := ⟨_, rfl⟩
              obtain ⟨f0, hf0⟩ := hof
              rw [← hf0] at hend hko ⊢
              clear hf0
              have hsp : (¬ ((k : Int) < j)) ∨ ((k : Int) < j ∧ ∃ (b' o' f1 : Nat), a6 = some ⟨b', o', none⟩ ∧ w3.cell? ⟨b', o' + k, none⟩ = some (.int .i64 (f1 : Int)) ∧ ¬ ((f1 : Int) ≤ q)) := by
                rcases hstop with hs | ⟨hs1, hs2⟩
                · exact .inl (by omega)
                · obtain ⟨b', o', ha, hc⟩ := HEv.out k hs1
                  exact .inr ⟨by omega, b', o', _, ha, hc, by omega⟩
              clear hstop HEv
              rcases hsp with hs | ⟨hs1, b', o', f1, rfl, hc, hs2⟩
              all_goals
                rcases hend with ⟨rfl, hq2⟩ | ⟨rfl, hq2⟩
                all_goals
                  go_wp2_with fail
                  go_loopw [15] (fun i wx => ∃ t : Nat, i = .int .i64 t ∧ t ≤ k ∧ Kept w3 wx) (fun i _ => k - (intOf i).toNat)
                  case atStart => exact ⟨0, rfl, by omega, Kept.refl _⟩
                  case round =>
                    obtain ⟨t, rfl, ht, Kt⟩ := hrel
                    by_cases hlt3 : t < k
                    · have hlt3' : (t : Int) < k := by omega
                      have hltj : (t : Int) < j := by omega
                      obtain ⟨b, o, x, m', d, rfl, e0, e1, e2⟩ := (HSl.out.kept Kt).2.2.2 t _ (HLr.out t hlt3)
                      obtain ⟨b2, o2, x2, m2, d2', rfl, e3, e4⟩ := (HS3.out.kept Kt).2.2.2 t (by omega)
                      dsimp only at e0 e2
                      have q1 := fun m => run_strN (P := Try.prog) 23 9 5 Try.underlying23 Try.underlying5 Try.underlying9 e2 m
                      have q2 := fun m => run_strN (P := Try.prog) 23 9 5 Try.underlying23 Try.underlying5 Try.underlying9 e4 m
                      have hw : IntKind.u64.wrap (t : Int) = t := by rw [IntKind.wrap_u64]; omega
                      have hne : ((t : Int) != t) = false := by simp
                      have htv : ((strOf (l.getD t [])).toList != (strOf (l.getD t [])).toList) = false := by simp
                      clear e2 e4
                      generalize l.getD t [] = px at *
                      go_wp2_with fail
                      go_quiet (fail)
                      go_wp2
                      go_roundw
                      case rel => exact ⟨t + 1, by go_num, by omega, Kt.dr ⟨_, rfl⟩⟩
                      case measure => simp [intOf]; omega
                    · have hge3 : (k : Int) ≤ t := by omega
                      go_wp2
                      go_ret
                      exact ⟨rfl, KK.trans Kt⟩
theorem frameCuts_law (v0 v1 : Value) (x0 : List (List Int)) (x1 : Int) (w : World) (w0 : RepV w (.sl (.sl (.int .u8))) v0 x0) (w1 : RepV w (.int .i64) v1 x1) :
    Calls Try.prog 7 #[v0, v1] w fun e w' => e = .returned (.bool true) ∧ Below w.heap.size w w' := by
  obtain ⟨a, n, ca, rfl, h1⟩ := repV_sl w0
  obtain ⟨rfl, h2⟩ := repV_int w1
  obtain ⟨s1, b1⟩ := slT_sll h1
  exact frCuts_walk a n ca x0 x1 w s1 b1
end Go.Proofs.Ytonifnbmofbakaa
