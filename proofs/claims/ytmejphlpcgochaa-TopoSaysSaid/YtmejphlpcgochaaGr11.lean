/- Graphs: Short. -/
import Derived.Test.YtmejphlpcgochaaGr10
set_option linter.unusedVariables false
set_option linter.unusedSimpArgs false
namespace Go.Proofs.Ytmejphlpcgochaa
open Go.RowKit
theorem elemE : Elem Try.prog 22 33 (kv 0 0) 2 16 :=
  ⟨Try.underlying22, info_parts (by kernel_rfl), rfl, by omega⟩
theorem slE_app {w : World} {e : TypeId} {a : Option Addr} {n c : Nat} {g : Option Nat} {E : List Ed} (h : App w e 2 (.slice a n c) n g (edVs E)) : SlE w a n c E := by
  have hl : E.length = n := by have := h.len; rw [edVs_len] at this; omega
  obtain ⟨⟨h1, h2⟩, h3⟩ := h
  rcases h2 with ⟨hv, h0⟩ | ⟨b, cap, cur, hv, _, hh, hnc, hcm, hcs, htake⟩
  · injection hv with e1 e2 e3
    subst e3
    exact ⟨hl, by omega, by unfold maxLen; omega, fun h => by omega⟩
  · injection hv with e1 e2 e3
    subst e1 e3
    refine ⟨hl, hnc, hcm, fun _ => ⟨b, 0, rfl, lt_heap hh, fun j u hu => ?_⟩⟩
    rw [cell_of_row w b _ cur _ _ hh, Nat.zero_add]
    rw [← htake, List.getElem?_take] at hu
    split at hu
    · rw [← Array.getElem?_toList]; exact hu
    · cases hu
def cyclicB (N : Int) (E : List Ed) : Bool := !goodG N E || decide (0 < (cycleL N E).length)
def shortL (N : Int) (E : List Ed) : List Ed := E.filter fun e => cyclicB N E || !aroundB N E e
theorem filt_step {α : Type} (f : α → Bool) (E : List α) (j : Nat) (x : α) (hx : E[j]? = some x) : (E.take (j + 1)).filter f = if f x = true then (E.take j).filter f ++ [x] else (E.take j).filter f := by
  rw [List.take_add_one, hx, List.filter_append]
  by_cases h : f x = true <;> simp [h]
set_option maxRecDepth 100000 in
set_option maxHeartbeats 8000000 in
theorem g_short {w : World} {s : Option Addr} {m c : Nat} {E : List Ed} (N : Int) (hE : SlE w s m c E) (hm : m ≤ 900) :
    Calls Try.prog 26 #[.agg #[.int .i64 N, .slice s m c]] w fun e w' => ∃ (a : Option Addr) (k c' : Nat), e = .returned (.agg #[.int .i64 N, .slice a k c']) ∧ SlE w' a k c' (shortL N E) ∧ Kept w w' ∧ k ≤ m := by
  have hl := hE.1
  have hnc := hE.2.1
  have hB0 := heap_keep (heap_keep (heap_alloc_new w (.cells #[.int .i64 N, .slice s m c] 24)) (.cells #[.int .i64 0, .slice none 0 0] 24)) (.cells #[.int .i64 N, .slice none 0 0] 24)
  have hB1 : (((w.alloc (.cells #[.int .i64 N, .slice s m c] 24)).alloc (.cells #[.int .i64 0, .slice none 0 0] 24)).alloc (.cells #[.int .i64 N, .slice none 0 0] 24)).heap[w.heap.size + 1]? = some (.cells #[.int .i64 0, .slice none 0 0] 24 (0, 0)) := by
    have := heap_keep (heap_alloc_new (w.alloc (.cells #[.int .i64 N, .slice s m c] 24)) (.cells #[.int .i64 0, .slice none 0 0] 24)) (.cells #[.int .i64 N, .slice none 0 0] 24)
    simpa using this
  have hB2 : (((w.alloc (.cells #[.int .i64 N, .slice s m c] 24)).alloc (.cells #[.int .i64 0, .slice none 0 0] 24)).alloc (.cells #[.int .i64 N, .slice none 0 0] 24)).heap[w.heap.size + 2]? = some (.cells #[.int .i64 N, .slice none 0 0] 24 (0, 0)) := by
    have := heap_alloc_new ((w.alloc (.cells #[.int .i64 N, .slice s m c] 24)).alloc (.cells #[.int .i64 0, .slice none 0 0] 24)) (.cells #[.int .i64 N, .slice none 0 0] 24)
    simpa using this
  have K0 := ((kept_al w (.cells #[.int .i64 N, .slice s m c] 24)).trans (kept_al _ (.cells #[.int .i64 0, .slice none 0 0] 24))).trans (kept_al _ (.cells #[.int .i64 N, .slice none 0 0] 24))
  have b0 := at_cell hB0 0 _ rfl
  have b1 := at_cell hB0 1 _ rfl
  have b00 := at_cell (heap_alloc_new w (.cells #[.int .i64 N, .slice s m c] 24)) 0 _ rfl
  have b01 := at_cell (heap_keep (heap_alloc_new w (.cells #[.int .i64 N, .slice s m c] 24)) (.cells #[.int .i64 0, .slice none 0 0] 24)) 0 _ rfl
  have HGd := Lib.hid (g_good N (hE.kept K0) (by omega))
  have HB0 := Lib.hid hB0
  have HB1 := Lib.hid hB1
  have HB2 := Lib.hid hB2
  have HK0 := Lib.hid K0
  have HE := Lib.hid hE
  clear hE hB0 hB1 hB2 K0
  go_enter Try.func26, Try.ntmps26
  go_upto_region 2 with fail
  clear b00 b01
  generalize World.alloc (World.alloc (World.alloc w _) _) _ = X at *
  generalize hbx : w.heap.size = bx at *
  go_cut [4] from 7 to 18 (fun v wx => v = .bool (cyclicB N E) ∧ Kept X wx)
  case first =>
    go_wp2_with fail
    refine HGd.out.mono ?_
    rintro E1 V1 ⟨rfl, hK1⟩
    have HK1 := Lib.hid (HK0.out.trans hK1)
    have HV1 := Lib.hid hK1
    replace b0 := hK1.cel b0
    replace b1 := hK1.cel b1
    clear hK1 HGd
    cases hg : goodG N E with
    | false =>
      have HC : Hid (cyclicB N E = true) := by unfold Hid cyclicB; rw [hg]; rfl
      clear hg
      go_wp2_with fail
      go_meet
      case rel => exact ⟨by rw [HC.out], HV1.out⟩
    | true =>
      have HCy := Lib.hid (g_cycle N (HE.out.kept HK1.out) hm)
      have HC : Hid (cyclicB N E = decide (0 < (cycleL N E).length)) := by unfold Hid cyclicB; rw [hg]; rfl
      clear hg
      go_wp2_with fail
      refine HCy.out.mono ?_
      rintro E2 V2 ⟨ca, ck, cc, rfl, hSc, hK2, _, _⟩
      have HL : Hid ((cycleL N E).length = ck) := hSc.1
      have HK2 := Lib.hid hK2
      clear hSc hK2 HCy
      by_cases hck : 0 < ck
      · have HC2 : Hid (cyclicB N E = true) := by unfold Hid; rw [HC.out, HL.out]; exact decide_eq_true hck
        go_wp2_with fail
        go_meet
        case rel => exact ⟨by rw [HC2.out], HV1.out.trans HK2.out⟩
      · have HC2 : Hid (cyclicB N E = false) := by unfold Hid; rw [HC.out, HL.out]; exact decide_eq_false hck
        go_wp2_with fail
        go_meet
        case rel => exact ⟨by rw [HC2.out], HV1.out.trans HK2.out⟩
  case rest =>
    obtain ⟨rfl, hKc⟩ := hcut
  
    have HKc := Lib.hid (HK0.out.trans hKc)
    have c0 := hKc.cel b0
    have c1 := hKc.cel b1
    have HC0 := Lib.hid (hKc.only.heap HB0.out (by simp))
    have HC1 := Lib.hid (hKc.only.heap HB1.out (by simp))
    have HC2 := Lib.hid (hKc.only.heap HB2.out (by simp))
    have hXb := lt_heap HB2.out
    have hcz := hKc.size
    obtain ⟨cy, hcy⟩ : ∃ cy, cyclicB N E = cy := ⟨_, rfl⟩
    rw [hcy]
    have HCY := Lib.hid hcy
    clear hKc HGd hcy b0 b1 HK0 HB0 HB1 HB2
    go_wp2_with fail
    go_loopw [22] (fun v22 wr => ∃ (j r : Nat) (a' : Option Addr) (c' : Nat) (g : Option Nat), v22 = .int .i64 (j : Nat) ∧ j ≤ m ∧ r ≤ j ∧ Hid (wr.heap[bx]? = some (.cells #[.int .i64 N, .slice s m c] 24 (0, 0))) ∧ Hid (wr.heap[bx + 1]? = some (.cells #[.int .i64 0, .slice none 0 0] 24 (0, 0))) ∧ Hid (wr.heap[bx + 2]? = some (.cells #[.int .i64 N, .slice a' r c'] 24 (0, 0))) ∧ Hid (App wr 33 2 (.slice a' r c') r g (edVs ((E.take j).filter fun e => cyclicB N E || !aroundB N E e))) ∧ Hid (Kept w wr) ∧ Hid (∀ k ∈ g.toList, bx + 3 ≤ k) ∧ bx + 3 ≤ wr.heap.size) (fun v22 _ => m - (intOf v22).toNat)
    case atStart => exact ⟨0, 0, none, 0, none, rfl, by omega, by omega, HC0.out, HC1.out, HC2.out, app_nil _ _ _, HKc.out, (by intro k hk; simp at hk), by omega⟩
    case round =>
      obtain ⟨j, r, a', c', g, rfl, hj, hr, H0, H1, H2, HA, HK, HG, hsz⟩ := hrel
      by_cases hlt : j < m
      · have hlt' : (j : Int) < m := by omega
        obtain ⟨⟨xa, xb⟩, hx⟩ : ∃ x, E[j]? = some x := ⟨_, List.getElem?_eq_getElem (by omega)⟩
        obtain ⟨bs, o, rfl, q0, q1⟩ := (HE.out.kept HK.out).at hx
        dsimp only at q0 q1
        have hmem := List.mem_of_getElem? hx
        have HFs := Lib.hid (filt_step (fun e => cyclicB N E || !aroundB N E e) E j _ hx)
        have KE := kept_al wr (.cells #[.int .i64 xa, .int .i64 xb] 33)
        have HKE := Lib.hid (HK.out.trans KE)
        have hEd := heap_alloc_new wr (.cells #[.int .i64 xa, .int .i64 xb] 33)
        have y0 := at_cell hEd 0 _ rfl
        have y1 := at_cell hEd 1 _ rfl
        have HE0 := Lib.hid (KE.only.heap H0.out (by simp))
        have HE1 := Lib.hid (KE.only.heap H1.out (by simp))
        have HE2 := Lib.hid (KE.only.heap H2.out (by simp))
        have x0 := at_cell HE0.out 0 _ rfl
        have x1 := at_cell HE0.out 1 _ rfl
        have HAE := Lib.hid (KE.only.app HA.out (by simp))
        have hze := KE.size
        clear hx KE hEd c0 c1
        cases hcc : cy with
        | true =>
          have HF1 : Hid ((E.take (j + 1)).filter (fun e => cyclicB N E || !aroundB N E e) = (E.take j).filter (fun e => cyclicB N E || !aroundB N E e) ++ [(xa, xb)]) := by unfold Hid; rw [HFs.out, if_pos (by rw [HCY.out, hcc]; rfl)]
          have W0 : Kept (wr.alloc (.cells #[.int .i64 xa, .int .i64 xb] 33)) (wr.alloc (.cells #[.int .i64 xa, .int .i64 xb] 33)) := Kept.refl _
          clear hmem x0 x1
          have G0 := Lib.hid (W0.only.heap HE0.out (by simp))
          have G1 := Lib.hid (W0.only.heap HE1.out (by simp))
          have G2 := Lib.hid (W0.only.heap HE2.out (by simp))
          have GA0 := W0.only.app HAE.out (by simp)
          have GK0 := HKE.out.trans W0
          have gz := W0.size
          have f1 := at_cell G2.out 1 _ rfl
          have hfr := one_free G2.out 1
          have KL := kept_al (wr.alloc (.cells #[.int .i64 xa, .int .i64 xb] 33)) (.cells #[.int .i64 xa, .int .i64 xb] 33)
          have GA := Lib.hid (KL.only.app GA0 (by simp))
          have GK := Lib.hid (GK0.trans KL)
          have L0 := Lib.hid (KL.only.heap G0.out (by simp))
          have L1 := Lib.hid (KL.only.heap G1.out (by simp))
          have L2 := Lib.hid (KL.only.heap G2.out (by simp))
          have hsr0 : ((wr.alloc (.cells #[.int .i64 xa, .int .i64 xb] 33)).alloc (.cells #[.int .i64 xa, .int .i64 xb] 33)).heap[wr.heap.size + 1]? = some (.cells #[.int .i64 xa, .int .i64 xb] 33 (0, 0)) := by
            have := heap_alloc_new (wr.alloc (.cells #[.int .i64 xa, .int .i64 xb] 33)) (.cells #[.int .i64 xa, .int .i64 xb] 33)
            simpa using this
          have HSrc := Lib.hid (src_block (P := Try.prog) (size := 2) Try.underlying22 hsr0 1 1 rfl (by simp [Value.oneCell']))
          clear hsr0
          have hgn : ∀ i, i < bx + 3 → i ∉ g.toList := fun i hi hm => by have := HG.out i hm; omega
          have hwz : bx + 3 ≤ (wr.alloc (.cells #[.int .i64 xa, .int .i64 xb] 33)).heap.size := by omega
          have GZ := Lib.hid KL.size
          clear GA0 GK0 KL W0
          go_wp2_with (at_builtin; refine wpList_app rfl (.tmp 34) (.tmp 36) 22 22 rfl elemE _ r _ _ rfl GA.out _ 1 _ rfl HSrc.out (by omega) (by unfold maxLen; omega) ?_; intro a5 c5 g5 w5 hA5 hO5 hG5; have HA5 := Lib.hid hA5; have HO5 := Lib.hid hO5; have HG5 := Lib.hid hG5; have P2 := hO5.heap L2.out (hgn _ (by omega)); have p1 := at_cell P2 1 _ rfl; have p2 := one_free P2 1; have HP2 := Lib.hid P2; clear hA5 hO5 hG5 P2)
          have hg1 : ∀ i ∈ g5.toList, bx + 3 ≤ i := by
            intro i hi
            rcases HG5.out with h | h
            · rw [h] at hi; exact HG.out i hi
            · rw [h] at hi; simp at hi hwz; omega
          have S0 : Only [bx + 2] w5 (w5.setCell ⟨bx + 2, 1, none⟩ (.slice a5 (r + 1) c5)) := (Only.refl _ _).setCell (fun _ => by simp) _
          have R0 := S0.heap (HO5.out.heap L0.out (hgn _ (by omega))) (by simp)
          have R1 := S0.heap (HO5.out.heap L1.out (hgn _ (by omega))) (by simp)
          have R2 := at_set HP2.out 1 (.slice a5 (r + 1) c5)
          have RA := S0.app HA5.out (by intro k hk hm; have := hg1 k (by rw [hk]; simp); simp at hm; omega)
          have RK : Kept w _ := (GK.out.onl HO5.out (by intro i hi; have := HG.out i hi; omega)).onl S0 (by intro i hi; simp at hi; omega)
          have hz5 := HO5.out.size
          have hz6 := S0.size
          go_roundw
          case rel => exact ⟨j + 1, r + 1, a5, c5, g5, by go_num, by omega, by omega, R0, R1, R2, by rw [HF1.out, edVs_app]; exact RA, RK, hg1, Nat.le_trans hwz (Nat.le_trans GZ.out (Nat.le_trans hz5 hz6))⟩
          case measure => simp [intOf]; omega
        | false =>
          have hgc : goodG N E = true := by
            have h1 := HCY.out
            rw [hcc] at h1
            unfold cyclicB at h1
            simp only [Bool.or_eq_false_iff, Bool.not_eq_false'] at h1
            exact h1.1
          have hN := good_N hgc
          have hrn := good_mem hgc hmem
          dsimp only at hrn
          obtain ⟨k0, rfl⟩ : ∃ k0 : Nat, N = k0 := ⟨N.toNat, by omega⟩
          obtain ⟨bn, rfl⟩ : ∃ bn : Nat, xb = bn := ⟨xb.toNat, by omega⟩
          have HAr := Lib.hid (g_around k0 bn xa (HE.out.kept HKE.out) hm hgc (by omega))
          clear hgc hrn hmem
          go_wp2_with fail
          refine HAr.out.mono ?_
          rintro E3 V3 ⟨rfl, hK3⟩
          have W0 := hK3
          replace y0 := hK3.cel y0
          replace y1 := hK3.cel y1
          clear hK3 HAr x0 x1
          cases hab : aroundB k0 E (xa, (bn : Int)) with
          | true =>
            have HF1 : Hid ((E.take (j + 1)).filter (fun e => cyclicB k0 E || !aroundB k0 E e) = (E.take j).filter (fun e => cyclicB k0 E || !aroundB k0 E e)) := by unfold Hid; rw [HFs.out, if_neg (by rw [HCY.out, hcc, hab]; simp)]
            have G0 := Lib.hid (W0.only.heap HE0.out (by simp))
            have G1 := Lib.hid (W0.only.heap HE1.out (by simp))
            have G2 := Lib.hid (W0.only.heap HE2.out (by simp))
            have GA := Lib.hid (W0.only.app HAE.out (by simp))
            have GK := Lib.hid (HKE.out.trans W0)
            have gz := W0.size
            clear W0 hab y0 y1
            go_wp2_with fail
            go_roundw
            case rel => exact ⟨j + 1, r, a', c', g, by go_num, by omega, by omega, G0, G1, G2, by rw [HF1.out]; exact GA, GK, HG, by omega⟩
            case measure => simp [intOf]; omega
          | false =>
            have HF1 : Hid ((E.take (j + 1)).filter (fun e => cyclicB k0 E || !aroundB k0 E e) = (E.take j).filter (fun e => cyclicB k0 E || !aroundB k0 E e) ++ [(xa, (bn : Int))]) := by unfold Hid; rw [HFs.out, if_pos (by rw [hab]; simp)]
            clear hab
            have G0 := Lib.hid (W0.only.heap HE0.out (by simp))
            have G1 := Lib.hid (W0.only.heap HE1.out (by simp))
            have G2 := Lib.hid (W0.only.heap HE2.out (by simp))
            have GA0 := W0.only.app HAE.out (by simp)
            have GK0 := HKE.out.trans W0
            have gz := W0.size
            have f1 := at_cell G2.out 1 _ rfl
            have hfr := one_free G2.out 1
            have KL := kept_al (V3) (.cells #[.int .i64 xa, .int .i64 (bn : Nat)] 33)
            have GA := Lib.hid (KL.only.app GA0 (by simp))
            have GK := Lib.hid (GK0.trans KL)
            have L0 := Lib.hid (KL.only.heap G0.out (by simp))
            have L1 := Lib.hid (KL.only.heap G1.out (by simp))
            have L2 := Lib.hid (KL.only.heap G2.out (by simp))
            have HSrc := Lib.hid (src_block (P := Try.prog) (size := 2) Try.underlying22 (heap_alloc_new (V3) (.cells #[.int .i64 xa, .int .i64 (bn : Nat)] 33)) 1 1 rfl (by simp [Value.oneCell']))
            have hgn : ∀ i, i < bx + 3 → i ∉ g.toList := fun i hi hm => by have := HG.out i hm; omega
            have hwz : bx + 3 ≤ (V3).heap.size := by omega
            have GZ := Lib.hid KL.size
            clear GA0 GK0 KL W0
            go_wp2_with (at_builtin; refine wpList_app rfl (.tmp 34) (.tmp 36) 22 22 rfl elemE _ r _ _ rfl GA.out _ 1 _ rfl HSrc.out (by omega) (by unfold maxLen; omega) ?_; intro a5 c5 g5 w5 hA5 hO5 hG5; have HA5 := Lib.hid hA5; have HO5 := Lib.hid hO5; have HG5 := Lib.hid hG5; have P2 := hO5.heap L2.out (hgn _ (by omega)); have p1 := at_cell P2 1 _ rfl; have p2 := one_free P2 1; have HP2 := Lib.hid P2; clear hA5 hO5 hG5 P2)
            have hg1 : ∀ i ∈ g5.toList, bx + 3 ≤ i := by
              intro i hi
              rcases HG5.out with h | h
              · rw [h] at hi; exact HG.out i hi
              · rw [h] at hi; simp at hi hwz; omega
            have S0 : Only [bx + 2] w5 (w5.setCell ⟨bx + 2, 1, none⟩ (.slice a5 (r + 1) c5)) := (Only.refl _ _).setCell (fun _ => by simp) _
            have R0 := S0.heap (HO5.out.heap L0.out (hgn _ (by omega))) (by simp)
            have R1 := S0.heap (HO5.out.heap L1.out (hgn _ (by omega))) (by simp)
            have R2 := at_set HP2.out 1 (.slice a5 (r + 1) c5)
            have RA := S0.app HA5.out (by intro k hk hm; have := hg1 k (by rw [hk]; simp); simp at hm; omega)
            have RK : Kept w _ := (GK.out.onl HO5.out (by intro i hi; have := HG.out i hi; omega)).onl S0 (by intro i hi; simp at hi; omega)
            have hz5 := HO5.out.size
            have hz6 := S0.size
            go_roundw
            case rel => exact ⟨j + 1, r + 1, a5, c5, g5, by go_num, by omega, by omega, R0, R1, R2, by rw [HF1.out, edVs_app]; exact RA, RK, hg1, Nat.le_trans hwz (Nat.le_trans GZ.out (Nat.le_trans hz5 hz6))⟩
            case measure => simp [intOf]; omega
      · have hge : (m : Int) ≤ j := by omega
        obtain rfl : j = m := by omega
        have HFin : Hid ((E.take j).filter (fun e => cyclicB N E || !aroundB N E e) = shortL N E) := by unfold Hid shortL; rw [List.take_of_length_le (by omega)]
        have HSl := HA.out
        rw [HFin.out] at HSl
        have HSE := Lib.hid (slE_app HSl)
        have f0 := at_cell H2.out 0 _ rfl
        have f1 := at_cell H2.out 1 _ rfl
        have z0 := one_free H1.out 0
        have z1 := one_free H1.out 1
        have i0 := at_cell H1.out 0 _ rfl
        have i1 := at_cell H1.out 1 _ rfl
        clear HSl
        have T0 := at_set H1.out 0 (.int .i64 N)
        have T1 := at_set T0 1 (.slice a' r c')
        have j0 := at_cell T1 0 (.int .i64 N) (by simp)
        have j1 := at_cell T1 1 (.slice a' r c') (by simp)
        have O1 : Only [bx + 1] wr ((wr.setCell ⟨bx + 1, 0, none⟩ (.int .i64 N)).setCell ⟨bx + 1, 1, none⟩ (.slice a' r c')) := ((Only.refl _ _).setCell (fun _ => by simp) _).setCell (fun _ => by simp) _
        have HKF := Lib.hid (HK.out.onl O1 (by intro i hi; simp at hi; omega))
        have HSF : Hid (SlE ((wr.setCell ⟨bx + 1, 0, none⟩ (.int .i64 N)).setCell ⟨bx + 1, 1, none⟩ (.slice a' r c')) a' r c' (shortL N E)) := by
          unfold Hid
          rw [← HFin.out]
          exact slE_app (O1.app HA.out (by intro k hk hm; have := HG.out k (by rw [hk]; simp); simp at hm; omega))
        clear T0 T1 O1
        go_wp2_with fail
        exact bodyPost_ret (v := .agg #[.int .i64 N, .slice a' r c']) (by simp [results, Try.results26, go_sem, j0, j1]) rfl ⟨a', r, c', rfl, HSF.out, HKF.out, by omega⟩
end Go.Proofs.Ytmejphlpcgochaa
