/- Graphs: Cycle: the walk. -/
import Derived.Test.YtmejphlpcgochaaGr8
import Derived.Deep.CutRange
import Derived.Deep.CutBlock
set_option linter.unusedVariables false
set_option linter.unusedSimpArgs false
namespace Go.Proofs.Ytmejphlpcgochaa
open Go.RowKit
theorem sl_lastI {w : World} {a : Option Addr} {n c : Nat} {l : List Int} (h : Sl .i64 w a n c l) (hn : 0 < n) : ∃ b o, a = some ⟨b, o, none⟩ ∧ w.cell? ⟨b, o + (n - 1), none⟩ = some (.int .i64 (lastI l)) := by
  obtain ⟨b, o, v, h1, h2, h3⟩ := h.at (n - 1) (by omega)
  refine ⟨b, o, h1, ?_⟩
  rw [h2, h3.out]
  unfold lastI
  rw [h.1]
theorem app_lit1 (w : World) (e : TypeId) (v : Value) : App (w.alloc (.cells #[v] e)) e 1 (.slice (some ⟨w.heap.size, 0, none⟩) 1 1) 1 (some w.heap.size) [v] :=
  ⟨⟨by simp, .inr ⟨w.heap.size, 1, #[v], rfl, Nat.zero_le _, heap_alloc_new w _, Nat.le_refl _, by unfold maxLen; omega, by simp, by simp⟩⟩, rfl⟩
theorem lastI_app (l : List Int) (x : Int) : lastI (l ++ [x]) = x := by unfold lastI; simp
set_option maxRecDepth 100000 in
set_option maxHeartbeats 16000000 in
theorem g_cycle {w : World} {s : Option Addr} {m c : Nat} {E : List Ed} (N : Int) (hE : SlE w s m c E) (hm : m ≤ 900) :
    Calls Try.prog 24 #[.agg #[.int .i64 N, .slice s m c]] w fun e w' => ∃ (a : Option Addr) (k c' : Nat), e = .returned (.slice a k c') ∧ Sl .i64 w' a k c' (cycleL N E) ∧ Kept w w' ∧ k ≤ 20 ∧ (∀ y, a = some y → w.heap.size ≤ y.block) := by
  have hB0 := heap_alloc_new w (.cells #[.int .i64 N, .slice s m c] 24)
  have K0 := kept_al w (.cells #[.int .i64 N, .slice s m c] 24)
  have b0 := at_cell hB0 0 _ rfl
  have b1 := at_cell hB0 1 _ rfl
  have HGd := Lib.hid (g_good N (hE.kept K0) (by omega))
  have HE := Lib.hid hE
  have HK0 := Lib.hid K0
  have HBx := Lib.hid hB0
  clear hE K0 hB0
  go_enter Try.func24, Try.ntmps24
  go_wp2_with fail
  generalize World.alloc w _ = X0 at *
  generalize hbx : w.heap.size = bx at *
  refine HGd.out.mono ?_
  rintro E1 V1 ⟨rfl, hK1⟩
  have HX1 := Lib.hid hK1
  have HK1 := Lib.hid (HK0.out.trans hK1)
  replace b0 := hK1.cel b0
  replace b1 := hK1.cel b1
  clear hK1 HGd
  cases hg : goodG N E with
  | false =>
    have HR : Hid (cycleL N E = []) := by unfold Hid cycleL; rw [hg]; rfl
    clear hg
    go_wp2_with fail
    go_ret
    exact ⟨none, 0, 0, rfl, by rw [HR.out]; exact sl_nil _ _, HK1.out, Nat.zero_le _, fun y hy => by cases hy⟩
  | true =>
    have HG : Hid (goodG N E = true) := hg
    clear hg
    have hN := good_N HG.out
    obtain ⟨k0, rfl⟩ : ∃ k0 : Nat, N = k0 := ⟨N.toNat, by omega⟩
    go_wp2_with fail
    go_loopw [3, 4, 16] (fun v3 v4 i wr => ∃ (j : Nat) (b1 b2 : Int), v3 = .int .i64 b1 ∧ v4 = .int .i64 b2 ∧ i = .int .i64 (j : Nat) ∧ j ≤ k0 ∧ Hid (bestF k0 E j = (b1, b2)) ∧ Hid (Kept V1 wr)) (fun _ _ i _ => k0 - (intOf i).toNat)
    case atStart => exact ⟨0, 0, 0, rfl, rfl, rfl, by omega, rfl, Kept.refl _⟩
    case round =>
      obtain ⟨j, s1, s2, rfl, rfl, rfl, hj, HBf, HKr⟩ := hrel
      have HXr := Lib.hid (HX1.out.trans HKr.out)
      have hbx2 := HXr.out.only.heap HBx.out (by simp)
      have y0 := at_cell hbx2 0 _ rfl
      have y1 := at_cell hbx2 1 _ rfl
      by_cases hlt : j < k0
      · have hlt' : (j : Int) < k0 := by omega
        have HFr := Lib.hid (g_far k0 (j : Int) (HE.out.kept (HK1.out.trans HKr.out)) hm HG.out)
        clear hbx2 b0 b1
        go_wp2_with fail
        refine HFr.out.mono ?_
        rintro E2 V2 ⟨fa, fc, rfl, hSf, hK2⟩
        obtain ⟨bf, of', kv', rfl, hkc, hkv⟩ := hSf.at j hlt
        have hfc := hSf.2.1
        have HK2 := Lib.hid (HKr.out.trans hK2)
        have HKV : Hid (kv' = selfF k0 E j) := hkv
        have HB1 : Hid (bestF k0 E (j + 1) = if 0 < kv' ∧ (s2 = 0 ∨ kv' < s2) then ((j : Int), kv') else (s1, s2)) := by
          unfold Hid
          rw [bestF, HBf.out, HKV.out]
        clear hSf hK2 HFr hkv y0 y1
        by_cases h1 : 0 < kv'
        · by_cases h2 : s2 = 0
          · have HB2 : Hid (bestF k0 E (j + 1) = ((j : Int), kv')) := by unfold Hid; rw [HB1.out, if_pos ⟨h1, .inl h2⟩]
            have t2 : (s2 == 0) = true := by simp [h2]
            clear h2
            go_wp2_with fail
            go_roundw
            case rel => exact ⟨j + 1, (j : Int), kv', rfl, rfl, by go_num, by omega, HB2, HK2⟩
            case measure => simp [intOf]; omega
          · have t2 : (s2 == 0) = false := by simp [h2]
            by_cases h3 : kv' < s2
            · have HB2 : Hid (bestF k0 E (j + 1) = ((j : Int), kv')) := by unfold Hid; rw [HB1.out, if_pos ⟨h1, .inr h3⟩]
              clear h2
              go_wp2_with fail
              go_roundw
              case rel => exact ⟨j + 1, (j : Int), kv', rfl, rfl, by go_num, by omega, HB2, HK2⟩
              case measure => simp [intOf]; omega
            · have HB2 : Hid (bestF k0 E (j + 1) = (s1, s2)) := by unfold Hid; rw [HB1.out, if_neg (by rintro ⟨_, h | h⟩; exact h2 h; exact h3 h)]
              clear h2
              go_wp2_with fail
              go_roundw
              case rel => exact ⟨j + 1, s1, s2, rfl, rfl, by go_num, by omega, HB2, HK2⟩
              case measure => simp [intOf]; omega
        · have HB2 : Hid (bestF k0 E (j + 1) = (s1, s2)) := by unfold Hid; rw [HB1.out, if_neg (by rintro ⟨h, _⟩; exact h1 h)]
          go_wp2_with fail
          go_roundw
          case rel => exact ⟨j + 1, s1, s2, rfl, rfl, by go_num, by omega, HB2, HK2⟩
          case measure => simp [intOf]; omega
      · have hge : (k0 : Int) ≤ j := by omega
        obtain rfl : j = k0 := by omega
        have HR : Hid (cycleL j E = if s2 = 0 then [] else cycF j E s1 (s2 - 1).toNat [s1]) := by
          unfold Hid cycleL
          rw [if_pos HG.out, Int.toNat_natCast, HBf.out]
        have hbd := bestF_bd HG.out j
        rw [HBf.out] at hbd
        dsimp only at hbd
        clear hbx2 b0 b1
        by_cases hz : s2 = 0
        · rw [if_pos hz] at HR
          have t2 : (s2 == 0) = true := by simp [hz]
          have HKF := Lib.hid (HK1.out.trans HKr.out)
          clear hz
          go_wp2_with fail
          go_ret
          exact ⟨none, 0, 0, rfl, by rw [HR.out]; exact sl_nil _ _, HKF.out, Nat.zero_le _, fun y hy => by cases hy⟩
        · rw [if_neg hz] at HR
          have hj0 : j ≠ 0 := by
            rintro rfl
            have := HBf.out
            unfold bestF at this
            injection this with _ h2
            exact hz h2.symm
          obtain ⟨sn, rfl⟩ : ∃ sn : Nat, s1 = sn := ⟨s1.toNat, by omega⟩
          have hsn : (sn : Int) < j := by omega
          obtain ⟨l0, hl0⟩ : ∃ l0 : Nat, s2 = l0 + 1 := ⟨(s2 - 1).toNat, by omega⟩
          have HR2 : Hid (cycleL j E = cycF j E sn l0 [(sn : Int)]) := by unfold Hid; rw [HR.out, show (s2 - 1).toNat = l0 from by omega]
          have t2 : (s2 == 0) = false := by simp [hz]
          have t3 : s2 - 1 = (l0 : Nat) := by omega
          have hl19 : l0 ≤ 18 := by omega
          have HA0 := Lib.hid (app_lit1 wr 3 (.int .i64 (sn : Nat)))
          have KL := kept_al wr (.cells #[.int .i64 (sn : Nat)] 3)
          have HKL := Lib.hid (HKr.out.trans KL)
          have hwz := HKr.out.size
          clear hz HR HBf KL hl0 hbd
          go_wp2_with fail
          go_loopw [7, 8] (fun v7 v8 wr => ∃ (l rr : Nat) (out : List Int) (a' : Option Addr) (c' : Nat) (g : Option Nat), v7 = .slice a' rr c' ∧ v8 = .int .i64 (l : Nat) ∧ 1 ≤ rr ∧ rr + l ≤ 19 ∧ Hid (cycleL j E = cycF j E sn l out) ∧ Hid (App wr 3 1 (.slice a' rr c') rr g (ivs out)) ∧ Hid (Kept V1 wr) ∧ Hid (∀ k ∈ g.toList, V1.heap.size ≤ k)) (fun _ v8 _ => (intOf v8).toNat)
          case atStart => exact ⟨l0, 1, [(sn : Int)], _, 1, some wr.heap.size, rfl, by first | rfl | (rw [t3]; rfl), by omega, by omega, HR2.out, HA0.out, HKL.out, by intro k hk; simp at hk; omega⟩
          case round =>
            obtain ⟨l, rr, out, a', c', g, rfl, rfl, hr1, hrl, HC, HA, HKw, HGb⟩ := hrel
            have hSo := app_sl HA.out
            have hoc := hSo.2.1
            by_cases hl : 0 < l
            · obtain ⟨l1, rfl⟩ : ∃ l1, l = l1 + 1 := ⟨l - 1, by omega⟩
              have HC2 : Hid (cycleL j E = cycF j E sn l1 (match nextF j E sn ((l1 : Int) + 1) (lastI out) with | some b => out ++ [b] | none => out)) := by unfold Hid; rw [HC.out]; rfl
              obtain ⟨bo, oo, rfl, hlast⟩ := sl_lastI hSo (by omega)
              obtain ⟨r1, hr1e⟩ : ∃ r1, rr - 1 = r1 := ⟨_, rfl⟩
              rw [hr1e] at hlast
              have hi1 : (rr : Int) - 1 = r1 := by omega
              have hi2 : (r1 : Int) < rr := by omega
              have hi3 : IntKind.i64.wrap (r1 : Int) = (r1 : Int) := by rw [IntKind.wrap_i64]; omega
              have hi4 : (0 : Int) ≤ r1 := by omega
              clear hr1e
              have hbx3 := (HX1.out.trans HKw.out).only.heap HBx.out (by simp)
              have HS : Hid (∀ Z, Kept wr Z → (Z.cell? ⟨bx, 0, none⟩ = some (.int .i64 (j : Nat)) ∧ Z.cell? ⟨bx, 1, none⟩ = some (.slice s m c)) ∧ Z.cell? ⟨bo, oo + r1, none⟩ = some (.int .i64 (lastI out))) := fun Z k => ⟨⟨k.cel (at_cell hbx3 0 _ rfl), k.cel (at_cell hbx3 1 _ rfl)⟩, k.cel hlast⟩
              have HBh := Lib.hid (g_behind (j : Int) (lastI out) (HE.out.kept (HK1.out.trans (HKw.out.trans ((Kept.refl wr).dr ⟨1, rfl⟩ : Kept wr wr.drew)))) hm)
              generalize lastI out = la at *
              have hl1 : (0 : Int) < ((l1 + 1 : Nat) : Int) := by omega
              clear hSo hlast hbx3
              go_upto_region 17 with fail
              have KD : Kept wr wr.drew := (Kept.refl _).dr ⟨1, rfl⟩
              first | (go_region_held3 (fun Z => (Z.cell? ⟨bx, 0, none⟩ = some (.int .i64 (j : Nat)) ∧ Z.cell? ⟨bx, 1, none⟩ = some (.slice s m c)) ∧ Z.cell? ⟨bo, oo + r1, none⟩ = some (.int .i64 la)) (exact HS.out _ KD) ((go_at_call 10; refine HBh.out.mono ?_; rintro E5 V5 ⟨bb, bk, bc, rfl, hSb, J, hbk, _⟩; have HSb := Lib.hid hSb; clear hSb; replace KD := KD.trans J; clear J))) | fail
              have hbl := HSb.out.1
              have hbc := HSb.out.2.1
              have HA5 := Lib.hid (KD.only.app HA.out (by simp))
              have HK5 := Lib.hid (HKw.out.trans KD)
              clear hi1 hi2 hi3 hi4 HBh
              go_wp2_with fail
              go_loopw [7, 58] (fun v7 v58 wr => ∃ q : Nat, v7 = .slice (some ⟨bo, oo, none⟩) rr c' ∧ v58 = .int .i64 (q : Nat) ∧ q ≤ bk ∧ Hid (nextF j E sn ((l1 : Int) + 1) la = ((besL j E la 0).drop q).find? fun b => decide (b ≠ (sn : Int) ∧ (farL j E b).getD (sn : Int).toNat 0 = (l1 : Int) + 1)) ∧ Hid (Kept V5 wr)) (fun _ v58 _ => bk - (intOf v58).toNat)
              case atStart => exact ⟨0, rfl, rfl, by omega, rfl, Kept.refl _⟩
              case round =>
                obtain ⟨q, rfl, rfl, hq, HNx, HKq⟩ := hrel
                have HA6 := Lib.hid (HKq.out.only.app HA5.out (by simp))
                have HK6 := Lib.hid (HK5.out.trans HKq.out)
                by_cases hqk : q < bk
                · have hqk' : (q : Int) < bk := by omega
                  obtain ⟨b, hbq⟩ : ∃ b, (besL j E la 0)[q]? = some b := ⟨_, List.getElem?_eq_getElem (by omega)⟩
                  obtain ⟨b3, o3, bv, hb3, hbc2, hbv⟩ := (HKq.out.sl HSb.out).at q hqk
                  have hbv2 : bv = b := by rw [hbv.out, List.getD_eq_getElem?_getD, hbq]; rfl
                  subst hbv2
                  subst hb3
                  have HNs : Hid (nextF j E sn ((l1 : Int) + 1) la = if (bv ≠ (sn : Int) ∧ (farL j E bv).getD sn 0 = (l1 : Int) + 1) then some bv else ((besL j E la 0).drop (q + 1)).find? fun b => decide (b ≠ (sn : Int) ∧ (farL j E b).getD (sn : Int).toNat 0 = (l1 : Int) + 1)) := by
                    unfold Hid
                    obtain ⟨h1, h2⟩ := List.getElem?_eq_some_iff.1 hbq
                    rw [HNx.out, List.drop_eq_getElem_cons h1, h2, List.find?_cons]
                    by_cases hc : (bv ≠ (sn : Int) ∧ (farL j E bv).getD sn 0 = (l1 : Int) + 1)
                    · rw [if_pos hc, decide_eq_true (by rw [Int.toNat_natCast]; exact hc)]
                    · rw [if_neg hc, decide_eq_false (by rw [Int.toNat_natCast]; exact hc)]
                  clear hbq hbv HNx
                  by_cases hbs : bv = (sn : Int)
                  · have HN2 : Hid (nextF j E sn ((l1 : Int) + 1) la = ((besL j E la 0).drop (q + 1)).find? fun b => decide (b ≠ (sn : Int) ∧ (farL j E b).getD (sn : Int).toNat 0 = (l1 : Int) + 1)) := by unfold Hid; rw [HNs.out, if_neg (fun h => h.1 hbs)]
                    have u1 : (bv != (sn : Int)) = false := by simp [hbs]
                    clear hbs
                    go_wp2_with fail
                    go_roundw
                    case rel => exact ⟨q + 1, rfl, by go_num, by omega, HN2, HKq⟩
                    case measure => simp [intOf]; omega
                  · have u1 : (bv != (sn : Int)) = true := by simp [hbs]
                    have HBs : Hid (bv ≠ (sn : Int)) := hbs
                    have hbx4 := (HX1.out.trans HK6.out).only.heap HBx.out (by simp)
                    have z0 := at_cell hbx4 0 _ rfl
                    have z1 := at_cell hbx4 1 _ rfl
                    have HFr := Lib.hid (g_far j bv (HE.out.kept (HK1.out.trans HK6.out)) hm HG.out)
                    clear hbs hbx4
                    go_wp2_with fail
                    refine HFr.out.mono ?_
                    rintro E7 V7 ⟨fa, fc, rfl, hSf, hK7⟩
                    obtain ⟨bf, of', kv', rfl, hkc, hkv⟩ := hSf.at sn (by omega)
                    have hfc := hSf.2.1
                    have HKV : Hid (kv' = (farL j E bv).getD sn 0) := hkv
                    have HA7 := Lib.hid (hK7.only.app HA6.out (by simp))
                    have HK7 := Lib.hid (HK6.out.trans hK7)
                    have HKq7 := Lib.hid (HKq.out.trans hK7)
                    clear hSf hK7 HFr hkv z0 z1
                    by_cases hke : kv' = (l1 : Int) + 1
                    · have HN2 : Hid (nextF j E sn ((l1 : Int) + 1) la = some bv) := by unfold Hid; rw [HNs.out, if_pos ⟨HBs.out, by rw [← HKV.out]; exact hke⟩]
                      have HC3 : Hid (cycleL j E = cycF j E sn l1 (out ++ [bv])) := by unfold Hid; rw [HC2.out, HN2.out]
                      have u2 : (kv' == (l1 : Int) + 1) = true := by simp [hke]
                      have KL7 := kept_al V7 (.cells #[.int .i64 bv] 3)
                      have HAL := Lib.hid (KL7.only.app HA7.out (by simp))
                      have HKL7 := Lib.hid (HK7.out.trans KL7)
                      have HSrc := Lib.hid (src_block (P := Try.prog) (size := 1) Try.underlying29 (heap_alloc_new V7 (.cells #[.int .i64 bv] 3)) 1 1 rfl (by simp [Value.oneCell']))
                      have hVz := HKL7.out.size
                      clear hke KL7
                      go_wp2_with (at_builtin; refine wpList_app rfl (.tmp 75) (.tmp 77) 29 29 rfl elemI _ rr _ _ rfl HAL.out _ 1 _ rfl HSrc.out (by omega) (by unfold maxLen; omega) ?_; intro a5 c5 g5 w5 hA5 hO5 hG5; have HA8 := Lib.hid hA5; have HO5 := Lib.hid hO5; have HG5 := Lib.hid hG5; clear hA5 hO5 hG5)
                      have hg1 : ∀ i ∈ g5.toList, V1.heap.size ≤ i := by
                        intro i hi
                        rcases HG5.out with h | h
                        · rw [h] at hi; exact HGb.out i hi
                        · rw [h] at hi; simp at hi hVz; omega
                      have hK8 : Kept V1 w5 := HKL7.out.onl HO5.out HGb.out
                      go_roundw
                      case rel => exact ⟨l1, rr + 1, out ++ [bv], a5, c5, g5, rfl, by go_num, by omega, by omega, HC3, by rw [ivs_app]; exact HA8.out, hK8, hg1⟩
                      case measure => simp [intOf]
                    · have HN2 : Hid (nextF j E sn ((l1 : Int) + 1) la = ((besL j E la 0).drop (q + 1)).find? fun b => decide (b ≠ (sn : Int) ∧ (farL j E b).getD (sn : Int).toNat 0 = (l1 : Int) + 1)) := by unfold Hid; rw [HNs.out, if_neg (fun h => hke (by rw [HKV.out]; exact h.2))]
                      have u2 : (kv' == (l1 : Int) + 1) = false := by simp [hke]
                      clear hke
                      go_wp2_with fail
                      go_roundw
                      case rel => exact ⟨q + 1, rfl, by go_num, by omega, HN2, HKq7⟩
                      case measure => simp [intOf]; omega
                · have hge2 : (bk : Int) ≤ q := by omega
                  obtain rfl : q = bk := by omega
                  have HC3 : Hid (cycleL j E = cycF j E sn l1 out) := by
                    unfold Hid
                    rw [HC2.out, HNx.out, List.drop_of_length_le (by omega)]
                    rfl
                  go_wp2_with fail
                  go_roundw
                  case rel => exact ⟨l1, rr, out, _, c', g, rfl, by go_num, by omega, by omega, HC3, HA6, HK6, HGb⟩
                  case measure => simp [intOf]
            · obtain rfl : l = 0 := by omega
              have HRc : Hid (cycleL j E = out) := HC.out
              have HSl := Lib.hid hSo
              have HKF := Lib.hid (HK1.out.trans HKw.out)
              have HNew : Hid (∀ y, a' = some y → bx ≤ y.block) := fun y hy => by
                subst hy
                have h1 := HGb.out y.block (by rw [app_blkI HA.out]; simp)
                have h2 := HK1.out.size
                omega
              go_wp2_with fail
              go_ret
              exact ⟨a', rr, c', rfl, by rw [HRc.out]; exact HSl.out, HKF.out, by omega, fun y hy => by rw [hbx]; exact HNew.out y hy⟩
end Go.Proofs.Ytmejphlpcgochaa
