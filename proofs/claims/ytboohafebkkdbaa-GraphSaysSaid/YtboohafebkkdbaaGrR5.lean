/- Graphs, the document's: Cycle. -/
import Derived.Test.YtboohafebkkdbaaGrR3
import Derived.Test.YtboohafebkkdbaaGrM5
set_option linter.unusedVariables false
set_option linter.unusedSimpArgs false
namespace Go.Proofs.Ytboohafebkkdbaa
open Go.RowKit
def lenOfV : Value → Nat
  | .slice _ n _ => n
  | _ => 0
set_option maxRecDepth 100000 in
set_option maxHeartbeats 16000000 in
theorem r_cycle {w : World} {s : Option Addr} {m c : Nat} {E : List Ed} (N : Int) (hE : SlE w s m c E) (hm : m ≤ 900) :
    Calls Try.prog 20 #[.agg #[.int .i64 N, .slice s m c]] w fun e w' => ∃ (a : Option Addr) (k c' : Nat), e = .returned (.slice a k c') ∧ Sl .i64 w' a k c' (cycleL N E) ∧ Kept w w' ∧ k ≤ 20 ∧ (∀ y, a = some y → w.heap.size ≤ y.block) := by
  have hB0 := heap_alloc_new w (.cells #[.int .i64 N, .slice s m c] 40)
  have K0 := kept_al w (.cells #[.int .i64 N, .slice s m c] 40)
  have b0 := at_cell hB0 0 _ rfl
  have b1 := at_cell hB0 1 _ rfl
  have HGd := Lib.hid (r_good N (hE.kept K0) (by omega))
  have HE := Lib.hid hE
  have HK0 := Lib.hid K0
  have HBx := Lib.hid hB0
  clear hE K0 hB0
  go_enter Try.func20, Try.ntmps20
  go_wp2_with fail
  generalize World.alloc w _ = X0 at *
  generalize hbx : w.heap.size = bx at *
  refine HGd.out.mono ?_
  rintro E1 V1 ⟨rfl, hK1⟩
  have HX1 := Lib.hid hK1
  have HK1 := Lib.hid (HK0.out.trans hK1)
  replace b0 := hK1.cel b0
  replace b1 := hK1.cel b1
  clear hK1 HGd
  cases hg : goodG N E with
  | false =>
    have HR : Hid (cycleL N E = []) := by unfold Hid cycleL; rw [hg]; rfl
    clear hg
    go_wp2_with fail
    go_ret
    exact ⟨none, 0, 0, rfl, by rw [HR.out]; exact sl_nil _ _, HK1.out, Nat.zero_le _, fun y hy => by cases hy⟩
  | true =>
    have HG : Hid (goodG N E = true) := hg
    clear hg
    have hN := good_N HG.out
    obtain ⟨k0, rfl⟩ : ∃ k0 : Nat, N = k0 := ⟨N.toNat, by omega⟩
    go_wp2_with fail
    go_loopw [3, 4, 5] (fun v3 v4 i wr => ∃ (j : Nat) (b1 b2 f : Int), v3 = .int .i64 b2 ∧ v4 = .int .i64 f ∧ i = .int .i64 (j : Nat) ∧ j ≤ k0 ∧ Hid (bestF k0 E j = (b1, b2)) ∧ (b2 = 0 ∧ f = -1 ∨ 0 < b2 ∧ b2 ≤ 19 ∧ 0 ≤ b1 ∧ b1 < j ∧ f = b1) ∧ Hid (Kept V1 wr)) (fun _ _ i _ => k0 - (intOf i).toNat)
    case atStart => exact ⟨0, 0, 0, -1, rfl, rfl, rfl, by omega, rfl, .inl ⟨rfl, rfl⟩, Kept.refl _⟩
    case round =>
      obtain ⟨j, s1, s2, f, rfl, rfl, rfl, hj, HBf, hf, HKr⟩ := hrel
      have HXr := Lib.hid (HX1.out.trans HKr.out)
      have hbx2 := HXr.out.only.heap HBx.out (by simp)
      have y0 := at_cell hbx2 0 (.int .i64 (k0 : Nat)) rfl
      have y1 := at_cell hbx2 1 (.slice s m c) rfl
      by_cases hlt : j < k0
      · have hlt' : (j : Int) < k0 := by omega
        have HFr := Lib.hid (r_steps k0 (j : Int) (HE.out.kept (HK1.out.trans HKr.out)) hm HG.out)
        clear hbx2 b0 b1
        go_wp2_with fail
        refine HFr.out.mono ?_
        rintro E2 V2 ⟨fa, fc, rfl, hSf, hK2⟩
        obtain ⟨bf, of', kv', rfl, hkc, hkv⟩ := hSf.at j hlt
        have hfc := hSf.2.1
        have HK2 := Lib.hid (HKr.out.trans hK2)
        have hkv2 : kv' = stpV k0 E j j := by rw [hkv.out, stpL_at (by simpa using hlt)]
        have hbd := dst_bd HG.out (j : Int) (j : Int)
        have hself : selfF k0 E j = dst k0 E j j := rfl
        have hkv3 : kv' = if selfF k0 E j = 0 then -1 else selfF k0 E j := by rw [hkv2, hself]; rfl
        rw [← hself] at hbd
        have HB1 : Hid (bestF k0 E (j + 1) = if 0 < kv' ∧ (s2 = 0 ∨ kv' < s2) then ((j : Int), kv') else (s1, s2)) := by
          unfold Hid
          rw [bestF, HBf.out]
          dsimp only
          by_cases h0 : selfF k0 E j = 0
          · rw [if_pos h0] at hkv3
            rw [if_neg (by omega), if_neg (by omega)]
          · rw [if_neg h0] at hkv3
            rw [hkv3]
        have hkb : -1 ≤ kv' ∧ kv' ≤ 19 := by split at hkv3 <;> omega
        clear hSf hK2 HFr hkv y0 y1 hkv2 hself hkv3 hbd
        by_cases h1 : 0 < kv'
        · rcases hf with ⟨h2, hf⟩ | ⟨h2, h3, h4, h5, hf⟩
          · have HB2 : Hid (bestF k0 E (j + 1) = ((j : Int), kv')) := by unfold Hid; rw [HB1.out, if_pos ⟨h1, .inl h2⟩]
            subst hf
            clear h2
            go_wp2_with fail
            go_roundw
            case rel => exact ⟨j + 1, (j : Int), kv', (j : Int), rfl, rfl, by go_num, by omega, HB2, .inr ⟨h1, by omega, by omega, by omega, rfl⟩, HK2⟩
            case measure => simp [intOf]; omega
          · have h6 : ¬ f < 0 := by omega
            by_cases h3 : kv' < s2
            · have HB2 : Hid (bestF k0 E (j + 1) = ((j : Int), kv')) := by unfold Hid; rw [HB1.out, if_pos ⟨h1, .inr h3⟩]
              go_wp2_with fail
              go_roundw
              case rel => exact ⟨j + 1, (j : Int), kv', (j : Int), rfl, rfl, by go_num, by omega, HB2, .inr ⟨h1, by omega, by omega, by omega, rfl⟩, HK2⟩
              case measure => simp [intOf]; omega
            · have HB2 : Hid (bestF k0 E (j + 1) = (s1, s2)) := by unfold Hid; rw [HB1.out, if_neg (by rintro ⟨_, h | h⟩; omega; exact h3 h)]
              go_wp2_with fail
              go_roundw
              case rel => exact ⟨j + 1, s1, s2, s1, rfl, rfl, by go_num, by omega, HB2, .inr ⟨h2, by omega, h4, by omega, rfl⟩, HK2⟩
              case measure => simp [intOf]; omega
        · have HB2 : Hid (bestF k0 E (j + 1) = (s1, s2)) := by unfold Hid; rw [HB1.out, if_neg (by rintro ⟨h, _⟩; exact h1 h)]
          have hf2 : (s2 = 0 ∧ f = -1 ∨ 0 < s2 ∧ s2 ≤ 19 ∧ 0 ≤ s1 ∧ s1 < (j + 1 : Nat) ∧ f = s1) := by omega
          have HF2 := Lib.hid hf2
          clear hf hf2
          go_wp2_with fail
          go_roundw
          case rel => exact ⟨j + 1, s1, s2, f, rfl, rfl, by go_num, by omega, HB2, HF2.out, HK2⟩
          case measure => simp [intOf]; omega
      · have hge : (k0 : Int) ≤ j := by omega
        obtain rfl : j = k0 := by omega
        have HR : Hid (cycleL j E = if s2 = 0 then [] else cycF j E s1 (s2 - 1).toNat [s1]) := by
          unfold Hid cycleL
          rw [if_pos HG.out, Int.toNat_natCast, HBf.out]
        clear hbx2 b0 b1
        rcases hf with ⟨hz, hf⟩ | ⟨h2, h3, h4, h5, hf⟩
        · rw [if_pos hz] at HR
          have HKF := Lib.hid (HK1.out.trans HKr.out)
          subst hf
          clear hz
          go_wp2_with fail
          go_ret
          exact ⟨none, 0, 0, rfl, by rw [HR.out]; exact sl_nil _ _, HKF.out, Nat.zero_le _, fun y hy => by cases hy⟩
        · rw [if_neg (by omega)] at HR
          obtain ⟨sn, hsn⟩ : ∃ sn : Nat, s1 = sn := ⟨s1.toNat, by omega⟩
          subst hsn
          subst hf
          obtain ⟨K, hK⟩ : ∃ K : Nat, s2 = K := ⟨s2.toNat, by omega⟩
          subst hK
          have hC0 := cyc_start HG.out (s := sn) (K := K) (by rw [Int.toNat_natCast]; exact HBf.out) (by omega)
          have HC0 := Lib.hid hC0.1
          have HR2 : Hid (cycleL j E = cycF j E sn (K - 1) [(sn : Int)]) := by unfold Hid; rw [HR.out, show ((K : Int) - 1).toNat = K - 1 from by omega]
          have HA0 := Lib.hid (app_lit1 wr 3 (.int .i64 (sn : Nat)))
          have KL := kept_al wr (.cells #[.int .i64 (sn : Nat)] 3)
          have HKL := Lib.hid (HKr.out.trans KL)
          have hwz := HKr.out.size
          have hK19 : K ≤ 19 := by omega
          have hK0 : 0 < K := by omega
          have hsj : sn < j := by omega
          clear HR HBf KL hC0
          go_wp2_with fail
          go_loopw [7] (fun v7 wr => ∃ (rr : Nat) (out : List Int) (a' : Option Addr) (c' : Nat) (g : Option Nat), v7 = .slice a' rr c' ∧ 1 ≤ rr ∧ rr ≤ K ∧ Hid (cycleL j E = cycF j E sn (K - rr) out) ∧ Hid (Cyc E j K sn out) ∧ Hid (App wr 3 1 (.slice a' rr c') rr g (ivs out)) ∧ Hid (Kept V1 wr) ∧ Hid (∀ k ∈ g.toList, V1.heap.size ≤ k)) (fun v7 _ => K - lenOfV v7)
          case atStart => exact ⟨1, [(sn : Int)], _, 1, some wr.heap.size, rfl, by omega, by omega, HR2.out, HC0.out, HA0.out, HKL.out, by intro k hk; simp at hk; omega⟩
          case round =>
            obtain ⟨rr, out, a', c', g, rfl, hr1, hrK, HC, HCy, HA, HKw, HGb⟩ := hrel
            have hSo := app_sl HA.out
            have hol := hSo.1
            have hoc := hSo.2.1
            by_cases hlK : rr < K
            · have hlK' : (rr : Int) < K := by omega
              obtain ⟨l, hl⟩ : ∃ l, K - rr = l + 1 := ⟨K - rr - 1, by omega⟩
              obtain ⟨d, hdN, hdn, hdC, hdE, hdS, hdm⟩ := cyc_next HG.out (l := l) (by omega) HCy.out
              have HC2 : Hid (cycleL j E = cycF j E sn l (out ++ [(d : Int)])) := by
                unfold Hid
                rw [HC.out, hl]
                show cycF j E sn l (match nextF j E sn ((l : Int) + 1) (lastI out) with | some b => out ++ [b] | none => out) = _
                rw [hdn]
              have HdC := Lib.hid hdC
              have HdE := Lib.hid hdE
              have HdS := Lib.hid hdS
              have Hdm := Lib.hid hdm
              obtain ⟨bo, oo, rfl, hlast⟩ := sl_lastI hSo (by omega)
              obtain ⟨r1, hr1e⟩ : ∃ r1, rr - 1 = r1 := ⟨_, rfl⟩
              rw [hr1e] at hlast
              have HLast := Lib.hid hlast
              have hi1 : (rr : Int) - 1 = r1 := by omega
              have hlK1 : (K : Int) - rr = (l : Int) + 1 := by omega
              have hlb : l ≤ 18 := by omega
              have hr1b : r1 < rr := by omega
              have HLr : Hid (K - (rr + 1) = l) := by unfold Hid; omega
              have HI1 := Lib.hid hi1
              have HL1 := Lib.hid hlK1
              generalize lastI out = la at *
              clear hdC hdE hdS hdm hdn hSo hlast hr1e hl hi1 hlK1
              go_wp2_with fail
              go_loopw [7, 8] (fun v7 v8 wr => ∃ (q : Nat), v7 = .slice (some ⟨bo, oo, none⟩) rr c' ∧ v8 = .int .i64 (q : Nat) ∧ q ≤ d ∧ Hid (App wr 3 1 (.slice (some ⟨bo, oo, none⟩) rr c') rr g (ivs out)) ∧ Hid (wr.cell? ⟨bo, oo + r1, none⟩ = some (.int .i64 la)) ∧ Hid (Kept V1 wr)) (fun _ v8 _ => d - (intOf v8).toNat)
              case atStart => exact ⟨0, rfl, rfl, by omega, HA.out, HLast.out, HKw.out⟩
              case round =>
                obtain ⟨q, rfl, rfl, hq, HA3, HL3, HK3⟩ := hrel
                have hbx3 := (HX1.out.trans HK3.out).only.heap HBx.out (by simp)
                have hq' : (q : Int) < j := by omega
                have hi1 : (rr : Int) - 1 = r1 := HI1.out
                have hlK1 : (K : Int) - rr = (l : Int) + 1 := HL1.out
                have HS : Hid (∀ Z, Kept wr Z → (Z.cell? ⟨bx, 0, none⟩ = some (.int .i64 (j : Nat)) ∧ Z.cell? ⟨bx, 1, none⟩ = some (.slice s m c)) ∧ Z.cell? ⟨bo, oo + r1, none⟩ = some (.int .i64 la)) := fun Z k => ⟨⟨k.cel (at_cell hbx3 0 _ rfl), k.cel (at_cell hbx3 1 _ rfl)⟩, k.cel HL3.out⟩
                --REGION
                have c0 := at_cell hbx3 0 (.int .i64 (j : Nat)) rfl
                have KD0 : Kept wr wr.drew := (Kept.refl _).dr ⟨1, rfl⟩
                have HHs := Lib.hid (r_has (j : Int) la (q : Int) (HE.out.kept ((HK1.out.trans HK3.out).trans KD0)) hm)
                have HStp : Hid (∀ Z, Kept wr Z → Calls Try.prog 30 #[.agg #[.int .i64 (j : Nat), .slice s m c], .int .i64 (q : Int)] Z fun e w' => ∃ (ad : Option Addr) (c' : Nat), e = .returned (.slice ad j c') ∧ Sl .i64 w' ad j c' (stpL j E (q : Int)) ∧ Kept Z w') := fun Z hZ => r_steps j (q : Int) (HE.out.kept ((HK1.out.trans HK3.out).trans hZ)) hm HG.out
                have hw1 : IntKind.i64.wrap (r1 : Int) = (r1 : Int) := by rw [IntKind.wrap_i64]; omega
                have hw2 : IntKind.i64.wrap ((l : Int) + 1) = (l : Int) + 1 := by rw [IntKind.wrap_i64]; omega
                have hi2 : (r1 : Int) < rr := by omega
                have hi4 : (0 : Int) ≤ r1 := by omega
                clear KD0 hbx3 HA HLast HKw
                by_cases hqd : q < d
                · have hmin := Hdm.out q hqd
                  cases hcc : hasE E (la, (q : Int)) with
                  | false =>
                    rw [hcc] at HHs
                    clear hcc hmin HStp
                    go_upto_region 17 with fail
                    have KD : Kept wr wr.drew := (Kept.refl _).dr ⟨1, rfl⟩
                    refine wp_region_held_drew (S := (fun Z => (Z.cell? ⟨bx, 0, none⟩ = some (.int .i64 (j : Nat)) ∧ Z.cell? ⟨bx, 1, none⟩ = some (.slice s m c)) ∧ Z.cell? ⟨bo, oo + r1, none⟩ = some (.int .i64 la))) (by kernel_rfl) (by exact HS.out _ KD) (fun hHeld => ?_)
                    apply wpAnyH_take (i := 0)
                    case hi => (simp only [List.getElem?_toArray, List.getElem?_cons_succ, List.getElem?_cons_zero]; rfl)
                    case hs => kernel_rfl
                    case hf => kernel_rfl
                    case hr => kernel_rfl
                    case hQ => exact fun _ _ _ h => h
                    case hy => (refine Or.inl ⟨by rfl, ?_⟩; (intro w' hSw; (try dsimp only at hSw); go_simp) <;> with_reducible rfl)
                    case hS => assumption
                    try simp only [Act.put, List.setIfInBounds_toArray, List.set_cons_zero, List.set_cons_succ]
                    apply wpAnyH_take (i := 1)
                    case hi => (simp only [List.getElem?_toArray, List.getElem?_cons_succ, List.getElem?_cons_zero]; rfl)
                    case hs => kernel_rfl
                    case hf => kernel_rfl
                    case hr => kernel_rfl
                    case hQ => exact fun _ _ _ h => h
                    case hy => (refine Or.inl ⟨by rfl, ?_⟩; (intro w' hSw; (try dsimp only at hSw); go_simp) <;> with_reducible rfl)
                    case hS => assumption
                    try simp only [Act.put, List.setIfInBounds_toArray, List.set_cons_zero, List.set_cons_succ]
                    apply wpAnyH_take (i := 2)
                    case hi => (simp only [List.getElem?_toArray, List.getElem?_cons_succ, List.getElem?_cons_zero]; rfl)
                    case hs => kernel_rfl
                    case hf => kernel_rfl
                    case hr => kernel_rfl
                    case hQ => exact fun _ _ _ h => h
                    case hy => (refine Or.inl ⟨by rfl, ?_⟩; (intro w' hSw; (try dsimp only at hSw); go_simp) <;> with_reducible rfl)
                    case hS => assumption
                    try simp only [Act.put, List.setIfInBounds_toArray, List.set_cons_zero, List.set_cons_succ]
                    apply wpAnyH_take (i := 3)
                    case hi => (simp only [List.getElem?_toArray, List.getElem?_cons_succ, List.getElem?_cons_zero]; rfl)
                    case hs => kernel_rfl
                    case hf => kernel_rfl
                    case hr => kernel_rfl
                    case hQ => exact fun _ _ _ h => h
                    case hy => (refine Or.inl ⟨by rfl, ?_⟩; (intro w' hSw; (try dsimp only at hSw); go_simp) <;> with_reducible rfl)
                    case hS => assumption
                    try simp only [Act.put, List.setIfInBounds_toArray, List.set_cons_zero, List.set_cons_succ]
                    apply wpAnyH_take (i := 4)
                    case hi => (simp only [List.getElem?_toArray, List.getElem?_cons_succ, List.getElem?_cons_zero]; rfl)
                    case hs => kernel_rfl
                    case hf => kernel_rfl
                    case hr => kernel_rfl
                    case hQ => exact fun _ _ _ h => h
                    case hy => (refine Or.inl ⟨by rfl, ?_⟩; (intro w' hSw; (try dsimp only at hSw); go_simp) <;> with_reducible rfl)
                    case hS => assumption
                    try simp only [Act.put, List.setIfInBounds_toArray, List.set_cons_zero, List.set_cons_succ]
                    apply wpAnyH_take (i := 5)
                    case hi => (simp only [List.getElem?_toArray, List.getElem?_cons_succ, List.getElem?_cons_zero]; rfl)
                    case hs => kernel_rfl
                    case hf => kernel_rfl
                    case hr => kernel_rfl
                    case hQ => exact fun _ _ _ h => h
                    case hy => (refine Or.inl ⟨by rfl, ?_⟩; (intro w' hSw; (try dsimp only at hSw); go_simp) <;> with_reducible rfl)
                    case hS => assumption
                    try simp only [Act.put, List.setIfInBounds_toArray, List.set_cons_zero, List.set_cons_succ]
                    apply wpAnyH_take (i := 6)
                    case hi => (simp only [List.getElem?_toArray, List.getElem?_cons_succ, List.getElem?_cons_zero]; rfl)
                    case hs => kernel_rfl
                    case hf => kernel_rfl
                    case hr => kernel_rfl
                    case hQ => exact fun _ _ _ h => h
                    case hy => (refine Or.inl ⟨by rfl, ?_⟩; (intro w' hSw; (try dsimp only at hSw); go_simp) <;> with_reducible rfl)
                    case hS => assumption
                    try simp only [Act.put, List.setIfInBounds_toArray, List.set_cons_zero, List.set_cons_succ]
                    apply wpAnyH_take (i := 7)
                    case hi => (simp only [List.getElem?_toArray, List.getElem?_cons_succ, List.getElem?_cons_zero]; rfl)
                    case hs => kernel_rfl
                    case hf => kernel_rfl
                    case hr => kernel_rfl
                    case hQ => exact fun _ _ _ h => h
                    case hy => (refine Or.inl ⟨by rfl, ?_⟩; (intro w' hSw; (try dsimp only at hSw); go_simp) <;> with_reducible rfl)
                    case hS => assumption
                    try simp only [Act.put, List.setIfInBounds_toArray, List.set_cons_zero, List.set_cons_succ]
                    refine wpAnyH_ready (rs := [8]) (by kernel_rfl) (by simp) ?_
                    apply AllReadyH.cons
                    case ho => (simp only [List.getElem?_toArray, List.getElem?_cons_succ, List.getElem?_cons_zero]; rfl)
                    case hs => exact AllReadyH.nil
                    intro K hK
                    go_simp
                    (go_at_call 29; refine HHs.out.mono ?_; rintro E5 V5 ⟨rfl, J⟩; replace KD := KD.trans J; clear J HHs)
                    refine hK.out _ _ (by exact HS.out _ KD) (fun hHeld => ?_)
                    clear hK K
                    try simp only [Act.put, List.setIfInBounds_toArray, List.set_cons_zero, List.set_cons_succ]
                    apply wpAnyH_take (i := 9)
                    case hi => (simp only [List.getElem?_toArray, List.getElem?_cons_succ, List.getElem?_cons_zero]; rfl)
                    case hs => kernel_rfl
                    case hf => kernel_rfl
                    case hr => kernel_rfl
                    case hQ => exact fun _ _ _ h => h
                    case hy => (refine Or.inl ⟨by rfl, ?_⟩; (intro w' hSw; (try dsimp only at hSw); go_simp) <;> with_reducible rfl)
                    case hS => assumption
                    try simp only [Act.put, List.setIfInBounds_toArray, List.set_cons_zero, List.set_cons_succ]
                    apply wpAnyH_take (i := 10)
                    case hi => (simp only [List.getElem?_toArray, List.getElem?_cons_succ, List.getElem?_cons_zero]; rfl)
                    case hs => kernel_rfl
                    case hf => kernel_rfl
                    case hr => kernel_rfl
                    case hQ => exact fun _ _ _ h => h
                    case hy => exact Or.inr ⟨by rfl, rfl⟩
                    case hS => assumption
                    try simp only [Act.put, List.setIfInBounds_toArray, List.set_cons_zero, List.set_cons_succ]
                    apply wpAnyH_take (i := 11)
                    case hi => (simp only [List.getElem?_toArray, List.getElem?_cons_succ, List.getElem?_cons_zero]; rfl)
                    case hs => kernel_rfl
                    case hf => kernel_rfl
                    case hr => kernel_rfl
                    case hQ => exact fun _ _ _ h => h
                    case hy => exact Or.inr ⟨by rfl, rfl⟩
                    case hS => assumption
                    try simp only [Act.put, List.setIfInBounds_toArray, List.set_cons_zero, List.set_cons_succ]
                    apply wpAnyH_take (i := 12)
                    case hi => (simp only [List.getElem?_toArray, List.getElem?_cons_succ, List.getElem?_cons_zero]; rfl)
                    case hs => kernel_rfl
                    case hf => kernel_rfl
                    case hr => kernel_rfl
                    case hQ => exact fun _ _ _ h => h
                    case hy => exact Or.inr ⟨by rfl, rfl⟩
                    case hS => assumption
                    try simp only [Act.put, List.setIfInBounds_toArray, List.set_cons_zero, List.set_cons_succ]
                    apply wpAnyH_take (i := 13)
                    case hi => (simp only [List.getElem?_toArray, List.getElem?_cons_succ, List.getElem?_cons_zero]; rfl)
                    case hs => kernel_rfl
                    case hf => kernel_rfl
                    case hr => kernel_rfl
                    case hQ => exact fun _ _ _ h => h
                    case hy => exact Or.inr ⟨by rfl, rfl⟩
                    case hS => assumption
                    try simp only [Act.put, List.setIfInBounds_toArray, List.set_cons_zero, List.set_cons_succ]
                    apply wpAnyH_take (i := 14)
                    case hi => (simp only [List.getElem?_toArray, List.getElem?_cons_succ, List.getElem?_cons_zero]; rfl)
                    case hs => kernel_rfl
                    case hf => kernel_rfl
                    case hr => kernel_rfl
                    case hQ => exact fun _ _ _ h => h
                    case hy => exact Or.inr ⟨by rfl, rfl⟩
                    case hS => assumption
                    try simp only [Act.put, List.setIfInBounds_toArray, List.set_cons_zero, List.set_cons_succ]
                    apply wpAnyH_take (i := 15)
                    case hi => (simp only [List.getElem?_toArray, List.getElem?_cons_succ, List.getElem?_cons_zero]; rfl)
                    case hs => kernel_rfl
                    case hf => kernel_rfl
                    case hr => kernel_rfl
                    case hQ => exact fun _ _ _ h => h
                    case hy => exact Or.inr ⟨by rfl, rfl⟩
                    case hS => assumption
                    try simp only [Act.put, List.setIfInBounds_toArray, List.set_cons_zero, List.set_cons_succ]
                    apply wpAnyH_take (i := 16)
                    case hi => (simp only [List.getElem?_toArray, List.getElem?_cons_succ, List.getElem?_cons_zero]; rfl)
                    case hs => kernel_rfl
                    case hf => kernel_rfl
                    case hr => kernel_rfl
                    case hQ => exact fun _ _ _ h => h
                    case hy => exact Or.inr ⟨by rfl, rfl⟩
                    case hS => assumption
                    try simp only [Act.put, List.setIfInBounds_toArray, List.set_cons_zero, List.set_cons_succ]
                    apply wpAnyH_take (i := 17)
                    case hi => (simp only [List.getElem?_toArray, List.getElem?_cons_succ, List.getElem?_cons_zero]; rfl)
                    case hs => kernel_rfl
                    case hf => kernel_rfl
                    case hr => kernel_rfl
                    case hQ => exact fun _ _ _ h => h
                    case hy => exact Or.inr ⟨by rfl, rfl⟩
                    case hS => assumption
                    try simp only [Act.put, List.setIfInBounds_toArray, List.set_cons_zero, List.set_cons_succ]
                    apply wpAnyH_take (i := 18)
                    case hi => (simp only [List.getElem?_toArray, List.getElem?_cons_succ, List.getElem?_cons_zero]; rfl)
                    case hs => kernel_rfl
                    case hf => kernel_rfl
                    case hr => kernel_rfl
                    case hQ => exact fun _ _ _ h => h
                    case hy => exact Or.inr ⟨by rfl, rfl⟩
                    case hS => assumption
                    try simp only [Act.put, List.setIfInBounds_toArray, List.set_cons_zero, List.set_cons_succ]
                    apply wpAnyH_take (i := 19)
                    case hi => (simp only [List.getElem?_toArray, List.getElem?_cons_succ, List.getElem?_cons_zero]; rfl)
                    case hs => kernel_rfl
                    case hf => kernel_rfl
                    case hr => kernel_rfl
                    case hQ => exact fun _ _ _ h => h
                    case hy => exact Or.inr ⟨by rfl, rfl⟩
                    case hS => assumption
                    try simp only [Act.put, List.setIfInBounds_toArray, List.set_cons_zero, List.set_cons_succ]
                    apply wpAnyH_take (i := 20)
                    case hi => (simp only [List.getElem?_toArray, List.getElem?_cons_succ, List.getElem?_cons_zero]; rfl)
                    case hs => kernel_rfl
                    case hf => kernel_rfl
                    case hr => kernel_rfl
                    case hQ => exact fun _ _ _ h => h
                    case hy => exact Or.inr ⟨by rfl, rfl⟩
                    case hS => assumption
                    try simp only [Act.put, List.setIfInBounds_toArray, List.set_cons_zero, List.set_cons_succ]
                    apply wpAnyH_take (i := 21)
                    case hi => (simp only [List.getElem?_toArray, List.getElem?_cons_succ, List.getElem?_cons_zero]; rfl)
                    case hs => kernel_rfl
                    case hf => kernel_rfl
                    case hr => kernel_rfl
                    case hQ => exact fun _ _ _ h => h
                    case hy => (refine Or.inl ⟨by rfl, ?_⟩; (intro w' hSw; (try dsimp only at hSw); go_simp) <;> with_reducible rfl)
                    case hS => assumption
                    try simp only [Act.put, List.setIfInBounds_toArray, List.set_cons_zero, List.set_cons_succ]
                    refine wpAnyH_done (by kernel_rfl) ?_ _
                    have HA5 := Lib.hid (KD.only.app HA3.out (by simp))
                    have HL5 := Lib.hid (KD.cel HL3.out)
                    have HK5 := Lib.hid (HK3.out.trans KD)
                    clear KD hHeld
                    go_wp2_with fail
                    go_roundw
                    case rel => exact ⟨q + 1, rfl, by go_num, by omega, HA5.out, HL5.out, HK5.out⟩
                    case measure => simp [intOf]; omega
                  | true =>
                    have hne := Lib.hid (hmin hcc)
                    rw [hcc] at HHs
                    clear hcc hmin
                    go_upto_region 17 with fail
                    have KD : Kept wr wr.drew := (Kept.refl _).dr ⟨1, rfl⟩
                    refine wp_region_held_drew (S := (fun Z => (Z.cell? ⟨bx, 0, none⟩ = some (.int .i64 (j : Nat)) ∧ Z.cell? ⟨bx, 1, none⟩ = some (.slice s m c)) ∧ Z.cell? ⟨bo, oo + r1, none⟩ = some (.int .i64 la))) (by kernel_rfl) (by exact HS.out _ KD) (fun hHeld => ?_)
                    apply wpAnyH_take (i := 0)
                    case hi => (simp only [List.getElem?_toArray, List.getElem?_cons_succ, List.getElem?_cons_zero]; rfl)
                    case hs => kernel_rfl
                    case hf => kernel_rfl
                    case hr => kernel_rfl
                    case hQ => exact fun _ _ _ h => h
                    case hy => (refine Or.inl ⟨by rfl, ?_⟩; (intro w' hSw; (try dsimp only at hSw); go_simp) <;> with_reducible rfl)
                    case hS => assumption
                    try simp only [Act.put, List.setIfInBounds_toArray, List.set_cons_zero, List.set_cons_succ]
                    apply wpAnyH_take (i := 1)
                    case hi => (simp only [List.getElem?_toArray, List.getElem?_cons_succ, List.getElem?_cons_zero]; rfl)
                    case hs => kernel_rfl
                    case hf => kernel_rfl
                    case hr => kernel_rfl
                    case hQ => exact fun _ _ _ h => h
                    case hy => (refine Or.inl ⟨by rfl, ?_⟩; (intro w' hSw; (try dsimp only at hSw); go_simp) <;> with_reducible rfl)
                    case hS => assumption
                    try simp only [Act.put, List.setIfInBounds_toArray, List.set_cons_zero, List.set_cons_succ]
                    apply wpAnyH_take (i := 2)
                    case hi => (simp only [List.getElem?_toArray, List.getElem?_cons_succ, List.getElem?_cons_zero]; rfl)
                    case hs => kernel_rfl
                    case hf => kernel_rfl
                    case hr => kernel_rfl
                    case hQ => exact fun _ _ _ h => h
                    case hy => (refine Or.inl ⟨by rfl, ?_⟩; (intro w' hSw; (try dsimp only at hSw); go_simp) <;> with_reducible rfl)
                    case hS => assumption
                    try simp only [Act.put, List.setIfInBounds_toArray, List.set_cons_zero, List.set_cons_succ]
                    apply wpAnyH_take (i := 3)
                    case hi => (simp only [List.getElem?_toArray, List.getElem?_cons_succ, List.getElem?_cons_zero]; rfl)
                    case hs => kernel_rfl
                    case hf => kernel_rfl
                    case hr => kernel_rfl
                    case hQ => exact fun _ _ _ h => h
                    case hy => (refine Or.inl ⟨by rfl, ?_⟩; (intro w' hSw; (try dsimp only at hSw); go_simp) <;> with_reducible rfl)
                    case hS => assumption
                    try simp only [Act.put, List.setIfInBounds_toArray, List.set_cons_zero, List.set_cons_succ]
                    apply wpAnyH_take (i := 4)
                    case hi => (simp only [List.getElem?_toArray, List.getElem?_cons_succ, List.getElem?_cons_zero]; rfl)
                    case hs => kernel_rfl
                    case hf => kernel_rfl
                    case hr => kernel_rfl
                    case hQ => exact fun _ _ _ h => h
                    case hy => (refine Or.inl ⟨by rfl, ?_⟩; (intro w' hSw; (try dsimp only at hSw); go_simp) <;> with_reducible rfl)
                    case hS => assumption
                    try simp only [Act.put, List.setIfInBounds_toArray, List.set_cons_zero, List.set_cons_succ]
                    apply wpAnyH_take (i := 5)
                    case hi => (simp only [List.getElem?_toArray, List.getElem?_cons_succ, List.getElem?_cons_zero]; rfl)
                    case hs => kernel_rfl
                    case hf => kernel_rfl
                    case hr => kernel_rfl
                    case hQ => exact fun _ _ _ h => h
                    case hy => (refine Or.inl ⟨by rfl, ?_⟩; (intro w' hSw; (try dsimp only at hSw); go_simp) <;> with_reducible rfl)
                    case hS => assumption
                    try simp only [Act.put, List.setIfInBounds_toArray, List.set_cons_zero, List.set_cons_succ]
                    apply wpAnyH_take (i := 6)
                    case hi => (simp only [List.getElem?_toArray, List.getElem?_cons_succ, List.getElem?_cons_zero]; rfl)
                    case hs => kernel_rfl
                    case hf => kernel_rfl
                    case hr => kernel_rfl
                    case hQ => exact fun _ _ _ h => h
                    case hy => (refine Or.inl ⟨by rfl, ?_⟩; (intro w' hSw; (try dsimp only at hSw); go_simp) <;> with_reducible rfl)
                    case hS => assumption
                    try simp only [Act.put, List.setIfInBounds_toArray, List.set_cons_zero, List.set_cons_succ]
                    apply wpAnyH_take (i := 7)
                    case hi => (simp only [List.getElem?_toArray, List.getElem?_cons_succ, List.getElem?_cons_zero]; rfl)
                    case hs => kernel_rfl
                    case hf => kernel_rfl
                    case hr => kernel_rfl
                    case hQ => exact fun _ _ _ h => h
                    case hy => (refine Or.inl ⟨by rfl, ?_⟩; (intro w' hSw; (try dsimp only at hSw); go_simp) <;> with_reducible rfl)
                    case hS => assumption
                    try simp only [Act.put, List.setIfInBounds_toArray, List.set_cons_zero, List.set_cons_succ]
                    refine wpAnyH_ready (rs := [8]) (by kernel_rfl) (by simp) ?_
                    apply AllReadyH.cons
                    case ho => (simp only [List.getElem?_toArray, List.getElem?_cons_succ, List.getElem?_cons_zero]; rfl)
                    case hs => exact AllReadyH.nil
                    intro K hK
                    go_simp
                    (go_at_call 29; refine HHs.out.mono ?_; rintro E5 V5 ⟨rfl, J⟩; replace KD := KD.trans J; clear J HHs)
                    refine hK.out _ _ (by exact HS.out _ KD) (fun hHeld => ?_)
                    clear hK K
                    try simp only [Act.put, List.setIfInBounds_toArray, List.set_cons_zero, List.set_cons_succ]
                    apply wpAnyH_take (i := 9)
                    case hi => (simp only [List.getElem?_toArray, List.getElem?_cons_succ, List.getElem?_cons_zero]; rfl)
                    case hs => kernel_rfl
                    case hf => kernel_rfl
                    case hr => kernel_rfl
                    case hQ => exact fun _ _ _ h => h
                    case hy => (refine Or.inl ⟨by rfl, ?_⟩; (intro w' hSw; (try dsimp only at hSw); go_simp) <;> with_reducible rfl)
                    case hS => assumption
                    try simp only [Act.put, List.setIfInBounds_toArray, List.set_cons_zero, List.set_cons_succ]
                    apply wpAnyH_take (i := 10)
                    case hi => (simp only [List.getElem?_toArray, List.getElem?_cons_succ, List.getElem?_cons_zero]; rfl)
                    case hs => kernel_rfl
                    case hf => kernel_rfl
                    case hr => kernel_rfl
                    case hQ => exact fun _ _ _ h => h
                    case hy => (refine Or.inl ⟨by rfl, ?_⟩; (intro w' hSw; (try dsimp only at hSw); go_simp) <;> with_reducible rfl)
                    case hS => assumption
                    try simp only [Act.put, List.setIfInBounds_toArray, List.set_cons_zero, List.set_cons_succ]
                    apply wpAnyH_take (i := 11)
                    case hi => (simp only [List.getElem?_toArray, List.getElem?_cons_succ, List.getElem?_cons_zero]; rfl)
                    case hs => kernel_rfl
                    case hf => kernel_rfl
                    case hr => kernel_rfl
                    case hQ => exact fun _ _ _ h => h
                    case hy => (refine Or.inl ⟨by rfl, ?_⟩; (intro w' hSw; (try dsimp only at hSw); go_simp) <;> with_reducible rfl)
                    case hS => assumption
                    try simp only [Act.put, List.setIfInBounds_toArray, List.set_cons_zero, List.set_cons_succ]
                    apply wpAnyH_take (i := 13)
                    case hi => (simp only [List.getElem?_toArray, List.getElem?_cons_succ, List.getElem?_cons_zero]; rfl)
                    case hs => kernel_rfl
                    case hf => kernel_rfl
                    case hr => kernel_rfl
                    case hQ => exact fun _ _ _ h => h
                    case hy => (refine Or.inl ⟨by rfl, ?_⟩; (intro w' hSw; (try dsimp only at hSw); go_simp) <;> with_reducible rfl)
                    case hS => assumption
                    try simp only [Act.put, List.setIfInBounds_toArray, List.set_cons_zero, List.set_cons_succ]
                    apply wpAnyH_take (i := 16)
                    case hi => (simp only [List.getElem?_toArray, List.getElem?_cons_succ, List.getElem?_cons_zero]; rfl)
                    case hs => kernel_rfl
                    case hf => kernel_rfl
                    case hr => kernel_rfl
                    case hQ => exact fun _ _ _ h => h
                    case hy => (refine Or.inl ⟨by rfl, ?_⟩; (intro w' hSw; (try dsimp only at hSw); go_simp) <;> with_reducible rfl)
                    case hS => assumption
                    try simp only [Act.put, List.setIfInBounds_toArray, List.set_cons_zero, List.set_cons_succ]
                    apply wpAnyH_take (i := 17)
                    case hi => (simp only [List.getElem?_toArray, List.getElem?_cons_succ, List.getElem?_cons_zero]; rfl)
                    case hs => kernel_rfl
                    case hf => kernel_rfl
                    case hr => kernel_rfl
                    case hQ => exact fun _ _ _ h => h
                    case hy => (refine Or.inl ⟨by rfl, ?_⟩; (intro w' hSw; (try dsimp only at hSw); go_simp) <;> with_reducible rfl)
                    case hS => assumption
                    try simp only [Act.put, List.setIfInBounds_toArray, List.set_cons_zero, List.set_cons_succ]
                    apply wpAnyH_take (i := 18)
                    case hi => (simp only [List.getElem?_toArray, List.getElem?_cons_succ, List.getElem?_cons_zero]; rfl)
                    case hs => kernel_rfl
                    case hf => kernel_rfl
                    case hr => kernel_rfl
                    case hQ => exact fun _ _ _ h => h
                    case hy => (refine Or.inl ⟨by rfl, ?_⟩; (intro w' hSw; (try dsimp only at hSw); go_simp) <;> with_reducible rfl)
                    case hS => assumption
                    try simp only [Act.put, List.setIfInBounds_toArray, List.set_cons_zero, List.set_cons_succ]
                    apply wpAnyH_take (i := 19)
                    case hi => (simp only [List.getElem?_toArray, List.getElem?_cons_succ, List.getElem?_cons_zero]; rfl)
                    case hs => kernel_rfl
                    case hf => kernel_rfl
                    case hr => kernel_rfl
                    case hQ => exact fun _ _ _ h => h
                    case hy => (refine Or.inl ⟨by rfl, ?_⟩; (intro w' hSw; (try dsimp only at hSw); go_simp) <;> with_reducible rfl)
                    case hS => assumption
                    try simp only [Act.put, List.setIfInBounds_toArray, List.set_cons_zero, List.set_cons_succ]
                    refine wpAnyH_ready (rs := [12]) (by kernel_rfl) (by simp) ?_
                    apply AllReadyH.cons
                    case ho => (simp only [List.getElem?_toArray, List.getElem?_cons_succ, List.getElem?_cons_zero]; rfl)
                    case hs => exact AllReadyH.nil
                    intro K hK
                    go_simp
                    (go_at_call 30; refine (HStp.out _ KD).mono ?_; rintro E7 V7 ⟨fa, fc, rfl, hSf, J⟩)
                    obtain ⟨bf, of', kv', rfl, hkc, hkv⟩ := hSf.at sn (by omega)
                    have hfc := hSf.2.1
                    have hkv2 : kv' = stpV j E (q : Int) sn := by rw [hkv.out, stpL_at (by simpa using hsj)]
                    have HKV := Lib.hid hkv2
                    replace KD := KD.trans J
                    have hsj' : (sn : Int) < j := by omega
                    clear J hSf hkv hkv2 HStp
                    refine hK.out _ _ (by exact HS.out _ KD) (fun hHeld => ?_)
                    clear hK K
                    try simp only [Act.put, List.setIfInBounds_toArray, List.set_cons_zero, List.set_cons_succ]
                    apply wpAnyH_take (i := 14)
                    case hi => (simp only [List.getElem?_toArray, List.getElem?_cons_succ, List.getElem?_cons_zero]; rfl)
                    case hs => kernel_rfl
                    case hf => kernel_rfl
                    case hr => kernel_rfl
                    case hQ => exact fun _ _ _ h => h
                    case hy => (refine Or.inl ⟨by rfl, ?_⟩; (intro w' hSw; (try dsimp only at hSw); go_simp) <;> with_reducible rfl)
                    case hS => assumption
                    try simp only [Act.put, List.setIfInBounds_toArray, List.set_cons_zero, List.set_cons_succ]
                    refine wpAnyH_ready (rs := [15]) (by kernel_rfl) (by simp) ?_
                    apply AllReadyH.cons
                    case ho => (simp only [List.getElem?_toArray, List.getElem?_cons_succ, List.getElem?_cons_zero]; rfl)
                    case hs => exact AllReadyH.nil
                    intro K hK
                    go_simp
                    skip
                    refine hK.out _ _ (by exact HS.out _ KD) (fun hHeld => ?_)
                    clear hK K
                    try simp only [Act.put, List.setIfInBounds_toArray, List.set_cons_zero, List.set_cons_succ]
                    apply wpAnyH_take (i := 20)
                    case hi => (simp only [List.getElem?_toArray, List.getElem?_cons_succ, List.getElem?_cons_zero]; rfl)
                    case hs => kernel_rfl
                    case hf => kernel_rfl
                    case hr => kernel_rfl
                    case hQ => exact fun _ _ _ h => h
                    case hy => (refine Or.inl ⟨by rfl, ?_⟩; (intro w' hSw; (try dsimp only at hSw); go_simp) <;> with_reducible rfl)
                    case hS => assumption
                    try simp only [Act.put, List.setIfInBounds_toArray, List.set_cons_zero, List.set_cons_succ]
                    apply wpAnyH_take (i := 21)
                    case hi => (simp only [List.getElem?_toArray, List.getElem?_cons_succ, List.getElem?_cons_zero]; rfl)
                    case hs => kernel_rfl
                    case hf => kernel_rfl
                    case hr => kernel_rfl
                    case hQ => exact fun _ _ _ h => h
                    case hy => (refine Or.inl ⟨by rfl, ?_⟩; (intro w' hSw; (try dsimp only at hSw); go_simp) <;> with_reducible rfl)
                    case hS => assumption
                    try simp only [Act.put, List.setIfInBounds_toArray, List.set_cons_zero, List.set_cons_succ]
                    refine wpAnyH_done (by kernel_rfl) ?_ _
                    have hkb : (kv' == (l : Int) + 1) = false := beq_eq_false_iff_ne.2 (by rw [HKV.out]; exact hne.out)
                    have HA5 := Lib.hid (KD.only.app HA3.out (by simp))
                    have HL5 := Lib.hid (KD.cel HL3.out)
                    have HK5 := Lib.hid (HK3.out.trans KD)
                    clear KD hHeld
                    go_wp2_with fail
                    go_roundw
                    case rel => exact ⟨q + 1, rfl, by go_num, by omega, HA5.out, HL5.out, HK5.out⟩
                    case measure => simp [intOf]; omega
                · obtain rfl : q = d := by omega
                  rw [HdE.out] at HHs
                  go_upto_region 17 with fail
                  have KD : Kept wr wr.drew := (Kept.refl _).dr ⟨1, rfl⟩
                  refine wp_region_held_drew (S := (fun Z => (Z.cell? ⟨bx, 0, none⟩ = some (.int .i64 (j : Nat)) ∧ Z.cell? ⟨bx, 1, none⟩ = some (.slice s m c)) ∧ Z.cell? ⟨bo, oo + r1, none⟩ = some (.int .i64 la))) (by kernel_rfl) (by exact HS.out _ KD) (fun hHeld => ?_)
                  apply wpAnyH_take (i := 0)
                  case hi => (simp only [List.getElem?_toArray, List.getElem?_cons_succ, List.getElem?_cons_zero]; rfl)
                  case hs => kernel_rfl
                  case hf => kernel_rfl
                  case hr => kernel_rfl
                  case hQ => exact fun _ _ _ h => h
                  case hy => (refine Or.inl ⟨by rfl, ?_⟩; (intro w' hSw; (try dsimp only at hSw); go_simp) <;> with_reducible rfl)
                  case hS => assumption
                  try simp only [Act.put, List.setIfInBounds_toArray, List.set_cons_zero, List.set_cons_succ]
                  apply wpAnyH_take (i := 1)
                  case hi => (simp only [List.getElem?_toArray, List.getElem?_cons_succ, List.getElem?_cons_zero]; rfl)
                  case hs => kernel_rfl
                  case hf => kernel_rfl
                  case hr => kernel_rfl
                  case hQ => exact fun _ _ _ h => h
                  case hy => (refine Or.inl ⟨by rfl, ?_⟩; (intro w' hSw; (try dsimp only at hSw); go_simp) <;> with_reducible rfl)
                  case hS => assumption
                  try simp only [Act.put, List.setIfInBounds_toArray, List.set_cons_zero, List.set_cons_succ]
                  apply wpAnyH_take (i := 2)
                  case hi => (simp only [List.getElem?_toArray, List.getElem?_cons_succ, List.getElem?_cons_zero]; rfl)
                  case hs => kernel_rfl
                  case hf => kernel_rfl
                  case hr => kernel_rfl
                  case hQ => exact fun _ _ _ h => h
                  case hy => (refine Or.inl ⟨by rfl, ?_⟩; (intro w' hSw; (try dsimp only at hSw); go_simp) <;> with_reducible rfl)
                  case hS => assumption
                  try simp only [Act.put, List.setIfInBounds_toArray, List.set_cons_zero, List.set_cons_succ]
                  apply wpAnyH_take (i := 3)
                  case hi => (simp only [List.getElem?_toArray, List.getElem?_cons_succ, List.getElem?_cons_zero]; rfl)
                  case hs => kernel_rfl
                  case hf => kernel_rfl
                  case hr => kernel_rfl
                  case hQ => exact fun _ _ _ h => h
                  case hy => (refine Or.inl ⟨by rfl, ?_⟩; (intro w' hSw; (try dsimp only at hSw); go_simp) <;> with_reducible rfl)
                  case hS => assumption
                  try simp only [Act.put, List.setIfInBounds_toArray, List.set_cons_zero, List.set_cons_succ]
                  apply wpAnyH_take (i := 4)
                  case hi => (simp only [List.getElem?_toArray, List.getElem?_cons_succ, List.getElem?_cons_zero]; rfl)
                  case hs => kernel_rfl
                  case hf => kernel_rfl
                  case hr => kernel_rfl
                  case hQ => exact fun _ _ _ h => h
                  case hy => (refine Or.inl ⟨by rfl, ?_⟩; (intro w' hSw; (try dsimp only at hSw); go_simp) <;> with_reducible rfl)
                  case hS => assumption
                  try simp only [Act.put, List.setIfInBounds_toArray, List.set_cons_zero, List.set_cons_succ]
                  apply wpAnyH_take (i := 5)
                  case hi => (simp only [List.getElem?_toArray, List.getElem?_cons_succ, List.getElem?_cons_zero]; rfl)
                  case hs => kernel_rfl
                  case hf => kernel_rfl
                  case hr => kernel_rfl
                  case hQ => exact fun _ _ _ h => h
                  case hy => (refine Or.inl ⟨by rfl, ?_⟩; (intro w' hSw; (try dsimp only at hSw); go_simp) <;> with_reducible rfl)
                  case hS => assumption
                  try simp only [Act.put, List.setIfInBounds_toArray, List.set_cons_zero, List.set_cons_succ]
                  apply wpAnyH_take (i := 6)
                  case hi => (simp only [List.getElem?_toArray, List.getElem?_cons_succ, List.getElem?_cons_zero]; rfl)
                  case hs => kernel_rfl
                  case hf => kernel_rfl
                  case hr => kernel_rfl
                  case hQ => exact fun _ _ _ h => h
                  case hy => (refine Or.inl ⟨by rfl, ?_⟩; (intro w' hSw; (try dsimp only at hSw); go_simp) <;> with_reducible rfl)
                  case hS => assumption
                  try simp only [Act.put, List.setIfInBounds_toArray, List.set_cons_zero, List.set_cons_succ]
                  apply wpAnyH_take (i := 7)
                  case hi => (simp only [List.getElem?_toArray, List.getElem?_cons_succ, List.getElem?_cons_zero]; rfl)
                  case hs => kernel_rfl
                  case hf => kernel_rfl
                  case hr => kernel_rfl
                  case hQ => exact fun _ _ _ h => h
                  case hy => (refine Or.inl ⟨by rfl, ?_⟩; (intro w' hSw; (try dsimp only at hSw); go_simp) <;> with_reducible rfl)
                  case hS => assumption
                  try simp only [Act.put, List.setIfInBounds_toArray, List.set_cons_zero, List.set_cons_succ]
                  refine wpAnyH_ready (rs := [8]) (by kernel_rfl) (by simp) ?_
                  apply AllReadyH.cons
                  case ho => (simp only [List.getElem?_toArray, List.getElem?_cons_succ, List.getElem?_cons_zero]; rfl)
                  case hs => exact AllReadyH.nil
                  intro K hK
                  go_simp
                  (go_at_call 29; refine HHs.out.mono ?_; rintro E5 V5 ⟨rfl, J⟩; replace KD := KD.trans J; clear J HHs)
                  refine hK.out _ _ (by exact HS.out _ KD) (fun hHeld => ?_)
                  clear hK K
                  try simp only [Act.put, List.setIfInBounds_toArray, List.set_cons_zero, List.set_cons_succ]
                  apply wpAnyH_take (i := 9)
                  case hi => (simp only [List.getElem?_toArray, List.getElem?_cons_succ, List.getElem?_cons_zero]; rfl)
                  case hs => kernel_rfl
                  case hf => kernel_rfl
                  case hr => kernel_rfl
                  case hQ => exact fun _ _ _ h => h
                  case hy => (refine Or.inl ⟨by rfl, ?_⟩; (intro w' hSw; (try dsimp only at hSw); go_simp) <;> with_reducible rfl)
                  case hS => assumption
                  try simp only [Act.put, List.setIfInBounds_toArray, List.set_cons_zero, List.set_cons_succ]
                  apply wpAnyH_take (i := 10)
                  case hi => (simp only [List.getElem?_toArray, List.getElem?_cons_succ, List.getElem?_cons_zero]; rfl)
                  case hs => kernel_rfl
                  case hf => kernel_rfl
                  case hr => kernel_rfl
                  case hQ => exact fun _ _ _ h => h
                  case hy => (refine Or.inl ⟨by rfl, ?_⟩; (intro w' hSw; (try dsimp only at hSw); go_simp) <;> with_reducible rfl)
                  case hS => assumption
                  try simp only [Act.put, List.setIfInBounds_toArray, List.set_cons_zero, List.set_cons_succ]
                  apply wpAnyH_take (i := 11)
                  case hi => (simp only [List.getElem?_toArray, List.getElem?_cons_succ, List.getElem?_cons_zero]; rfl)
                  case hs => kernel_rfl
                  case hf => kernel_rfl
                  case hr => kernel_rfl
                  case hQ => exact fun _ _ _ h => h
                  case hy => (refine Or.inl ⟨by rfl, ?_⟩; (intro w' hSw; (try dsimp only at hSw); go_simp) <;> with_reducible rfl)
                  case hS => assumption
                  try simp only [Act.put, List.setIfInBounds_toArray, List.set_cons_zero, List.set_cons_succ]
                  apply wpAnyH_take (i := 13)
                  case hi => (simp only [List.getElem?_toArray, List.getElem?_cons_succ, List.getElem?_cons_zero]; rfl)
                  case hs => kernel_rfl
                  case hf => kernel_rfl
                  case hr => kernel_rfl
                  case hQ => exact fun _ _ _ h => h
                  case hy => (refine Or.inl ⟨by rfl, ?_⟩; (intro w' hSw; (try dsimp only at hSw); go_simp) <;> with_reducible rfl)
                  case hS => assumption
                  try simp only [Act.put, List.setIfInBounds_toArray, List.set_cons_zero, List.set_cons_succ]
                  apply wpAnyH_take (i := 16)
                  case hi => (simp only [List.getElem?_toArray, List.getElem?_cons_succ, List.getElem?_cons_zero]; rfl)
                  case hs => kernel_rfl
                  case hf => kernel_rfl
                  case hr => kernel_rfl
                  case hQ => exact fun _ _ _ h => h
                  case hy => (refine Or.inl ⟨by rfl, ?_⟩; (intro w' hSw; (try dsimp only at hSw); go_simp) <;> with_reducible rfl)
                  case hS => assumption
                  try simp only [Act.put, List.setIfInBounds_toArray, List.set_cons_zero, List.set_cons_succ]
                  apply wpAnyH_take (i := 17)
                  case hi => (simp only [List.getElem?_toArray, List.getElem?_cons_succ, List.getElem?_cons_zero]; rfl)
                  case hs => kernel_rfl
                  case hf => kernel_rfl
                  case hr => kernel_rfl
                  case hQ => exact fun _ _ _ h => h
                  case hy => (refine Or.inl ⟨by rfl, ?_⟩; (intro w' hSw; (try dsimp only at hSw); go_simp) <;> with_reducible rfl)
                  case hS => assumption
                  try simp only [Act.put, List.setIfInBounds_toArray, List.set_cons_zero, List.set_cons_succ]
                  apply wpAnyH_take (i := 18)
                  case hi => (simp only [List.getElem?_toArray, List.getElem?_cons_succ, List.getElem?_cons_zero]; rfl)
                  case hs => kernel_rfl
                  case hf => kernel_rfl
                  case hr => kernel_rfl
                  case hQ => exact fun _ _ _ h => h
                  case hy => (refine Or.inl ⟨by rfl, ?_⟩; (intro w' hSw; (try dsimp only at hSw); go_simp) <;> with_reducible rfl)
                  case hS => assumption
                  try simp only [Act.put, List.setIfInBounds_toArray, List.set_cons_zero, List.set_cons_succ]
                  apply wpAnyH_take (i := 19)
                  case hi => (simp only [List.getElem?_toArray, List.getElem?_cons_succ, List.getElem?_cons_zero]; rfl)
                  case hs => kernel_rfl
                  case hf => kernel_rfl
                  case hr => kernel_rfl
                  case hQ => exact fun _ _ _ h => h
                  case hy => (refine Or.inl ⟨by rfl, ?_⟩; (intro w' hSw; (try dsimp only at hSw); go_simp) <;> with_reducible rfl)
                  case hS => assumption
                  try simp only [Act.put, List.setIfInBounds_toArray, List.set_cons_zero, List.set_cons_succ]
                  refine wpAnyH_ready (rs := [12]) (by kernel_rfl) (by simp) ?_
                  apply AllReadyH.cons
                  case ho => (simp only [List.getElem?_toArray, List.getElem?_cons_succ, List.getElem?_cons_zero]; rfl)
                  case hs => exact AllReadyH.nil
                  intro K hK
                  go_simp
                  (go_at_call 30; refine (HStp.out _ KD).mono ?_; rintro E7 V7 ⟨fa, fc, rfl, hSf, J⟩)
                  obtain ⟨bf, of', kv', rfl, hkc, hkv⟩ := hSf.at sn (by omega)
                  have hfc := hSf.2.1
                  have hkv2 : kv' = stpV j E (q : Int) sn := by rw [hkv.out, stpL_at (by simpa using hsj)]
                  have HKV := Lib.hid hkv2
                  replace KD := KD.trans J
                  have hsj' : (sn : Int) < j := by omega
                  clear J hSf hkv hkv2 HStp
                  refine hK.out _ _ (by exact HS.out _ KD) (fun hHeld => ?_)
                  clear hK K
                  try simp only [Act.put, List.setIfInBounds_toArray, List.set_cons_zero, List.set_cons_succ]
                  apply wpAnyH_take (i := 14)
                  case hi => (simp only [List.getElem?_toArray, List.getElem?_cons_succ, List.getElem?_cons_zero]; rfl)
                  case hs => kernel_rfl
                  case hf => kernel_rfl
                  case hr => kernel_rfl
                  case hQ => exact fun _ _ _ h => h
                  case hy => (refine Or.inl ⟨by rfl, ?_⟩; (intro w' hSw; (try dsimp only at hSw); go_simp) <;> with_reducible rfl)
                  case hS => assumption
                  try simp only [Act.put, List.setIfInBounds_toArray, List.set_cons_zero, List.set_cons_succ]
                  refine wpAnyH_ready (rs := [15]) (by kernel_rfl) (by simp) ?_
                  apply AllReadyH.cons
                  case ho => (simp only [List.getElem?_toArray, List.getElem?_cons_succ, List.getElem?_cons_zero]; rfl)
                  case hs => exact AllReadyH.nil
                  intro K hK
                  go_simp
                  skip
                  refine hK.out _ _ (by exact HS.out _ KD) (fun hHeld => ?_)
                  clear hK K
                  try simp only [Act.put, List.setIfInBounds_toArray, List.set_cons_zero, List.set_cons_succ]
                  apply wpAnyH_take (i := 20)
                  case hi => (simp only [List.getElem?_toArray, List.getElem?_cons_succ, List.getElem?_cons_zero]; rfl)
                  case hs => kernel_rfl
                  case hf => kernel_rfl
                  case hr => kernel_rfl
                  case hQ => exact fun _ _ _ h => h
                  case hy => (refine Or.inl ⟨by rfl, ?_⟩; (intro w' hSw; (try dsimp only at hSw); go_simp) <;> with_reducible rfl)
                  case hS => assumption
                  try simp only [Act.put, List.setIfInBounds_toArray, List.set_cons_zero, List.set_cons_succ]
                  apply wpAnyH_take (i := 21)
                  case hi => (simp only [List.getElem?_toArray, List.getElem?_cons_succ, List.getElem?_cons_zero]; rfl)
                  case hs => kernel_rfl
                  case hf => kernel_rfl
                  case hr => kernel_rfl
                  case hQ => exact fun _ _ _ h => h
                  case hy => (refine Or.inl ⟨by rfl, ?_⟩; (intro w' hSw; (try dsimp only at hSw); go_simp) <;> with_reducible rfl)
                  case hS => assumption
                  try simp only [Act.put, List.setIfInBounds_toArray, List.set_cons_zero, List.set_cons_succ]
                  refine wpAnyH_done (by kernel_rfl) ?_ _
                  have hkb : (kv' == (l : Int) + 1) = true := beq_iff_eq.2 (by rw [HKV.out]; exact HdS.out)
                  have HA5 := Lib.hid (KD.only.app HA3.out (by simp))
                  have HL5 := Lib.hid (KD.cel HL3.out)
                  have HK5 := Lib.hid (HK3.out.trans KD)
                  clear KD hHeld
                  have KL7 := kept_al V7 (.cells #[.int .i64 (q : Nat)] 3)
                  have HAL := Lib.hid (KL7.only.app HA5.out (by simp))
                  have HKL7 := Lib.hid (HK5.out.trans KL7)
                  have HSrc := Lib.hid (src_block (P := Try.prog) (size := 1) Try.underlying27 (heap_alloc_new V7 (.cells #[.int .i64 (q : Nat)] 3)) 1 1 rfl (by simp [Value.oneCell']))
                  have hVz := HK5.out.size
                  clear KL7 hkc
                  go_wp2_with (at_builtin; refine wpList_app rfl (.tmp 73) (.tmp 75) 27 27 rfl elemI _ rr _ _ rfl HAL.out _ 1 _ rfl HSrc.out (by omega) (by unfold maxLen; omega) ?_; intro a5 c5 g5 w5 hA5 hO5 hG5; have HA8 := Lib.hid hA5; have HO5 := Lib.hid hO5; have HG5 := Lib.hid hG5; clear hA5 hO5 hG5)
                  have hg1 : ∀ i ∈ g5.toList, V1.heap.size ≤ i := by
                    intro i hi
                    rcases HG5.out with h | h
                    · rw [h] at hi; exact HGb.out i hi
                    · rw [h] at hi; simp at hi hVz; omega
                  have hK8 : Kept V1 w5 := HKL7.out.onl HO5.out HGb.out
                  go_roundw
                  case rel => exact ⟨rr + 1, out ++ [(q : Int)], a5, c5, g5, rfl, by omega, by omega, by rw [HLr.out]; exact HC2.out, HdC.out, by rw [ivs_app]; exact HA8.out, hK8, hg1⟩
                  case measure => simp [lenOfV]; omega
            · obtain rfl : rr = K := by omega
              have HRc : Hid (cycleL j E = out) := by unfold Hid; rw [HC.out, Nat.sub_self]; rfl
              have HSl := Lib.hid hSo
              have HKF := Lib.hid (HK1.out.trans HKw.out)
              have HNew : Hid (∀ y, a' = some y → bx ≤ y.block) := fun y hy => by
                subst hy
                have h1 := HGb.out y.block (by rw [app_blkI HA.out]; simp)
                have h2 := HK1.out.size
                omega
              go_wp2_with fail
              go_ret
              exact ⟨a', rr, c', rfl, by rw [HRc.out]; exact HSl.out, HKF.out, by omega, fun y hy => by rw [hbx]; exact HNew.out y hy⟩
end Go.Proofs.Ytboohafebkkdbaa
