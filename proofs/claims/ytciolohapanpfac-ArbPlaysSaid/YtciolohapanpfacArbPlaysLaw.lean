/- ArbPlays: any turns, by any hands. -/
import Derived.Test.YtciolohapanpfacArbReg2
import Derived.Test.YtciolohapanpfacArbAwake
import Derived.Test.YtciolohapanpfacArbTy
import Derived.Deep.RegionHeld3
import Derived.Deep.CutRange
import Derived.Deep.CutBlock
set_option linter.unusedVariables false
set_option linter.unusedSimpArgs false
namespace Go.Proofs.Ytciolohapanpfac
open Go.RowKit
/-- what may stand behind a state in the log -/
def relA (a b : AS) : Prop := a.e ≤ b.e ∧ a.f ≤ b.f ∧ (a.e = b.e → a.h = b.h)
def Mono (l : List AS) : Prop := ∀ i x y, l[i]? = some x → l[i + 1]? = some y → relA x y
theorem mono_one (x : AS) : Mono [x] := fun i y z h k => by
  cases i <;> simp at k
theorem mono_snoc {l : List AS} {x z : AS} (h : Mono (l ++ [x])) (r : relA x z) : Mono (l ++ [x] ++ [z]) := fun i y t hy ht => by
  rcases Nat.lt_trichotomy (i + 1) (l ++ [x]).length with hi | hi | hi
  · rw [List.getElem?_append_left (by omega)] at hy
    rw [List.getElem?_append_left hi] at ht
    exact h i y t hy ht
  · have hl : (l ++ [x]).length = l.length + 1 := by simp
    obtain rfl : i = l.length := by omega
    rw [List.getElem?_append_left (by omega)] at hy
    rw [List.getElem?_append_right (by omega)] at ht
    simp at hy ht
    subst hy; subst ht; exact r
  · rw [List.getElem?_append_right (by omega)] at ht
    have : i + 1 - (l ++ [x]).length ≠ 0 := by omega
    obtain ⟨k, hk⟩ := Nat.exists_eq_succ_of_ne_zero this
    rw [hk] at ht
    simp at ht
theorem rel_lead {y z : AS} {who : Int} (h : leadF y who = (z, true)) : relA y z := by
  unfold leadF at h
  split at h
  · simp at h
  · injection h with h1 h2
    subst h1
    exact ⟨by simp; omega, Int.le_refl _, by simp; omega⟩
theorem rel_turn {y z : AS} {who ep fl : Int} {solo : Bool} (h : turnF y who ep fl solo = (z, true)) : relA y z := by
  unfold turnF at h
  split at h
  · simp at h
  · rename_i hn
    injection h with h1 h2
    subst h1
    exact ⟨Int.le_refl _, by simp; omega, fun _ => rfl⟩
/-- four cells of a block -/
def P4 (w : World) (q : Nat) (v0 v1 v2 v3 : Value) : Prop := w.cell? ⟨q, 0, none⟩ = some v0 ∧ w.cell? ⟨q, 1, none⟩ = some v1 ∧ w.cell? ⟨q, 2, none⟩ = some v2 ∧ w.cell? ⟨q, 3, none⟩ = some v3
theorem Kept.p4 {w w' : World} {q : Nat} {v0 v1 v2 v3 : Value} (k : Kept w w') (c : P4 w q v0 v1 v2 v3) : P4 w' q v0 v1 v2 v3 := ⟨k.cel c.1, k.cel c.2.1, k.cel c.2.2.1, k.cel c.2.2.2⟩
theorem p4_of {w : World} {q : Nat} {t : TypeId} {m : Nat × Nat} {v0 v1 v2 v3 : Value} (h : w.heap[q]? = some (.cells #[v0, v1, v2, v3] t m)) : P4 w q v0 v1 v2 v3 := four_cells h
theorem kept_set4 {b w : World} {q : Nat} (k : Kept b w) (hq : b.heap.size ≤ q) (u0 u1 u2 u3 : Value) : Kept b ((((w.setCell ⟨q, 0, none⟩ u0).setCell ⟨q, 1, none⟩ u1).setCell ⟨q, 2, none⟩ u2).setCell ⟨q, 3, none⟩ u3) :=
  ((((k.only.setCell (fun h => absurd h (by simp; omega)) u0).setCell (fun h => absurd h (by simp; omega)) u1).setCell (fun h => absurd h (by simp; omega)) u2).setCell (fun h => absurd h (by simp; omega)) u3).kept
theorem only_set4 (w : World) (q : Nat) (u0 u1 u2 u3 : Value) : Only [q] w ((((w.setCell ⟨q, 0, none⟩ u0).setCell ⟨q, 1, none⟩ u1).setCell ⟨q, 2, none⟩ u2).setCell ⟨q, 3, none⟩ u3) :=
  (((((Only.refl [q] w).setCell (fun _ => by simp) u0).setCell (fun _ => by simp) u1).setCell (fun _ => by simp) u2).setCell (fun _ => by simp) u3)
/-- a slice of acts -/
def Acs (w : World) (a : Option Addr) (n c : Nat) : Prop :=
  n ≤ c ∧ c ≤ maxLen ∧ ∀ i, i < n → ∃ (b o : Nat) (op who N fl : Int), a = some ⟨b, o, none⟩ ∧ b < w.heap.size ∧ w.cell? ⟨b, o + i * 4, none⟩ = some (.int .i64 op) ∧ w.cell? ⟨b, o + i * 4 + 1, none⟩ = some (.int .i64 who) ∧ w.cell? ⟨b, o + i * 4 + 2, none⟩ = some (.int .i64 N) ∧ w.cell? ⟨b, o + i * 4 + 3, none⟩ = some (.int .i64 fl) ∧ -9223372036854775808 ≤ N ∧ N ≤ 9223372036854775807
abbrev TyAct : Ty := .st (.cons (.int .i64) (.cons (.int .i64) (.cons (.int .i64) (.cons (.int .i64) .nil))))
theorem slT_acts {w : World} {a : Option Addr} {n c : Nat} {l : List TyAct.den} (h : SlT w TyAct a n c l) : Acs w a n c := by
  obtain ⟨h1, h2, h3, h4⟩ := h
  refine ⟨h2, h3, fun i hi => ?_⟩
  obtain ⟨b, o, cs', ha, hlt, hl, hc, c1, r1, rfl, _, ⟨rfl, _⟩, c2, r2, rfl, _, ⟨rfl, _⟩, c3, r3, rfl, _, ⟨rfl, hw3⟩, c4, r4, rfl, _, ⟨rfl, _⟩, h5⟩ := h4 i (l[i]'(by omega)) (List.getElem?_eq_getElem (by omega))
  have b3 := wf_bd_i64 hw3
  exact ⟨b, o, _, _, _, _, ha, hlt, hc 0 _ rfl, hc 1 _ rfl, hc 2 _ rfl, hc 3 _ rfl, b3.1, b3.2⟩
set_option maxRecDepth 100000 in
set_option maxHeartbeats 4000000 in
theorem arbPlays_walk (a : Option Addr) (n c : Nat) (w : World) (ha : Acs w a n c) (hn : n ≤ 40) :
    Calls Try.prog 7 #[.slice a n c] w fun e w' => e = .returned (.bool true) ∧ Kept w w' := by
  have HT := Lib.hid ha
  have hnc := ha.1
  have hcm := ha.2.1
  unfold maxLen at hcm
  clear ha
  have HN := run_neqS
  have HE := run_eqS
  go_enter Try.func7, Try.ntmps7
  go_wp2_with fail
  refine (awake9 _).mono ?_
  rintro e w1 ⟨rfl, K1⟩
  go_wp2_with fail
  refine (arb_new _).mono ?_
  rintro e w2 ⟨p, k, rfl, hA, K2, hp, hk⟩
  have hp' : w.heap.size ≤ p := Nat.le_trans K1.size hp
  have hk' : w.heap.size ≤ k := Nat.le_trans K1.size hk
  have K12 := K1.trans K2
  obtain ⟨hpl, hgl, hgp⟩ := hA.lt
  have hkl := hgl k rfl
  have HA := Lib.hid hA
  clear hA K1 K2 hp hk hgl hgp
  go_wp2_with fail
  refine (arb_get p (some k) [] ⟨0, -1, false, 0⟩ _ HA.out).mono ?_
  rintro e w3 ⟨rfl, K3⟩
  dsimp only [AS.v]
  have hpq : p < w3.heap.size := Nat.lt_of_lt_of_le hpl K3.size
  have hkq : k < w3.heap.size := Nat.lt_of_lt_of_le hkl K3.size
  have hwq : w.heap.size ≤ w3.heap.size := (K12.trans K3).size
  have KL := (K12.trans K3).trans (kept_new w3 (.cells #[.int .i64 0, .int .i64 (-1), .bool false, .int .i64 0] 26))
  have HA3 := Lib.hid ((K3.trans (kept_new w3 (.cells #[.int .i64 0, .int .i64 (-1), .bool false, .int .i64 0] 26))).arb HA.out)
  have HQ3 := Lib.hid (heap_alloc_new w3 (.cells #[.int .i64 0, .int .i64 (-1), .bool false, .int .i64 0] 26))
  clear HA K12 K3 hpl hkl
  go_wp2_with fail
  generalize World.alloc w3 _ = W0 at *
  generalize w3.heap.size = q at *
  go_loopw [5] (fun i wr => ∃ (j : Nat) (l : List AS) (e h : Int) (s : Bool) (f : Int) (g : Option Nat), i = .int .i64 j ∧ j ≤ n ∧ Hid (ArbAt wr p g (l ++ [⟨e, h, s, f⟩])) ∧ Hid (wr.heap[q]? = some (.cells #[.int .i64 e, .int .i64 h, .bool s, .int .i64 f] 26 (0, 0))) ∧ Kept w wr ∧ l.length ≤ j ∧ (∀ r, g = some r → w.heap.size ≤ r ∧ r ≠ q) ∧ Hid (Mono (l ++ [⟨e, h, s, f⟩])))
    (fun i _ => n - (intOf i).toNat)
  case atStart => exact ⟨0, [], 0, -1, false, 0, some k, rfl, by omega, HA3.out, HQ3.out, KL, by simp, by intro r hr; injection hr with hr; subst hr; exact ⟨hk', by omega⟩, mono_one _⟩
  case round =>
    obtain ⟨j, l, e, h, s, f, g, rfl, hj, HA, HQ, Kj, hl, hg, HM⟩ := hrel
    by_cases hlt : j < n
    · have hlt' : (j : Int) < n := by omega
      obtain ⟨b', o', op, who, N, fl, rfl, hbl, d0', d1', d2', d3', N0, N1⟩ := HT.out.2.2 j hlt
      have d0 := Kj.cel d0'
      have d1 := Kj.cel d1'
      have d2 := Kj.cel d2'
      have d3 := Kj.cel d3'
      have PA := Lib.hid (p4_of (heap_alloc_new wr (.cells #[.int .i64 op, .int .i64 who, .int .i64 N, .int .i64 fl] 43)))
      have K4 := kept_new wr (.cells #[.int .i64 op, .int .i64 who, .int .i64 N, .int .i64 fl] 43)
      have hqr : wr.heap.size < (wr.alloc (.cells #[.int .i64 op, .int .i64 who, .int .i64 N, .int .i64 fl] 43)).heap.size := by simp
      clear d0' d1' d2' d3'
      go_wp2_with fail
      clear d0 d1 d2 d3
      generalize World.alloc wr _ = W4 at *
      refine (arb_log p g (l ++ [⟨e, h, s, f⟩]) _ (K4.arb HA.out) (by simp) (by simp; omega)).mono ?_
      rintro E w5 ⟨a5, c5, rfl, hS5, K5⟩
      rw [show (l ++ [(⟨e, h, s, f⟩ : AS)]).length = l.length + 1 by simp] at hS5 ⊢
      obtain ⟨_, hnc5, hcm5, hS5⟩ := hS5
      obtain ⟨b, o, rfl, hbl5, hcell⟩ := hS5 (by omega)
      unfold maxLen at hcm5
      obtain ⟨e0, e1, e2, e3⟩ := asV_at (l ++ [⟨e, h, s, f⟩]) l.length ⟨e, h, s, f⟩ (by simp)
      have c0 := hcell _ _ e0
      have c1 := hcell _ _ e1
      have c2 := hcell _ _ e2
      have c3 := hcell _ _ e3
      rw [← Nat.add_assoc] at c1 c2 c3
      obtain ⟨n0, n1, n2, n3⟩ := (K4.trans K5).p4 (p4_of HQ.out)
      obtain ⟨m0, m1, m2, m3⟩ := K5.p4 PA.out
      have hi : ((l.length : Int) + 1) - 1 = l.length := by omega
      have hz : ((l.length : Int) + 1 == 0) = false := by simp; omega
      have q0 : asEq e h s f e h s f = true := asEq_of (rfl : AS.mk e h s f = _)
      clear hS5 e0 e1 e2 e3
      have HC := Lib.hid hcell
      clear hcell
      go_wp2_with fail
      go_quiet (fail)
      generalize hw6 : World.drewN w5 _ = w6
      have K56 : Kept w5 w6 := hw6 ▸ (Kept.refl w5).dr ((Dr.refl w5).drewN _)
      have K6 := K5.trans K56
      have HC6 : Hid (∀ V, Kept w6 V → ∀ i v, (asV (l ++ [⟨e, h, s, f⟩]))[i]? = some v → V.cell? ⟨b, o + i, none⟩ = some v) := fun V k i v hv => (K56.trans k).cel (HC.out i v hv)
      have Kw6 : Kept wr w6 := K4.trans K6
      clear c0 c1 c2 c3 n0 n1 n2 n3 m0 m1 m2 m3 hw6 HC K4 K5 K56 q0
      obtain ⟨n0, n1, n2, n3⟩ := Kw6.p4 (p4_of HQ.out)
      have PA6 : Hid (∀ V, Kept w6 V → P4 V wr.heap.size (.int .i64 op) (.int .i64 who) (.int .i64 N) (.int .i64 fl)) := fun V k => (K6.trans k).p4 PA.out
      have HO7 := Lib.hid (heap_alloc_new w6 (.cells #[.int .i64 e, .int .i64 h, .bool s, .int .i64 f] 26))
      have K67 := kept_new w6 (.cells #[.int .i64 e, .int .i64 h, .bool s, .int .i64 f] 26)
      go_upto_region 15 with fail
      clear n0 n1 n2 n3
      generalize World.alloc w6 _ = W7 at *
      go_cut [56] from 21 to 119 (fun c wx => ∃ cc : Bool, c = .bool cc ∧ wx = W7 ∧ (cc = true → 0 < N ∧ N < (l.length : Int) + 1))
      case first =>
        obtain ⟨m0, m1, m2, m3⟩ := PA6.out _ K67
        by_cases hN : 0 < N
        · by_cases hN2 : N < (l.length : Int) + 1
          · go_wp2_with fail
            go_meet
            case rel => exact ⟨true, by first | (simp; done) | (simp; omega), rfl, fun _ => ⟨hN, hN2⟩⟩
          · go_wp2_with fail
            go_meet
            case rel => exact ⟨false, by first | (simp; done) | (simp; omega), rfl, fun hh => by cases hh⟩
        · go_wp2_with fail
          go_meet
          case rel => exact ⟨false, by first | (simp; done) | (simp; omega), rfl, fun hh => by cases hh⟩
      case rest =>
        obtain ⟨cc, rfl, hw, hcc⟩ := hcut
        rw [hw]
        clear hw
        go_upto_if 56 with fail
        go_cut [] from 21 to 119 (fun wx => ∃ (ey hy : Int) (sy : Bool) (fy : Int), Kept w6 wx ∧ wx.heap[w6.heap.size]? = some (.cells #[.int .i64 ey, .int .i64 hy, .bool sy, .int .i64 fy] 26 (0, 0)))
        case first =>
          cases cc
          · go_wp2_with fail
            go_meet
            case rel => exact ⟨e, h, s, f, K67, HO7.out⟩
          · obtain ⟨hN1, hN2⟩ := hcc rfl
            obtain ⟨kk, hkk⟩ : ∃ kk : Nat, (l.length : Int) - N = kk := ⟨((l.length : Int) - N).toNat, by omega⟩
            have hkl : kk < l.length + 1 := by omega
            obtain ⟨⟨ey, hy, sy, fy⟩, hyy⟩ : ∃ y, (l ++ [(⟨e, h, s, f⟩ : AS)])[kk]? = some y := ⟨_, List.getElem?_eq_getElem (by simp; omega)⟩
            obtain ⟨e0, e1, e2, e3⟩ := asV_at _ kk _ hyy
            have c0 := HC6.out _ K67 _ _ e0
            have c1 := HC6.out _ K67 _ _ e1
            have c2 := HC6.out _ K67 _ _ e2
            have c3 := HC6.out _ K67 _ _ e3
            rw [← Nat.add_assoc] at c1 c2 c3
            obtain ⟨m0, m1, m2, m3⟩ := PA6.out _ K67
            obtain ⟨f0, f1, f2, f3⟩ := p4_of HO7.out
            have g0 := one_free HO7.out 0
            have g1 := one_free HO7.out 1
            have g2 := one_free HO7.out 2
            have g3 := one_free HO7.out 3
            clear e0 e1 e2 e3 hyy m0 m1 m3
            go_wp2_with fail
            go_meet
            case rel => exact ⟨ey, hy, sy, fy, by (unfold Kept; repeat (first | exact Below.refl _ _ | assumption | (refine Below.alloc ?_ (by simp) _) | (refine Below.setCell ?_ (by simp) _) | (refine Below.drew ?_) | (refine below_drewN ?_ _))), four_set HO7.out _ _ _ _⟩
        case rest =>
          obtain ⟨ey, hy, sy, fy, K8, HO8⟩ := hcut
          have HO9 := Lib.hid ((kept_new wc (.cells #[.int .i64 0, .int .i64 0, .bool false, .int .i64 0] 26)).only.heap HO8 (by simp))
          have HT9 := Lib.hid (heap_alloc_new wc (.cells #[.int .i64 0, .int .i64 0, .bool false, .int .i64 0] 26))
          have K9 := K8.trans (kept_new wc (.cells #[.int .i64 0, .int .i64 0, .bool false, .int .i64 0] 26))
          have hoz : w6.heap.size < wc.heap.size := lt_heap HO8
          clear HO8 K8 HO7 K67
          obtain ⟨m0, m1, m2, m3⟩ := PA6.out _ K9
          go_upto_block 2 with fail
          generalize World.alloc wc _ = W9 at *
          generalize wc.heap.size = qt at *
          go_cut [10] from 21 to 119 (fun s10 wx => ∃ (ez hz : Int) (sz : Bool) (fz : Int) (ok : Bool), s10 = .bool ok ∧ Kept w6 wx ∧ wx.heap[w6.heap.size]? = some (.cells #[.int .i64 ey, .int .i64 hy, .bool sy, .int .i64 fy] 26 (0, 0)) ∧ wx.heap[qt]? = some (.cells #[.int .i64 ez, .int .i64 hz, .bool sz, .int .i64 fz] 26 (0, 0)) ∧ (ok = true → relA ⟨ey, hy, sy, fy⟩ ⟨ez, hz, sz, fz⟩))
          case first =>
            by_cases h0 : op = 0
            · have b0 : (op == 0) = true := by simp [h0]
              clear h0
              obtain ⟨m0, m1, m2, m3⟩ := PA6.out _ K9
              obtain ⟨o0, o1, o2, o3⟩ := p4_of HO9.out
              go_wp2_with fail
              refine (arb_lead ⟨ey, hy, sy, fy⟩ who _).mono ?_
              rintro E w10 ⟨rfl, J⟩
              have HR : Hid (∀ z, leadF ⟨ey, hy, sy, fy⟩ who = (z, true) → relA ⟨ey, hy, sy, fy⟩ z) := fun z hz' => rel_lead hz'
              generalize leadF ⟨ey, hy, sy, fy⟩ who = r at *
              obtain ⟨⟨ez, hz, sz, fz⟩, ok⟩ := r
              dsimp only [AS.v, pairV]
              have K10 := K9.trans J
              have HO10 := Lib.hid (J.only.heap HO9.out (by simp))
              have hT10 := J.only.heap HT9.out (by simp)
              obtain ⟨f0, f1, f2, f3⟩ := p4_of hT10
              have g0 := one_free hT10 0
              have g1 := one_free hT10 1
              have g2 := one_free hT10 2
              have g3 := one_free hT10 3
              have HT10 := Lib.hid hT10
              clear J hT10 m0 m1 m2 m3 o0 o1 o2 o3
              go_wp2_with fail
              go_meet
              case rel => exact ⟨ez, hz, sz, fz, ok, rfl, kept_set4 K10 (by omega) _ _ _ _, (only_set4 w10 qt _ _ _ _).heap HO10.out (by simp; omega), four_set HT10.out _ _ _ _, fun hh => HR.out _ (by rw [hh])⟩
            · have b0 : (op == 0) = false := by simp [h0]
              clear h0
              by_cases h1 : op = 1
              · have b1 : (op == 1) = true := by simp [h1]
                clear h1
                obtain ⟨m0, m1, m2, m3⟩ := PA6.out _ K9
                obtain ⟨o0, o1, o2, o3⟩ := p4_of HO9.out
                go_wp2_with fail
                refine (arb_alone ⟨ey, hy, sy, fy⟩ who ey fl _).mono ?_
                rintro E w10 ⟨rfl, J⟩
                have HR : Hid (∀ z, turnF ⟨ey, hy, sy, fy⟩ who ey fl true = (z, true) → relA ⟨ey, hy, sy, fy⟩ z) := fun z hz' => rel_turn hz'
                generalize turnF ⟨ey, hy, sy, fy⟩ who ey fl true = r at *
                obtain ⟨⟨ez, hz, sz, fz⟩, ok⟩ := r
                dsimp only [AS.v, pairV]
                have K10 := K9.trans J
                have HO10 := Lib.hid (J.only.heap HO9.out (by simp))
                have hT10 := J.only.heap HT9.out (by simp)
                obtain ⟨f0, f1, f2, f3⟩ := p4_of hT10
                have g0 := one_free hT10 0
                have g1 := one_free hT10 1
                have g2 := one_free hT10 2
                have g3 := one_free hT10 3
                have HT10 := Lib.hid hT10
                clear J hT10 m0 m1 m2 m3 o0 o1 o2 o3
                go_wp2_with fail
                go_meet
                case rel => exact ⟨ez, hz, sz, fz, ok, rfl, kept_set4 K10 (by omega) _ _ _ _, (only_set4 w10 qt _ _ _ _).heap HO10.out (by simp; omega), four_set HT10.out _ _ _ _, fun hh => HR.out _ (by rw [hh])⟩
              · have b1 : (op == 1) = false := by simp [h1]
                clear h1
                obtain ⟨m0, m1, m2, m3⟩ := PA6.out _ K9
                obtain ⟨o0, o1, o2, o3⟩ := p4_of HO9.out
                go_wp2_with fail
                refine (arb_both ⟨ey, hy, sy, fy⟩ who ey fl _).mono ?_
                rintro E w10 ⟨rfl, J⟩
                have HR : Hid (∀ z, turnF ⟨ey, hy, sy, fy⟩ who ey fl false = (z, true) → relA ⟨ey, hy, sy, fy⟩ z) := fun z hz' => rel_turn hz'
                generalize turnF ⟨ey, hy, sy, fy⟩ who ey fl false = r at *
                obtain ⟨⟨ez, hz, sz, fz⟩, ok⟩ := r
                dsimp only [AS.v, pairV]
                have K10 := K9.trans J
                have HO10 := Lib.hid (J.only.heap HO9.out (by simp))
                have hT10 := J.only.heap HT9.out (by simp)
                obtain ⟨f0, f1, f2, f3⟩ := p4_of hT10
                have g0 := one_free hT10 0
                have g1 := one_free hT10 1
                have g2 := one_free hT10 2
                have g3 := one_free hT10 3
                have HT10 := Lib.hid hT10
                clear J hT10 m0 m1 m2 m3 o0 o1 o2 o3
                go_wp2_with fail
                go_meet
                case rel => exact ⟨ez, hz, sz, fz, ok, rfl, kept_set4 K10 (by omega) _ _ _ _, (only_set4 w10 qt _ _ _ _).heap HO10.out (by simp; omega), four_set HT10.out _ _ _ _, fun hh => HR.out _ (by rw [hh])⟩
          case rest =>
            obtain ⟨ez, hz, sz, fz, ok, rfl, K10, HO10, HT10, hrel⟩ := hcut
            have HO10 := Lib.hid HO10
            have HT10 := Lib.hid HT10
            have HR10 := Lib.hid hrel
            have Kw10 := Kw6.trans K10
            have HAX := Lib.hid (Kw10.arb HA.out)
            have HQX := Lib.hid (Kw10.only.heap HQ.out (by simp))
            have KjX := Kj.trans Kw10
            obtain ⟨hpr, hgr, hgp⟩ := HA.out.lt
            have hqr' : q < wr.heap.size := lt_heap HQ.out
            have h6r : wr.heap.size ≤ w6.heap.size := Kw6.size
            have hXt : qt < wc.heap.size := lt_heap HT10.out
            have h6X : w6.heap.size < wc.heap.size := lt_heap HO10.out
            clear hrel HO9 HT9 K9 PA6 HC6 PA hcc
            cases ok
            · go_wp2
              go_roundw
              case rel => exact ⟨j + 1, l, e, h, s, f, g, by go_num, by omega, HAX.out, HQX.out, KjX, by omega, hg, HM.out⟩
              case measure => simp [intOf]; omega
            · go_wp2_with fail
              generalize wc = X at *
              have nq : q ∉ p :: g.toList := by
                intro hm
                rcases List.mem_cons.1 hm with hm | hm
                · omega
                · simp at hm; exact (hg _ hm).2 rfl
              have hpw : ∀ i, i ∈ p :: g.toList → w.heap.size ≤ i := by
                intro i hm
                rcases List.mem_cons.1 hm with rfl | hm
                · exact hp'
                · simp at hm; exact (hg _ hm).1
              have HSS : Hid (∀ V, Only (p :: g.toList) X V → V.cell? ⟨q, 0, none⟩ = some (.int .i64 e) ∧ V.cell? ⟨q, 1, none⟩ = some (.int .i64 h) ∧ V.cell? ⟨q, 2, none⟩ = some (.bool s) ∧ V.cell? ⟨q, 3, none⟩ = some (.int .i64 f) ∧ V.cell? ⟨w6.heap.size, 0, none⟩ = some (.int .i64 ey) ∧ V.cell? ⟨w6.heap.size, 1, none⟩ = some (.int .i64 hy) ∧ V.cell? ⟨w6.heap.size, 2, none⟩ = some (.bool sy) ∧ V.cell? ⟨w6.heap.size, 3, none⟩ = some (.int .i64 fy) ∧ V.cell? ⟨qt, 0, none⟩ = some (.int .i64 ez) ∧ V.cell? ⟨qt, 1, none⟩ = some (.int .i64 hz) ∧ V.cell? ⟨qt, 2, none⟩ = some (.bool sz) ∧ V.cell? ⟨qt, 3, none⟩ = some (.int .i64 fz)) := by
                intro V k
                have n1 : q ∉ p :: g.toList := by
                  intro hm
                  rcases List.mem_cons.1 hm with hm | hm
                  · omega
                  · simp at hm; exact (hg _ hm).2 rfl
                have n2 : w6.heap.size ∉ p :: g.toList := by
                  intro hm
                  rcases List.mem_cons.1 hm with hm | hm
                  · omega
                  · simp at hm; have := hgr _ hm; omega
                have n3 : qt ∉ p :: g.toList := by
                  intro hm
                  rcases List.mem_cons.1 hm with hm | hm
                  · omega
                  · simp at hm; have := hgr _ hm; omega
                obtain ⟨a0, a1, a2, a3⟩ := p4_of (k.heap HQX.out n1)
                obtain ⟨b0, b1, b2, b3⟩ := p4_of (k.heap HO10.out n2)
                obtain ⟨c0, c1, c2, c3⟩ := p4_of (k.heap HT10.out n3)
                exact ⟨a0, a1, a2, a3, b0, b1, b2, b3, c0, c1, c2, c3⟩
              have KD : Only (p :: g.toList) X X.drew := (Only.refl _ _).drew
              have HAD := Lib.hid (((Kept.refl X).dr ⟨1, rfl⟩).arb HAX.out)
              by_cases hyx : ⟨e, h, s, f⟩ = (AS.mk ey hy sy fy)
              · injection hyx with y1 y2 y3 y4
                subst y1 y2 y3 y4
                have q0 : asEq e h s f e h s f = true := asEq_of (rfl : AS.mk e h s f = _)
                go_region_held3 (fun w' => w'.cell? ⟨q, 0, none⟩ = some (.int .i64 e) ∧ w'.cell? ⟨q, 1, none⟩ = some (.int .i64 h) ∧ w'.cell? ⟨q, 2, none⟩ = some (.bool s) ∧ w'.cell? ⟨q, 3, none⟩ = some (.int .i64 f) ∧ w'.cell? ⟨w6.heap.size, 0, none⟩ = some (.int .i64 e) ∧ w'.cell? ⟨w6.heap.size, 1, none⟩ = some (.int .i64 h) ∧ w'.cell? ⟨w6.heap.size, 2, none⟩ = some (.bool s) ∧ w'.cell? ⟨w6.heap.size, 3, none⟩ = some (.int .i64 f) ∧ w'.cell? ⟨qt, 0, none⟩ = some (.int .i64 ez) ∧ w'.cell? ⟨qt, 1, none⟩ = some (.int .i64 hz) ∧ w'.cell? ⟨qt, 2, none⟩ = some (.bool sz) ∧ w'.cell? ⟨qt, 3, none⟩ = some (.int .i64 fz)) (first | exact HSS.out _ KD) (first | (go_at_call 12; refine (arb_swap_yes p g l ⟨e, h, s, f⟩ ⟨ez, hz, sz, fz⟩ _ HAD.out (by omega)).mono ?_; rintro E V ⟨rfl, g', hA1, hO1, hG1⟩; replace KD := KD.trans hO1; have HA1 := Lib.hid hA1; clear hA1 hO1))
                have CF := HSS.out V KD
                obtain ⟨a0, a1, a2, a3, b0, b1, b2, b3, c0, c1, c2, c3⟩ := CF
                have hQV := KD.heap HQX.out nq
                have g0 := one_free hQV 0
                have g1 := one_free hQV 1
                have g2 := one_free hQV 2
                have g3 := one_free hQV 3
                have hpV : p < V.heap.size := by have := KD.size; omega
                have hXV := KD.size
                have hg'q : ∀ r, g' = some r → w.heap.size ≤ r ∧ r ≠ q := by
                  intro r hr
                  rcases hG1 with h' | ⟨k', h', hk2⟩
                  · exact hg r (h'.symm.trans hr)
                  · rw [hr] at h'; injection h' with h'
                    simp at hk2
                    have := Kw10.size
                    omega
                have HA4 := Lib.hid ((only_set4 V q (.int .i64 ez) (.int .i64 hz) (.bool sz) (.int .i64 fz)).arb HA1.out (by simp; omega) (by intro r hr; simp; exact (hg'q r hr).2))
                have HQ4 := Lib.hid (four_set hQV (.int .i64 ez) (.int .i64 hz) (.bool sz) (.int .i64 fz))
                have KV4 := kept_set4 (KjX.onl KD hpw) hwq (.int .i64 ez) (.int .i64 hz) (.bool sz) (.int .i64 fz)
                clear hQV
                go_wp2_with fail
                generalize World.setCell (World.setCell (World.setCell (World.setCell V _ _) _ _) _ _) _ _ = V4 at *
                have KD2 : Kept V4 V4.drew := (Kept.refl _).dr ⟨1, rfl⟩
                have q2 : asEq ez hz sz fz ez hz sz fz = true := asEq_of (rfl : AS.mk ez hz sz fz = _)
                have HAE := Lib.hid (KD2.arb HA4.out)
                go_region_held3 (fun w' => w'.cell? ⟨q, 0, none⟩ = some (.int .i64 ez) ∧ w'.cell? ⟨q, 1, none⟩ = some (.int .i64 hz) ∧ w'.cell? ⟨q, 2, none⟩ = some (.bool sz) ∧ w'.cell? ⟨q, 3, none⟩ = some (.int .i64 fz)) (first | exact KD2.p4 (p4_of HQ4.out)) (first | (go_at_call 10; refine (arb_get p g' (l ++ [⟨e, h, s, f⟩]) ⟨ez, hz, sz, fz⟩ _ (by simpa using HAE.out)).mono ?_; rintro E V5 ⟨rfl, k5⟩; dsimp only [AS.v]; replace KD2 := KD2.trans k5; clear k5))
                go_wp2
                go_roundw
                case rel => exact ⟨j + 1, l ++ [⟨e, h, s, f⟩], ez, hz, sz, fz, g', by go_num, by omega, by (unfold Hid; simpa using KD2.arb HA4.out), KD2.only.heap HQ4.out (by simp), KV4.trans KD2, by simp; omega, hg'q, mono_snoc HM.out (HR10.out (by trivial))⟩
                case measure => simp [intOf]; omega
              · have q1 : asEq ey hy sy fy e h s f = false := asEq_not (x := ⟨ey, hy, sy, fy⟩) (y := ⟨e, h, s, f⟩) (fun hh => hyx hh.symm)
                go_region_held3 (fun w' => w'.cell? ⟨q, 0, none⟩ = some (.int .i64 e) ∧ w'.cell? ⟨q, 1, none⟩ = some (.int .i64 h) ∧ w'.cell? ⟨q, 2, none⟩ = some (.bool s) ∧ w'.cell? ⟨q, 3, none⟩ = some (.int .i64 f) ∧ w'.cell? ⟨w6.heap.size, 0, none⟩ = some (.int .i64 ey) ∧ w'.cell? ⟨w6.heap.size, 1, none⟩ = some (.int .i64 hy) ∧ w'.cell? ⟨w6.heap.size, 2, none⟩ = some (.bool sy) ∧ w'.cell? ⟨w6.heap.size, 3, none⟩ = some (.int .i64 fy) ∧ w'.cell? ⟨qt, 0, none⟩ = some (.int .i64 ez) ∧ w'.cell? ⟨qt, 1, none⟩ = some (.int .i64 hz) ∧ w'.cell? ⟨qt, 2, none⟩ = some (.bool sz) ∧ w'.cell? ⟨qt, 3, none⟩ = some (.int .i64 fz)) (first | exact HSS.out _ KD) (first | (go_at_call 12; refine (arb_swap_no p g l ⟨e, h, s, f⟩ ⟨ey, hy, sy, fy⟩ ⟨ez, hz, sz, fz⟩ _ HAD.out hyx).mono ?_; rintro E V ⟨rfl, k2⟩; replace KD := KD.then k2.only (by simp); have HA1 := Lib.hid (k2.arb HAD.out); clear k2))
                have CF := HSS.out V KD
                obtain ⟨a0, a1, a2, a3, b0, b1, b2, b3, c0, c1, c2, c3⟩ := CF
                have HQV := Lib.hid (KD.heap HQX.out nq)
                have KV4 := KjX.onl KD hpw
                go_wp2_with fail
                have KD2 : Kept V V.drew := (Kept.refl _).dr ⟨1, rfl⟩
                have q2 : asEq e h s f e h s f = true := asEq_of (rfl : AS.mk e h s f = _)
                have HAE := Lib.hid (KD2.arb HA1.out)
                clear a0 a1 a2 a3 b0 b1 b2 b3 c0 c1 c2 c3
                go_region_held3 (fun w' => w'.cell? ⟨q, 0, none⟩ = some (.int .i64 e) ∧ w'.cell? ⟨q, 1, none⟩ = some (.int .i64 h) ∧ w'.cell? ⟨q, 2, none⟩ = some (.bool s) ∧ w'.cell? ⟨q, 3, none⟩ = some (.int .i64 f)) (first | exact KD2.p4 (p4_of HQV.out)) (first | (go_at_call 10; refine (arb_get p g l ⟨e, h, s, f⟩ _ HAE.out).mono ?_; rintro E V5 ⟨rfl, k5⟩; dsimp only [AS.v]; replace KD2 := KD2.trans k5; clear k5))
                go_wp2
                go_roundw
                case rel => exact ⟨j + 1, l, e, h, s, f, g, by go_num, by omega, KD2.arb HA1.out, KD2.only.heap HQV.out (by simp), KV4.trans KD2, by omega, hg, HM.out⟩
                case measure => simp [intOf]; omega
    · have hge : (n : Int) ≤ j := by omega
      go_wp2_with fail
      refine (arb_log p g (l ++ [⟨e, h, s, f⟩]) _ HA.out (by simp) (by simp; omega)).mono ?_
      rintro E w5 ⟨a5, c5, rfl, hS5, K5⟩
      rw [show (l ++ [(⟨e, h, s, f⟩ : AS)]).length = l.length + 1 by simp] at hS5 ⊢
      obtain ⟨_, hnc5, hcm5, hS5⟩ := hS5
      obtain ⟨b, o, rfl, hbl5, hcell⟩ := hS5 (by omega)
      have HC := Lib.hid hcell
      have KV := Kj.trans K5
      unfold maxLen at hcm5
      clear hS5 hcell HA HQ
      generalize hL : l ++ [⟨e, h, s, f⟩] = L at *
      have hLl : L.length = l.length + 1 := by rw [← hL]; simp
      clear hL
      generalize l.length = m at *
      go_wp2_with fail
      go_loopw [12] (fun i wr2 => ∃ t : Nat, t ≤ m ∧ i = .int .i64 ((t : Int) + 1) ∧ Kept w5 wr2) (fun i _ => m + 1 - (intOf i).toNat)
      case atStart => exact ⟨0, by omega, rfl, Kept.refl _⟩
      case round =>
        obtain ⟨t, ht, rfl, Kt⟩ := hrel
        by_cases hlt2 : t < m
        · have i1 : (t : Int) < m := by omega
          obtain ⟨⟨ea, ha, sa, fa⟩, hx1⟩ : ∃ y, L[t]? = some y := ⟨_, List.getElem?_eq_getElem (by omega)⟩
          obtain ⟨⟨eb, hb, sb, fb⟩, hx2⟩ : ∃ y, L[t + 1]? = some y := ⟨_, List.getElem?_eq_getElem (by omega)⟩
          have hr := HM.out _ _ _ hx1 hx2
          obtain ⟨r1, r2, r3⟩ := hr
          dsimp only at r1 r2 r3
          obtain ⟨e0, e1, e2, e3⟩ := asV_at _ t _ hx1
          have a0 := Kt.cel (HC.out _ _ e0)
          have a1 := Kt.cel (HC.out _ _ e1)
          have a3 := Kt.cel (HC.out _ _ e3)
          obtain ⟨e0, e1, e2, e3⟩ := asV_at _ (t + 1) _ hx2
          have b0 := Kt.cel (HC.out _ _ e0)
          have b1 := Kt.cel (HC.out _ _ e1)
          have b3 := Kt.cel (HC.out _ _ e3)
          rw [← Nat.add_assoc] at a1 a3 b1 b3
          have hi : (t : Int) + 1 - 1 = t := by omega
          have hd1 : decide (eb < ea) = false := by simp; omega
          have hd2 : decide (fb < fa) = false := by simp; omega
          clear e0 e1 e2 e3 hx1 hx2
          by_cases heq : eb = ea
          · have he : (eb == ea) = true := by simp [heq]
            have hh : (hb != ha) = false := by simp [(r3 heq.symm).symm]
            clear heq r1 r2 r3
            go_wp2_with fail
            go_quiet (fail)
            go_wp2
            go_roundw
            case rel => exact ⟨t + 1, by omega, by go_num, Kt.dr ((Dr.refl _).drewN _)⟩
            case measure => simp [intOf]; omega
          · have he : (eb == ea) = false := by simp [heq]
            clear heq r1 r2 r3
            go_wp2_with fail
            go_quiet (fail)
            go_wp2
            go_roundw
            case rel => exact ⟨t + 1, by omega, by go_num, Kt.dr ((Dr.refl _).drewN _)⟩
            case measure => simp [intOf]; omega
        · have i1 : (m : Int) ≤ t := by omega
          go_wp2
          go_ret
          exact ⟨rfl, KV.trans Kt⟩
set_option maxRecDepth 100000 in
set_option maxHeartbeats 1000000 in
theorem arbPlays_law (v0 : Value) (x0 : List TyAct.den) (w : World) (w0 : RepV w (.sl TyAct) v0 x0) :
    Calls Try.prog 7 #[v0] w fun e w' => e = .returned (.bool true) ∧ Below w.heap.size w w' := by
  obtain ⟨a, n, c, rfl, hs0⟩ := repV_sl w0
  have hl := slT_acts hs0
  by_cases h1 : 40 < (n : Int)
  · clear w0 hs0 hl
    go_enter Try.func7, Try.ntmps7
    go_wp2_with (go_at_call 8; refine (awake9 _).mono ?_; rintro e w1 ⟨rfl, K1⟩)
    go_ret
    exact ⟨rfl, K1⟩
  · exact arbPlays_walk a n c w hl (by omega)
end Go.Proofs.Ytciolohapanpfac
