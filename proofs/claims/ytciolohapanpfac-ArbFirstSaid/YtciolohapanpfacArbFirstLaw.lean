/- ArbFirst: of two that would lead, the first one does. -/
import Derived.Test.YtciolohapanpfacArbAwake
import Derived.Test.YtciolohapanpfacArbTy
import Derived.Deep.RegionHeld3
set_option linter.unusedVariables false
set_option linter.unusedSimpArgs false
namespace Go.Proofs.Ytciolohapanpfac
open Go.RowKit
theorem lead_ok (e h f who : Int) (h0 : 0 ≤ e) (h1 : e < 1048575) (hw : who = 0 ∨ who = 1) : leadF ⟨e, h, false, f⟩ who = (⟨e + 1, who, false, f⟩, true) := by
  refine if_neg ?_
  rintro (h | h | h | h)
  · omega
  · exact absurd h.1 (by simp)
  · simp at h; omega
  · simp at h; omega
set_option maxRecDepth 100000 in
set_option maxHeartbeats 4000000 in
theorem arbFirst_walk (first n : Int) (w : World) (hf : first = 0 ∨ first = 1) (hn0 : 0 ≤ n) (hn : n ≤ 20) :
    Calls Try.prog 3 #[.int .i64 first, .int .i64 n] w fun e w' => e = .returned (.bool true) ∧ Kept w w' := by
  have HF := Lib.hid hf
  have HF' : Hid (1 - first = 0 ∨ 1 - first = 1) := by unfold Hid; omega
  have hb : (first != 0) = false ∨ ((first != 0) = true ∧ (first != 1) = false) := by rcases hf with rfl | rfl <;> simp
  have hf0 : 0 ≤ first ∧ first ≤ 1 := by omega
  obtain ⟨hf1, hf2⟩ := hf0
  clear hf
  have HE := run_neqS
  rcases hb with b0 | ⟨b0, b1⟩ <;> (
    go_enter Try.func3, Try.ntmps3
    go_wp2_with fail
    refine (awake9 _).mono ?_
    rintro e w1 ⟨rfl, K1⟩
    go_wp2_with fail
    refine (arb_new _).mono ?_
    rintro e w2 ⟨p, k, rfl, hA, K2, hp, hk⟩
    have HA := Lib.hid hA
    have K := K1.trans K2
    have hp' : w.heap.size ≤ p := Nat.le_trans K1.size hp
    have hk' : w.heap.size ≤ k := Nat.le_trans K1.size hk
    clear hA K1 K2 hp hk
    go_wp2_with fail
    go_loopw [6] (fun i wr => ∃ (j : Nat) (l : List AS) (h f : Int) (g : Option Nat), i = .int .i64 j ∧ (j : Int) ≤ n + 1 ∧ Hid (ArbAt wr p g (l ++ [⟨j, h, false, f⟩])) ∧ Kept w wr ∧ l.length = j ∧ (∀ q, g = some q → w.heap.size ≤ q))
      (fun i _ => (n + 1 - intOf i).toNat)
    case atStart => exact ⟨0, [], -1, 0, some k, rfl, by omega, HA.out, K, rfl, by intro q hq; injection hq with hq; omega⟩
    case round =>
      obtain ⟨j, l, h, f, g, rfl, hj, HA, Kj, hl, hg⟩ := hrel
      by_cases hlt : (j : Int) ≤ n
      · have Q1 := Lib.hid (lead_ok j h f first (by omega) (by omega) HF.out)
        have Q2 := Lib.hid (lead_ok j h f (1 - first) (by omega) (by omega) HF'.out)
        obtain ⟨hpl, hgl, hgp⟩ := HA.out.lt
        go_wp2_with fail
        refine (arb_get p g l ⟨j, h, false, f⟩ _ HA.out).mono ?_
        rintro e w3 ⟨rfl, K3⟩
        dsimp only [AS.v]
        go_wp2_with fail
        have C7 := c4_new w3 26 j h false f
        have K3a := K3.trans (kept_new w3 (.cells #[.int .i64 j, .int .i64 h, .bool false, .int .i64 f] 26))
        have hs7 : wr.heap.size ≤ w3.heap.size := K3.size
        refine (arb_lead ⟨j, h, false, f⟩ first _).mono ?_
        rintro e w4 ⟨rfl, J⟩
        rw [Q1.out]
        dsimp only [AS.v, pairV]
        replace C7 := J.c4 C7
        have K4 := K3a.trans J
        obtain ⟨c0, c1, c2, c3⟩ := C7
        have hs8 : wr.heap.size ≤ w4.heap.size := K4.size
        have hl7 : w3.heap.size < w4.heap.size := by have := J.size; simp at this; omega
        clear J K3 K3a
        go_wp2_with fail
        have C7 : C4 (w4.alloc (.cells #[.int .i64 (j + 1), .int .i64 first, .bool false, .int .i64 f] 26)) w3.heap.size j h false f := (kept_new w4 _).c4 ⟨c0, c1, c2, c3⟩
        have C8 := c4_new w4 26 (j + 1) first false f
        have K4a := K4.trans (kept_new w4 (.cells #[.int .i64 (j + 1), .int .i64 first, .bool false, .int .i64 f] 26))
        refine (arb_lead ⟨j, h, false, f⟩ (1 - first) _).mono ?_
        rintro e w5 ⟨rfl, J⟩
        rw [Q2.out]
        dsimp only [AS.v, pairV]
        replace C7 := J.c4 C7
        replace C8 := J.c4 C8
        have K5 := K4a.trans J
        have hs10 : wr.heap.size ≤ w5.heap.size := K5.size
        have hl8 : w4.heap.size < w5.heap.size := by have := J.size; simp at this; omega
        clear J K4 K4a c0 c1 c2 c3
        go_wp2_with fail
        replace C7 := (kept_new w5 (.cells #[.int .i64 (j + 1), .int .i64 (1 - first), .bool false, .int .i64 f] 26)).c4 C7
        replace C8 := (kept_new w5 (.cells #[.int .i64 (j + 1), .int .i64 (1 - first), .bool false, .int .i64 f] 26)).c4 C8
        have C10 := c4_new w5 26 (j + 1) (1 - first) false f
        have K6 := K5.trans (kept_new w5 (.cells #[.int .i64 (j + 1), .int .i64 (1 - first), .bool false, .int .i64 f] 26))
        have HAX := Lib.hid ((K6.dr ⟨1, rfl⟩).arb HA.out)
        have hX : w5.heap.size < (w5.alloc (.cells #[.int .i64 (j + 1), .int .i64 (1 - first), .bool false, .int .i64 f] 26)).heap.size := by simp
        generalize World.alloc w5 _ = X at *
        have HC : Hid (∀ q e h s, q < X.heap.size → wr.heap.size ≤ q → C4 X q e h s f → ∀ V, Only (p :: g.toList) X V → C4 V q e h s f) := by
          intro q e h s hq hq2 c V k
          have hn : q ∉ p :: g.toList := by
            intro hm
            rcases List.mem_cons.1 hm with rfl | hm
            · omega
            · simp at hm; have := hgl _ hm; omega
          exact ⟨(k.cell (p := ⟨q, 0, none⟩) hq hn).trans c.1, (k.cell (p := ⟨q, 1, none⟩) hq hn).trans c.2.1, (k.cell (p := ⟨q, 2, none⟩) hq hn).trans c.2.2.1, (k.cell (p := ⟨q, 3, none⟩) hq hn).trans c.2.2.2⟩
        have HS : Hid (∀ V, Only (p :: g.toList) X V → V.cell? ⟨w3.heap.size, 0, none⟩ = some (.int .i64 (j : Int)) ∧ V.cell? ⟨w3.heap.size, 1, none⟩ = some (.int .i64 h) ∧ V.cell? ⟨w3.heap.size, 2, none⟩ = some (.bool false) ∧ V.cell? ⟨w3.heap.size, 3, none⟩ = some (.int .i64 f) ∧ V.cell? ⟨w4.heap.size, 0, none⟩ = some (.int .i64 ((j : Int) + 1)) ∧ V.cell? ⟨w4.heap.size, 1, none⟩ = some (.int .i64 first) ∧ V.cell? ⟨w4.heap.size, 2, none⟩ = some (.bool false) ∧ V.cell? ⟨w4.heap.size, 3, none⟩ = some (.int .i64 f) ∧ V.cell? ⟨w5.heap.size, 0, none⟩ = some (.int .i64 ((j : Int) + 1)) ∧ V.cell? ⟨w5.heap.size, 1, none⟩ = some (.int .i64 (1 - first)) ∧ V.cell? ⟨w5.heap.size, 2, none⟩ = some (.bool false) ∧ V.cell? ⟨w5.heap.size, 3, none⟩ = some (.int .i64 f)) := fun V k => by
          obtain ⟨a0, a1, a2, a3⟩ := HC.out _ _ _ _ (by omega) (by omega) C7 V k
          obtain ⟨b0, b1, b2, b3⟩ := HC.out _ _ _ _ (by omega) (by omega) C8 V k
          obtain ⟨d0, d1, d2, d3⟩ := HC.out _ _ _ _ (by omega) (by omega) C10 V k
          exact ⟨a0, a1, a2, a3, b0, b1, b2, b3, d0, d1, d2, d3⟩
        have KD : Only (p :: g.toList) X X.drew := (Only.refl _ _).drew
        have tok : Hid True := trivial
        have HN : Hid (AS.mk (j + 1) first false f ≠ AS.mk j h false f) := by intro e; injection e with e; omega
        have hq : asEq (j + 1) first false f (j + 1) first false f = true := asEq_of (rfl : AS.mk (j + 1) first false f = _)
        clear C7 C8 C10 HC Q1 Q2 HA
        go_region_held3 (fun w' => w'.cell? ⟨w3.heap.size, 0, none⟩ = some (.int .i64 (j : Int)) ∧ w'.cell? ⟨w3.heap.size, 1, none⟩ = some (.int .i64 h) ∧ w'.cell? ⟨w3.heap.size, 2, none⟩ = some (.bool false) ∧ w'.cell? ⟨w3.heap.size, 3, none⟩ = some (.int .i64 f) ∧ w'.cell? ⟨w4.heap.size, 0, none⟩ = some (.int .i64 ((j : Int) + 1)) ∧ w'.cell? ⟨w4.heap.size, 1, none⟩ = some (.int .i64 first) ∧ w'.cell? ⟨w4.heap.size, 2, none⟩ = some (.bool false) ∧ w'.cell? ⟨w4.heap.size, 3, none⟩ = some (.int .i64 f) ∧ w'.cell? ⟨w5.heap.size, 0, none⟩ = some (.int .i64 ((j : Int) + 1)) ∧ w'.cell? ⟨w5.heap.size, 1, none⟩ = some (.int .i64 (1 - first)) ∧ w'.cell? ⟨w5.heap.size, 2, none⟩ = some (.bool false) ∧ w'.cell? ⟨w5.heap.size, 3, none⟩ = some (.int .i64 f)) (first | exact HS.out _ KD) (first | (go_at_call 12; replace tok := tok; clear tok; refine (arb_swap_yes p g l ⟨j, h, false, f⟩ ⟨j + 1, first, false, f⟩ _ HAX.out (by omega)).mono ?_; rintro e V ⟨rfl, g', hA1, hO1, hG1⟩; replace KD := KD.trans hO1; have HA1 := Lib.hid hA1; clear hA1 hO1) | (go_at_call 12; refine (arb_swap_no p g' (l ++ [⟨j, h, false, f⟩]) ⟨j + 1, first, false, f⟩ ⟨j, h, false, f⟩ ⟨j + 1, 1 - first, false, f⟩ _ (by simpa using HA1.out) HN.out).mono ?_; rintro e V2 ⟨rfl, k2⟩; replace KD := KD.then k2.only (by simp); have HA2 := Lib.hid (k2.arb HA1.out); clear k2) | (go_at_call 10; refine (arb_get p g' (l ++ [⟨j, h, false, f⟩]) ⟨j + 1, first, false, f⟩ _ (by simpa using HA2.out)).mono ?_; rintro e V3 ⟨rfl, k3⟩; dsimp only [AS.v]; replace KD := KD.then k3.only (by simp); have HA3 := Lib.hid (k3.arb HA2.out); clear k3))
        have KV := Kj.onl ((K6.only.mono (T := p :: g.toList) (by simp)).then KD (fun i _ hm => hm)) (by
          intro i hm
          rcases List.mem_cons.1 hm with rfl | hm
          · exact hp'
          · simp at hm; exact hg _ hm)
        go_wp2
        go_roundw
        case rel =>
          refine ⟨j + 1, l ++ [⟨j, h, false, f⟩], first, f, g', by go_num, by omega, ?_, KV, by simp [hl], ?_⟩
          · have := HA3.out
            unfold Hid
            simpa using this
          · intro q hq
            rcases hG1 with h' | ⟨k', h', hk2⟩
            · exact hg q (h'.symm.trans hq)
            · have := Kj.size
              have := K6.size
              rw [hq] at h'; injection h' with h'
              simp at hk2
              omega
        case measure => simp [intOf]; omega
      · have hj2 : n + 1 ≤ (j : Int) := by omega
        obtain ⟨L, hL⟩ : ∃ L, L = l ++ [⟨j, h, false, f⟩] := ⟨_, rfl⟩
        have HLn : Hid (L.length = j + 1) := by rw [hL]; simp [Hid, hl]
        have HA' := HA.out
        rw [← hL] at HA'
        have HA2 := Lib.hid HA'
        have HL := Lib.hid hL
        clear HA' hL hl
        go_wp2_with fail
        refine (arb_log p g L _ HA2.out (by rw [HLn.out]; omega) (by rw [HLn.out]; omega)).mono ?_
        rintro e w3 ⟨a', c', rfl, hS, K3⟩
        rw [HLn.out]
        have HA3 := Lib.hid (K3.arb HA2.out)
        clear hS
        go_wp2_with fail
        refine (arb_get p g l ⟨j, h, false, f⟩ _ (by rw [← HL.out]; exact HA3.out)).mono ?_
        rintro e w4 ⟨rfl, K4⟩
        dsimp only [AS.v]
        go_wp2
        go_ret
        exact ⟨ret_bool (by simp; omega), (Kj.trans K3).trans K4⟩)
set_option maxRecDepth 100000 in
set_option maxHeartbeats 1000000 in
theorem arbFirst_law (v0 v1 : Value) (x0 x1 : Int) (w : World) (w0 : RepV w (.int .i64) v0 x0) (w1 : RepV w (.int .i64) v1 x1) :
    Calls Try.prog 3 #[v0, v1] w fun e w' => e = .returned (.bool true) ∧ Below w.heap.size w w' := by
  obtain ⟨rfl, _⟩ := repV_int w0
  obtain ⟨rfl, _⟩ := repV_int w1
  clear w0 w1
  by_cases hf : x0 = 0 ∨ x0 = 1
  · by_cases hn0 : 0 ≤ x1
    · by_cases hn : x1 ≤ 20
      · exact arbFirst_walk x0 x1 w hf hn0 hn
      · have hn' : 20 < x1 := by omega
        have hb : (x0 != 0) = false ∨ ((x0 != 0) = true ∧ (x0 != 1) = false) := by rcases hf with rfl | rfl <;> simp
        clear hf hn
        rcases hb with b0 | ⟨b0, b1⟩ <;> (
          go_enter Try.func3, Try.ntmps3
          go_wp2_with (go_at_call 8; refine (awake9 _).mono ?_; rintro e w1 ⟨rfl, K1⟩)
          go_ret
          exact ⟨rfl, K1⟩)
    · have hn' : x1 < 0 := by omega
      have hb : (x0 != 0) = false ∨ ((x0 != 0) = true ∧ (x0 != 1) = false) := by rcases hf with rfl | rfl <;> simp
      clear hf hn0
      rcases hb with b0 | ⟨b0, b1⟩ <;> (
        go_enter Try.func3, Try.ntmps3
        go_wp2_with (go_at_call 8; refine (awake9 _).mono ?_; rintro e w1 ⟨rfl, K1⟩)
        go_ret
        exact ⟨rfl, K1⟩)
  · have b0 : (x0 != 0) = true := by simp; omega
    have b1 : (x0 != 1) = true := by simp; omega
    clear hf
    go_enter Try.func3, Try.ntmps3
    go_wp2_with (go_at_call 8; refine (awake9 _).mono ?_; rintro e w1 ⟨rfl, K1⟩)
    go_ret
    exact ⟨rfl, K1⟩
end Go.Proofs.Ytciolohapanpfac
