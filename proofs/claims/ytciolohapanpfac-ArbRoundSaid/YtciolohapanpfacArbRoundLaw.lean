/- ArbRound: led, alone, both again. -/
import Derived.Test.YtciolohapanpfacArbAwake
import Derived.Test.YtciolohapanpfacArbTy
set_option linter.unusedVariables false
set_option linter.unusedSimpArgs false
namespace Go.Proofs.Ytciolohapanpfac
open Go.RowKit
theorem solo_ok (e f who fl : Int) (hw : who = 0 ∨ who = 1) (hf : f ≤ fl) : turnF ⟨e, who, false, f⟩ who e fl true = (⟨e, who, true, fl⟩, true) := by
  refine if_neg ?_
  rintro (h | h | h | h | h)
  · omega
  · exact h rfl
  · exact h rfl
  · cases h
  · simp at h; omega
theorem solo_no (e f who fl : Int) (hf : fl < f) : turnF ⟨e, who, false, f⟩ who e fl true = (AS.zero, false) := if_pos (.inr (.inr (.inr (.inr hf))))
theorem both_ok (e f who fl : Int) (hw : who = 0 ∨ who = 1) (hf : f ≤ fl) : turnF ⟨e, who, true, f⟩ who e fl false = (⟨e, who, false, fl⟩, true) := by
  refine if_neg ?_
  rintro (h | h | h | h | h)
  · omega
  · exact h rfl
  · exact h rfl
  · cases h
  · simp at h; omega
theorem both_no (e f who fl : Int) (hf : fl < f) : turnF ⟨e, who, true, f⟩ who e fl false = (AS.zero, false) := if_pos (.inr (.inr (.inr (.inr hf))))
theorem lead_solo (e f who : Int) (hw : who = 0 ∨ who = 1) : leadF ⟨e, who, true, f⟩ (1 - who) = (AS.zero, false) := if_pos (.inr (.inl ⟨rfl, by simp; omega⟩))
set_option maxRecDepth 100000 in
set_option maxHeartbeats 4000000 in
theorem arbRound_no (x : AS) (who a b : Int) (w : World) (hr : leadF x who = (AS.zero, false)) :
    Calls Try.prog 5 #[x.v, .int .i64 who, .int .i64 a, .int .i64 b] w fun e w' => e = .returned (.bool true) ∧ Kept w w' := by
  have L := Lib.hid (fun W => arb_lead x who W)
  rw [hr] at L
  clear hr
  obtain ⟨e0, h0, s0, f0⟩ := x
  dsimp only [AS.v, pairV, AS.zero] at *
  have HE := run_eqS
  go_enter Try.func5, Try.ntmps5
  go_wp2_with fail
  have HB := c4_hid w 26 e0 h0 s0 f0
  have K0 := kept_new w (.cells #[.int .i64 e0, .int .i64 h0, .bool s0, .int .i64 f0] 26)
  have hz : w.heap.size < (w.alloc (.cells #[.int .i64 e0, .int .i64 h0, .bool s0, .int .i64 f0] 26)).heap.size := by simp
  refine (awake9 _).mono ?_
  rintro e w1 ⟨rfl, K1⟩
  generalize World.alloc w _ = W at *
  obtain ⟨c0, c1, c2, c3⟩ := HB.out _ K1
  go_wp2_with fail
  refine (L.out _).mono ?_
  rintro e w2 ⟨rfl, J⟩
  have K2 := K1.trans J
  have z2 := Nat.lt_of_lt_of_le hz K2.size
  clear J c0 c1 c2 c3
  have K2a := K0.trans (K2.trans (kept_new w2 (.cells #[.int .i64 0, .int .i64 0, .bool false, .int .i64 0] 26)))
  go_wp2
  go_ret
  exact ⟨rfl, K2a⟩
set_option maxRecDepth 100000 in
set_option maxHeartbeats 4000000 in
theorem arbRound_solo (e0 h0 f0 who a b : Int) (w : World) (hr : leadF ⟨e0, h0, true, f0⟩ who = (⟨e0 + 1, who, true, f0⟩, true)) :
    Calls Try.prog 5 #[(AS.mk e0 h0 true f0).v, .int .i64 who, .int .i64 a, .int .i64 b] w fun e w' => e = .returned (.bool true) ∧ Kept w w' := by
  have L := Lib.hid (fun W => arb_lead ⟨e0, h0, true, f0⟩ who W)
  rw [hr] at L
  clear hr
  dsimp only [AS.v, pairV, AS.zero] at *
  have HE := run_eqS
  go_enter Try.func5, Try.ntmps5
  go_wp2_with fail
  have HB := c4_hid w 26 e0 h0 true f0
  have K0 := kept_new w (.cells #[.int .i64 e0, .int .i64 h0, .bool true, .int .i64 f0] 26)
  have hz : w.heap.size < (w.alloc (.cells #[.int .i64 e0, .int .i64 h0, .bool true, .int .i64 f0] 26)).heap.size := by simp
  refine (awake9 _).mono ?_
  rintro e w1 ⟨rfl, K1⟩
  generalize World.alloc w _ = W at *
  obtain ⟨c0, c1, c2, c3⟩ := HB.out _ K1
  go_wp2_with fail
  refine (L.out _).mono ?_
  rintro e w2 ⟨rfl, J⟩
  have K2 := K1.trans J
  have z2 := Nat.lt_of_lt_of_le hz K2.size
  clear J c0 c1 c2 c3
  have K2a := K0.trans (K2.trans (kept_new w2 (.cells #[.int .i64 (e0 + 1), .int .i64 who, .bool true, .int .i64 f0] 26)))
  go_wp2
  go_ret
  exact ⟨rfl, K2a⟩
set_option maxRecDepth 100000 in
set_option maxHeartbeats 4000000 in
theorem arbRound_go (e0 h0 f0 who a b : Int) (w : World) (hw : who = 0 ∨ who = 1) (he0 : 0 ≤ e0) (he1 : e0 < 1048575) (hr : leadF ⟨e0, h0, false, f0⟩ who = (⟨e0 + 1, who, false, f0⟩, true)) :
    Calls Try.prog 5 #[(AS.mk e0 h0 false f0).v, .int .i64 who, .int .i64 a, .int .i64 b] w fun e w' => e = .returned (.bool true) ∧ Kept w w' := by
  have L := Lib.hid (fun W => arb_lead ⟨e0, h0, false, f0⟩ who W)
  rw [hr] at L
  have HW := Lib.hid hw
  have hw0 : 0 ≤ who ∧ who ≤ 1 := by omega
  obtain ⟨hw0, hw1⟩ := hw0
  clear hr hw
  have q0 : asEq 0 0 false 0 0 0 false 0 = true := by simp [asEq]
  have q1 : asEq (e0 + 1) who false b (e0 + 1) who false b = true := by simp [asEq]
  dsimp only [AS.v, pairV, AS.zero] at *
  have HE := run_eqS
  go_enter Try.func5, Try.ntmps5
  go_wp2_with fail
  have HB := c4_hid w 26 e0 h0 false f0
  have K0 := kept_new w (.cells #[.int .i64 e0, .int .i64 h0, .bool false, .int .i64 f0] 26)
  have hz : w.heap.size < (w.alloc (.cells #[.int .i64 e0, .int .i64 h0, .bool false, .int .i64 f0] 26)).heap.size := by simp
  refine (awake9 _).mono ?_
  rintro e w1 ⟨rfl, K1⟩
  generalize World.alloc w _ = W at *
  obtain ⟨c0, c1, c2, c3⟩ := HB.out _ K1
  go_wp2_with fail
  refine (L.out _).mono ?_
  rintro e w2 ⟨rfl, J⟩
  have K2 := K1.trans J
  have z2 := Nat.lt_of_lt_of_le hz K2.size
  clear J c0 c1 c2 c3
  go_wp2_with fail
  have C9 := c4_new w2 26 (e0 + 1) who false f0
  have K2a := K2.trans (kept_new w2 (.cells #[.int .i64 (e0 + 1), .int .i64 who, .bool false, .int .i64 f0] 26))
  by_cases ha : a < f0
  · refine (arb_alone ⟨e0 + 1, who, false, f0⟩ who (e0 + 1) a _).mono ?_
    rintro e w3 ⟨rfl, J⟩
    rw [solo_no _ _ _ _ ha]
    dsimp only [AS.v, pairV, AS.zero]
    replace C9 := J.c4 C9
    have KE := K0.trans ((K2a.trans J).trans (kept_new w3 (.cells #[.int .i64 0, .int .i64 0, .bool false, .int .i64 0] 26)))
    have z9 : w2.heap.size < w3.heap.size := by have := J.size; simp at this; omega
    obtain ⟨y0, y1, y2, y3⟩ := C9
    have hd : decide (f0 ≤ a) = false := by simp; omega
    clear J
    go_wp2
    go_ret
    exact ⟨rfl, KE⟩
  · have ha' : f0 ≤ a := by omega
    have hda : decide (f0 ≤ a) = true := by simp; omega
    clear ha
    refine (arb_alone ⟨e0 + 1, who, false, f0⟩ who (e0 + 1) a _).mono ?_
    rintro e w3 ⟨rfl, J⟩
    rw [solo_ok _ _ _ _ HW.out ha']
    dsimp only [AS.v, pairV, AS.zero]
    replace C9 := J.c4 C9
    have K3 := K2a.trans J
    have z9 : w2.heap.size < w3.heap.size := by have := J.size; simp at this; omega
    obtain ⟨y0, y1, y2, y3⟩ := C9
    clear J
    go_wp2_with fail
    have C11 := c4_new w3 26 (e0 + 1) who true a
    have K3a := K3.trans (kept_new w3 (.cells #[.int .i64 (e0 + 1), .int .i64 who, .bool true, .int .i64 a] 26))
    clear y0 y1 y2 y3 K3
    by_cases hb : b < a
    · refine (arb_both ⟨e0 + 1, who, true, a⟩ who (e0 + 1) b _).mono ?_
      rintro e w4 ⟨rfl, J⟩
      rw [both_no (e0 + 1) a who b (by omega)]
      dsimp only [AS.v, pairV, AS.zero]
      replace C11 := J.c4 C11
      have K4 := K3a.trans J
      have z4 := Nat.lt_of_lt_of_le hz K4.size
      have z11 : w3.heap.size < w4.heap.size := by have := J.size; simp at this; omega
      clear J
      obtain ⟨y0, y1, y2, y3⟩ := C11
      go_wp2_with fail
      have C13 := c4_new w4 26 0 0 false 0
      have K4a := K4.trans (kept_new w4 (.cells #[.int .i64 0, .int .i64 0, .bool false, .int .i64 0] 26))
      clear y0 y1 y2 y3
      refine (arb_lead ⟨e0 + 1, who, true, a⟩ (1 - who) _).mono ?_
      rintro e w5 ⟨rfl, J⟩
      rw [lead_solo _ _ _ HW.out]
      dsimp only [AS.v, pairV, AS.zero]
      replace C13 := J.c4 C13
      have K5 := K4a.trans J
      have z13 : w4.heap.size < w5.heap.size := by have := J.size; simp at this; omega
      have z5 := Nat.lt_of_lt_of_le hz K5.size
      clear J
      obtain ⟨y0, y1, y2, y3⟩ := C13
      obtain ⟨c0, c1, c2, c3⟩ := HB.out _ K5
      have KE := K0.trans (K5.trans (kept_new w5 (.cells #[.int .i64 0, .int .i64 0, .bool false, .int .i64 0] 26)))
      have t1 : (true == true) = true := rfl
      have t2 : (false == false) = true := rfl
      have hd : decide (a ≤ b) = false := by simp; omega
      clear K0 K2a K3a K4 K4a K5 HB L
      go_wp2
      go_ret
      exact ⟨rfl, KE⟩
    · have hb' : a ≤ b := by omega
      clear hb
      refine (arb_both ⟨e0 + 1, who, true, a⟩ who (e0 + 1) b _).mono ?_
      rintro e w4 ⟨rfl, J⟩
      rw [both_ok (e0 + 1) a who b HW.out (by omega)]
      dsimp only [AS.v, pairV, AS.zero]
      replace C11 := J.c4 C11
      have K4 := K3a.trans J
      have z4 := Nat.lt_of_lt_of_le hz K4.size
      have z11 : w3.heap.size < w4.heap.size := by have := J.size; simp at this; omega
      clear J
      obtain ⟨y0, y1, y2, y3⟩ := C11
      go_wp2_with fail
      have C13 := c4_new w4 26 (e0 + 1) who false b
      have K4a := K4.trans (kept_new w4 (.cells #[.int .i64 (e0 + 1), .int .i64 who, .bool false, .int .i64 b] 26))
      clear y0 y1 y2 y3
      refine (arb_lead ⟨e0 + 1, who, true, a⟩ (1 - who) _).mono ?_
      rintro e w5 ⟨rfl, J⟩
      rw [lead_solo _ _ _ HW.out]
      dsimp only [AS.v, pairV, AS.zero]
      replace C13 := J.c4 C13
      have K5 := K4a.trans J
      have z13 : w4.heap.size < w5.heap.size := by have := J.size; simp at this; omega
      have z5 := Nat.lt_of_lt_of_le hz K5.size
      clear J
      obtain ⟨y0, y1, y2, y3⟩ := C13
      obtain ⟨c0, c1, c2, c3⟩ := HB.out _ K5
      have KE := K0.trans (K5.trans (kept_new w5 (.cells #[.int .i64 0, .int .i64 0, .bool false, .int .i64 0] 26)))
      have t1 : (true == true) = true := rfl
      have t2 : (false == false) = true := rfl
      have hd : decide (a ≤ b) = true := by simp; omega
      clear K0 K2a K3a K4 K4a K5 HB L
      go_wp2
      go_ret
      exact ⟨rfl, KE⟩
theorem arbRound_law (v0 v1 v2 v3 : Value) (x0 : TyAS.den) (x1 x2 x3 : Int) (w : World) (w0 : RepV w TyAS v0 x0) (w1 : RepV w (.int .i64) v1 x1) (w2 : RepV w (.int .i64) v2 x2) (w3 : RepV w (.int .i64) v3 x3) :
    Calls Try.prog 5 #[v0, v1, v2, v3] w fun e w' => e = .returned (.bool true) ∧ Below w.heap.size w w' := by
  obtain ⟨y, rfl, _⟩ := repV_as w0
  obtain ⟨rfl, _⟩ := repV_int w1
  obtain ⟨rfl, _⟩ := repV_int w2
  obtain ⟨rfl, _⟩ := repV_int w3
  rcases lead_cases y x1 with ⟨_, hr⟩ | ⟨_, _, _, hr⟩ | ⟨_, _, _, hr⟩ | ⟨_, _, _, hr⟩ | ⟨h1, _, h3, h4, hr⟩
  · exact arbRound_no y x1 x2 x3 w hr
  · exact arbRound_no y x1 x2 x3 w hr
  · exact arbRound_no y x1 x2 x3 w hr
  · exact arbRound_no y x1 x2 x3 w hr
  · obtain ⟨e, h, s, f⟩ := y
    cases s
    · exact arbRound_go e h f x1 x2 x3 w h1 h3 h4 hr
    · exact arbRound_solo e h f x1 x2 x3 w hr
end Go.Proofs.Ytciolohapanpfac
