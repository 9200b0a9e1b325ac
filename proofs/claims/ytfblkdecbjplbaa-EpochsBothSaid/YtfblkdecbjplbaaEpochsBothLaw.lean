/- EpochsBoth: how far two tables are alike does not hang on which is told first. -/
import Derived.Test.YtfblkdecbjplbaaEpBothMath
import Derived.Test.YtfblkdecbjplbaaEpAwake
import Derived.Test.YtfblkdecbjplbaaTy
set_option linter.unusedVariables false
set_option linter.unusedSimpArgs false
namespace Go.Proofs.Ytfblkdecbjplbaa
open Go.RowKit
abbrev TyTab : Ty := .st (.cons (.sl (.int .u64)) (.cons (.int .i64) .nil))
theorem repV_tab {w : World} {v : Value} {x : TyTab.den} (h : RepV w TyTab v x) : ∃ a n c L E, v = .agg #[.slice a n c, .int .i64 E] ∧ Sl .u64 w a n c L ∧ IsW L := by
  obtain ⟨h1, cs, rfl⟩ := h
  obtain ⟨c1, r1, hcs, _, h2, c2, r2, rfl, _, ⟨rfl, h4⟩, h5⟩ := h1
  obtain ⟨a, n, c, rfl, hs⟩ := rep_sl h2
  obtain ⟨s1, s2⟩ := slT_int hs
  refine ⟨a, n, c, x.1, x.2.1, ?_, s1, isW_of_mem fun z hz => wf_bd_u64 (s2 z hz)⟩
  rw [show r2 = [] from h5] at hcs
  simp only [Value.cells] at hcs
  have : cs = #[.slice a n c, .int .i64 x.2.1] := by
    apply Array.ext'
    simpa using hcs
  rw [this]
set_option maxRecDepth 100000 in
set_option maxHeartbeats 4000000 in
theorem epBoth_walk (a b : Option Addr) (n c m d : Nat) (A B : List Int) (EA EB : Int) (w : World) (hA : Sl .u64 w a n c A) (hB : Sl .u64 w b m d B) (wA : IsW A) (wB : IsW B) (hn : n ≤ 30) (hm : m ≤ 30) :
    Calls Try.prog 4 #[.agg #[.slice a n c, .int .i64 EA], .agg #[.slice b m d, .int .i64 EB]] w fun e w' => e = .returned (.bool true) ∧ Kept w w' := by
  have HA := Lib.hid hA
  have HB := Lib.hid hB
  have WA := Lib.hid wA
  have WB := Lib.hid wB
  have hnI : (n : Int) ≤ 30 := by omega
  have hmI : (m : Int) ≤ 30 := by omega
  have KB : Kept w ((w.alloc (.cells #[.slice a n c, .int .i64 EA] 29)).alloc (.cells #[.slice b m d, .int .i64 EB] 29)) := (((Only.refl [] w).alloc _).alloc _).kept
  have hQ := two_new3 w (.cells #[.slice a n c, .int .i64 EA] 29) (.cells #[.slice b m d, .int .i64 EB] 29)
  have hP := (((Only.refl [] (w.alloc (.cells #[.slice a n c, .int .i64 EA] 29))).alloc (.cells #[.slice b m d, .int .i64 EB] 29)).kept).only.heap (heap_alloc_new w (.cells #[.slice a n c, .int .i64 EA] 29)) (by simp)
  have HC : Hid (∀ V, Kept ((w.alloc (.cells #[.slice a n c, .int .i64 EA] 29)).alloc (.cells #[.slice b m d, .int .i64 EB] 29)) V → V.cell? ⟨w.heap.size, 0, none⟩ = some (.slice a n c) ∧ V.cell? ⟨w.heap.size, 1, none⟩ = some (.int .i64 EA) ∧ V.cell? ⟨w.heap.size + 1, 0, none⟩ = some (.slice b m d) ∧ V.cell? ⟨w.heap.size + 1, 1, none⟩ = some (.int .i64 EB)) := fun V k => ⟨k.cel (at_cell hP 0 _ rfl), k.cel (at_cell hP 1 _ rfl), k.cel (at_cell hQ 0 _ rfl), k.cel (at_cell hQ 1 _ rfl)⟩
  clear hA hB wA wB hQ hP hn hm
  go_enter Try.func4, Try.ntmps4
  go_wp2_with fail
  generalize World.alloc (World.alloc w _) _ = W at *
  refine (awake8 _).mono ?_
  rintro e V1 ⟨rfl, K1⟩
  have C1 := HC.out _ K1
  obtain ⟨p0, p1, q0, q1⟩ := C1
  go_wp2_with fail
  clear p0 p1 q0 q1
  refine (ep_meet a b n c m d A B EA EB V1 ((KB.trans K1).sl HA.out) ((KB.trans K1).sl HB.out) WA.out WB.out).mono ?_
  rintro e V2 ⟨rfl, J2⟩
  have K2 := K1.trans J2
  have C2 := HC.out _ K2
  clear J2 K1
  by_cases gA : GoodT A EA
  · by_cases gB : GoodT B EB
    · have dA : Hid (decide (GoodT A EA) = true) := decide_eq_true gA
      have dB : Hid (decide (GoodT B EB) = true) := decide_eq_true gB
      have HS1 := Lib.hid (meet_sym gA gB).symm
      have HS2 := Lib.hid (meet_self gA)
      obtain ⟨m0, m1, m2⟩ := meet_bd gA gB
      generalize meetI A EA B EB = M at *
      clear gA gB
      have t0 : decide (0 ≤ M) = true := decide_eq_true m0
      have t1 : decide (M ≤ EA) = true := decide_eq_true m1
      have t2 : decide (M ≤ EB) = true := decide_eq_true m2
      have t3 : (M == M) = true := by simp
      have t4 : (EA == EA) = true := by simp
      obtain ⟨p0, p1, q0, q1⟩ := C2
      go_wp2_with fail
      clear p0 p1 q0 q1
      refine (ep_good a n c A EA V2 ((KB.trans K2).sl HA.out) WA.out).mono ?_
      rintro e V3 ⟨rfl, J3⟩
      rw [dA.out]
      have K3 := K2.trans J3
      have C3 := HC.out _ K3
      obtain ⟨p0, p1, q0, q1⟩ := C3
      go_wp2_with fail
      clear p0 p1 q0 q1
      refine (ep_good b m d B EB V3 ((KB.trans K3).sl HB.out) WB.out).mono ?_
      rintro e V ⟨rfl, J4⟩
      rw [dB.out]
      have KV := K3.trans J4
      have C4 := HC.out _ KV
      clear J3 J4 K2 K3
      obtain ⟨p0, p1, q0, q1⟩ := C4
      go_wp2_with fail
      clear p0 p1 q0 q1
      have KD : Kept V V.drew := (Kept.refl _).dr ⟨1, rfl⟩
      have tok : Hid True := trivial
      go_region_held3 (fun w' => w'.cell? ⟨w.heap.size, 0, none⟩ = some (.slice a n c) ∧ w'.cell? ⟨w.heap.size, 1, none⟩ = some (.int .i64 EA) ∧ w'.cell? ⟨w.heap.size + 1, 0, none⟩ = some (.slice b m d) ∧ w'.cell? ⟨w.heap.size + 1, 1, none⟩ = some (.int .i64 EB)) (first | exact HC.out _ (KV.trans KD)) (first | (go_at_call 10; replace tok := tok; clear tok; refine (ep_meet b a m d n c B A EB EA _ ((KB.trans (KV.trans KD)).sl HB.out) ((KB.trans (KV.trans KD)).sl HA.out) WB.out WA.out).mono ?_; rintro e V' ⟨rfl, J⟩; rw [HS1.out]; replace KD := KD.trans J; clear J) | (go_at_call 10; refine (ep_meet a a n c n c A A EA EA _ ((KB.trans (KV.trans KD)).sl HA.out) ((KB.trans (KV.trans KD)).sl HA.out) WA.out WA.out).mono ?_; rintro e V' ⟨rfl, J⟩; rw [HS2.out]; replace KD := KD.trans J; clear J))
      go_wp2
      go_ret
      exact ⟨rfl, KB.trans (KV.trans KD)⟩
    · have dA : Hid (decide (GoodT A EA) = true) := decide_eq_true gA
      have dB : Hid (decide (GoodT B EB) = false) := decide_eq_false gB
      have hM : meetI A EA B EB = 0 := if_pos (.inr gB)
      rw [hM]
      clear hM gA gB
      obtain ⟨p0, p1, q0, q1⟩ := C2
      go_wp2_with fail
      clear p0 p1 q0 q1
      refine (ep_good a n c A EA V2 ((KB.trans K2).sl HA.out) WA.out).mono ?_
      rintro e V3 ⟨rfl, J3⟩
      rw [dA.out]
      have K3 := K2.trans J3
      have C3 := HC.out _ K3
      obtain ⟨p0, p1, q0, q1⟩ := C3
      go_wp2_with fail
      clear p0 p1 q0 q1
      refine (ep_good b m d B EB V3 ((KB.trans K3).sl HB.out) WB.out).mono ?_
      rintro e V ⟨rfl, J4⟩
      rw [dB.out]
      go_wp2
      go_ret
      exact ⟨rfl, KB.trans (K3.trans J4)⟩
  · have dA : Hid (decide (GoodT A EA) = false) := decide_eq_false gA
    have hM : meetI A EA B EB = 0 := if_pos (.inl gA)
    rw [hM]
    clear hM gA
    obtain ⟨p0, p1, q0, q1⟩ := C2
    go_wp2_with fail
    clear p0 p1 q0 q1
    refine (ep_good a n c A EA V2 ((KB.trans K2).sl HA.out) WA.out).mono ?_
    rintro e V3 ⟨rfl, J3⟩
    rw [dA.out]
    go_wp2
    go_ret
    exact ⟨rfl, KB.trans (K2.trans J3)⟩
set_option maxRecDepth 100000 in
set_option maxHeartbeats 1000000 in
theorem epochsBoth_law (v0 v1 : Value) (x0 x1 : TyTab.den) (w : World) (w0 : RepV w TyTab v0 x0) (w1 : RepV w TyTab v1 x1) :
    Calls Try.prog 4 #[v0, v1] w fun e w' => e = .returned (.bool true) ∧ Below w.heap.size w w' := by
  obtain ⟨a, n, c, A, EA, rfl, hA, wA⟩ := repV_tab w0
  obtain ⟨b, m, d, B, EB, rfl, hB, wB⟩ := repV_tab w1
  by_cases hn : n ≤ 30
  · by_cases hm : m ≤ 30
    · exact epBoth_walk a b n c m d A B EA EB w hA hB wA wB hn hm
    · have hnI : (n : Int) ≤ 30 := by omega
      have hmI : 30 < (m : Int) := by omega
      have KB : Kept w ((w.alloc (.cells #[.slice a n c, .int .i64 EA] 29)).alloc (.cells #[.slice b m d, .int .i64 EB] 29)) := (((Only.refl [] w).alloc _).alloc _).kept
      have hQ := two_new3 w (.cells #[.slice a n c, .int .i64 EA] 29) (.cells #[.slice b m d, .int .i64 EB] 29)
      have hP := (((Only.refl [] (w.alloc (.cells #[.slice a n c, .int .i64 EA] 29))).alloc (.cells #[.slice b m d, .int .i64 EB] 29)).kept).only.heap (heap_alloc_new w (.cells #[.slice a n c, .int .i64 EA] 29)) (by simp)
      have HP := Lib.hid hP
      have HQ := Lib.hid hQ
      clear w0 w1 hA hB wA wB hn hm hP hQ
      go_enter Try.func4, Try.ntmps4
      go_wp2_with fail
      generalize World.alloc (World.alloc w _) _ = W at *
      refine (awake8 _).mono ?_
      rintro e V1 ⟨rfl, K1⟩
      obtain ⟨p0, p1⟩ := two_cells (K1.only.heap HP.out (by simp))
      obtain ⟨q0, q1⟩ := two_cells (K1.only.heap HQ.out (by simp))
      go_wp2
      go_ret
      exact ⟨rfl, KB.trans K1⟩
  · have hnI : 30 < (n : Int) := by omega
    have KB : Kept w ((w.alloc (.cells #[.slice a n c, .int .i64 EA] 29)).alloc (.cells #[.slice b m d, .int .i64 EB] 29)) := (((Only.refl [] w).alloc _).alloc _).kept
    have hP := (((Only.refl [] (w.alloc (.cells #[.slice a n c, .int .i64 EA] 29))).alloc (.cells #[.slice b m d, .int .i64 EB] 29)).kept).only.heap (heap_alloc_new w (.cells #[.slice a n c, .int .i64 EA] 29)) (by simp)
    have HP := Lib.hid hP
    clear w0 w1 hA hB wA wB hn hP
    go_enter Try.func4, Try.ntmps4
    go_wp2_with fail
    generalize World.alloc (World.alloc w _) _ = W at *
    refine (awake8 _).mono ?_
    rintro e V1 ⟨rfl, K1⟩
    obtain ⟨p0, p1⟩ := two_cells (K1.only.heap HP.out (by simp))
    go_wp2
    go_ret
    exact ⟨rfl, KB.trans K1⟩
end Go.Proofs.Ytfblkdecbjplbaa
