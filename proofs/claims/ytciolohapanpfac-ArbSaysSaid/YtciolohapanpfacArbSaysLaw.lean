/- ArbSays: any state: it is as the document says. -/
import Derived.Test.YtciolohapanpfacArbAwake
import Derived.Test.YtciolohapanpfacArbRef2
import Derived.Test.YtciolohapanpfacArbTy
import Derived.Deep.RegionHeld3
set_option linter.unusedVariables false
set_option linter.unusedSimpArgs false
namespace Go.Proofs.Ytciolohapanpfac
open Go.RowKit
theorem own_eq4 (e h : Int) (s : Bool) (f : Int) (w : World) : Calls Try.prog 15 #[.agg #[.int .i64 e, .int .i64 h, .bool s, .int .i64 f]] w fun E w' => E = .returned (.agg #[.int .i64 e, .int .i64 h, .bool s, .int .i64 f]) ∧ Kept w w' := own_eq ⟨e, h, s, f⟩ w
set_option maxRecDepth 100000 in
set_option maxHeartbeats 4000000 in
theorem arbSays_walk (x : AS) (who ep fl : Int) (w : World) :
    Calls Try.prog 4 #[x.v, .int .i64 who, .int .i64 ep, .int .i64 fl] w fun e w' => e = .returned (.bool true) ∧ Kept w w' := by
  have L1 := Lib.hid (fun W => arb_lead x who W)
  have L2 := Lib.hid (fun W => ref_lead x who W)
  have A1 := Lib.hid (fun W => arb_alone x who ep fl W)
  have A2 := Lib.hid (fun W => ref_alone x who ep fl W)
  have B1 := Lib.hid (fun W => arb_both x who ep fl W)
  have B2 := Lib.hid (fun W => ref_both x who ep fl W)
  have O := Lib.hid (fun W => own_eq x W)
  generalize leadF x who = r1 at *
  generalize turnF x who ep fl true = r2 at *
  generalize turnF x who ep fl false = r3 at *
  obtain ⟨x1, ok1⟩ := r1
  obtain ⟨x2, ok2⟩ := r2
  obtain ⟨x3, ok3⟩ := r3
  have t1 : (ok1 == ok1) = true := by simp
  have t2 : (ok2 == ok2) = true := by simp
  have t3 : (ok3 == ok3) = true := by simp
  have u1 := asEq_of (rfl : x1 = x1)
  have u2 := asEq_of (rfl : x2 = x2)
  have u3 := asEq_of (rfl : x3 = x3)
  obtain ⟨e1, h1, s1, f1⟩ := x1
  obtain ⟨e2, h2, s2, f2⟩ := x2
  obtain ⟨e3, h3, s3, f3⟩ := x3
  obtain ⟨e0, h0, s0, f0⟩ := x
  dsimp only [AS.v, pairV] at *
  have HE := run_eqR
  go_enter Try.func4, Try.ntmps4
  go_wp2_with fail
  have HB := c4_hid w 26 e0 h0 s0 f0
  have K0 := kept_new w (.cells #[.int .i64 e0, .int .i64 h0, .bool s0, .int .i64 f0] 26)
  have hz : w.heap.size < (w.alloc (.cells #[.int .i64 e0, .int .i64 h0, .bool s0, .int .i64 f0] 26)).heap.size := by simp
  refine (awake9 _).mono ?_
  rintro e w1 ⟨rfl, K1⟩
  generalize World.alloc w _ = W at *
  obtain ⟨c0, c1, c2, c3⟩ := HB.out _ K1
  have z1 := Nat.lt_of_lt_of_le hz K1.size
  go_wp2_with fail
  refine (L1.out _).mono ?_
  rintro e w2 ⟨rfl, J⟩
  have K2 := K1.trans J
  clear J c0 c1 c2 c3
  obtain ⟨c0, c1, c2, c3⟩ := HB.out _ K2
  have z2 := Nat.lt_of_lt_of_le hz K2.size
  go_wp2_with fail
  have C1 := c4_new w2 26 e1 h1 s1 f1
  have K2a := K2.trans (kept_new w2 (.cells #[.int .i64 e1, .int .i64 h1, .bool s1, .int .i64 f1] 26))
  refine (O.out _).mono ?_
  rintro e w3 ⟨rfl, J⟩
  have K3 := K2a.trans J
  replace C1 := J.c4 C1
  clear J c0 c1 c2 c3
  obtain ⟨c0, c1, c2, c3⟩ := HB.out _ K3
  have z3 := Nat.lt_of_lt_of_le hz K3.size
  go_wp2_with fail
  refine (L2.out _).mono ?_
  rintro e w4 ⟨rfl, J⟩
  have K4 := K3.trans J
  replace C1 := J.c4 C1
  clear J c0 c1 c2 c3
  obtain ⟨c0, c1, c2, c3⟩ := HB.out _ K4
  have z4 := Nat.lt_of_lt_of_le hz K4.size
  go_wp2_with fail
  have C2 := c4_new w4 34 e1 h1 s1 f1
  replace C1 := (kept_new w4 (.cells #[.int .i64 e1, .int .i64 h1, .bool s1, .int .i64 f1] 34)).c4 C1
  have K4a := K4.trans (kept_new w4 (.cells #[.int .i64 e1, .int .i64 h1, .bool s1, .int .i64 f1] 34))
  refine (A1.out _).mono ?_
  rintro e w5 ⟨rfl, J⟩
  have K5 := K4a.trans J
  replace C1 := J.c4 C1
  replace C2 := J.c4 C2
  clear J c0 c1 c2 c3
  obtain ⟨c0, c1, c2, c3⟩ := HB.out _ K5
  have z5 := Nat.lt_of_lt_of_le hz K5.size
  go_wp2_with fail
  have C3 := c4_new w5 26 e2 h2 s2 f2
  replace C1 := (kept_new w5 (.cells #[.int .i64 e2, .int .i64 h2, .bool s2, .int .i64 f2] 26)).c4 C1
  replace C2 := (kept_new w5 (.cells #[.int .i64 e2, .int .i64 h2, .bool s2, .int .i64 f2] 26)).c4 C2
  have K5a := K5.trans (kept_new w5 (.cells #[.int .i64 e2, .int .i64 h2, .bool s2, .int .i64 f2] 26))
  refine (O.out _).mono ?_
  rintro e w6 ⟨rfl, J⟩
  have K6 := K5a.trans J
  replace C1 := J.c4 C1
  replace C2 := J.c4 C2
  replace C3 := J.c4 C3
  clear J c0 c1 c2 c3
  obtain ⟨c0, c1, c2, c3⟩ := HB.out _ K6
  have z6 := Nat.lt_of_lt_of_le hz K6.size
  go_wp2_with fail
  refine (A2.out _).mono ?_
  rintro e w7 ⟨rfl, J⟩
  have K7 := K6.trans J
  replace C1 := J.c4 C1
  replace C2 := J.c4 C2
  replace C3 := J.c4 C3
  clear J c0 c1 c2 c3
  obtain ⟨c0, c1, c2, c3⟩ := HB.out _ K7
  have z7 := Nat.lt_of_lt_of_le hz K7.size
  go_wp2_with fail
  have C4 := c4_new w7 34 e2 h2 s2 f2
  replace C1 := (kept_new w7 (.cells #[.int .i64 e2, .int .i64 h2, .bool s2, .int .i64 f2] 34)).c4 C1
  replace C2 := (kept_new w7 (.cells #[.int .i64 e2, .int .i64 h2, .bool s2, .int .i64 f2] 34)).c4 C2
  replace C3 := (kept_new w7 (.cells #[.int .i64 e2, .int .i64 h2, .bool s2, .int .i64 f2] 34)).c4 C3
  have K7a := K7.trans (kept_new w7 (.cells #[.int .i64 e2, .int .i64 h2, .bool s2, .int .i64 f2] 34))
  refine (B1.out _).mono ?_
  rintro e w8 ⟨rfl, J⟩
  have K8 := K7a.trans J
  replace C1 := J.c4 C1
  replace C2 := J.c4 C2
  replace C3 := J.c4 C3
  replace C4 := J.c4 C4
  clear J c0 c1 c2 c3
  obtain ⟨c0, c1, c2, c3⟩ := HB.out _ K8
  have z8 := Nat.lt_of_lt_of_le hz K8.size
  go_wp2_with fail
  have C5 := c4_new w8 26 e3 h3 s3 f3
  replace C1 := (kept_new w8 (.cells #[.int .i64 e3, .int .i64 h3, .bool s3, .int .i64 f3] 26)).c4 C1
  replace C2 := (kept_new w8 (.cells #[.int .i64 e3, .int .i64 h3, .bool s3, .int .i64 f3] 26)).c4 C2
  replace C3 := (kept_new w8 (.cells #[.int .i64 e3, .int .i64 h3, .bool s3, .int .i64 f3] 26)).c4 C3
  replace C4 := (kept_new w8 (.cells #[.int .i64 e3, .int .i64 h3, .bool s3, .int .i64 f3] 26)).c4 C4
  have K8a := K8.trans (kept_new w8 (.cells #[.int .i64 e3, .int .i64 h3, .bool s3, .int .i64 f3] 26))
  refine (O.out _).mono ?_
  rintro e w9 ⟨rfl, J⟩
  have K9 := K8a.trans J
  replace C1 := J.c4 C1
  replace C2 := J.c4 C2
  replace C3 := J.c4 C3
  replace C4 := J.c4 C4
  replace C5 := J.c4 C5
  clear J c0 c1 c2 c3
  obtain ⟨c0, c1, c2, c3⟩ := HB.out _ K9
  have z9 := Nat.lt_of_lt_of_le hz K9.size
  go_wp2_with fail
  refine (B2.out _).mono ?_
  rintro e w10 ⟨rfl, J⟩
  have K10 := K9.trans J
  replace C1 := J.c4 C1
  replace C2 := J.c4 C2
  replace C3 := J.c4 C3
  replace C4 := J.c4 C4
  replace C5 := J.c4 C5
  clear J c0 c1 c2 c3
  obtain ⟨c0, c1, c2, c3⟩ := HB.out _ K10
  have z10 := Nat.lt_of_lt_of_le hz K10.size
  go_wp2_with fail
  have C6 := c4_new w10 34 e3 h3 s3 f3
  replace C1 := (kept_new w10 (.cells #[.int .i64 e3, .int .i64 h3, .bool s3, .int .i64 f3] 34)).c4 C1
  replace C2 := (kept_new w10 (.cells #[.int .i64 e3, .int .i64 h3, .bool s3, .int .i64 f3] 34)).c4 C2
  replace C3 := (kept_new w10 (.cells #[.int .i64 e3, .int .i64 h3, .bool s3, .int .i64 f3] 34)).c4 C3
  replace C4 := (kept_new w10 (.cells #[.int .i64 e3, .int .i64 h3, .bool s3, .int .i64 f3] 34)).c4 C4
  replace C5 := (kept_new w10 (.cells #[.int .i64 e3, .int .i64 h3, .bool s3, .int .i64 f3] 34)).c4 C5
  have K10a := K10.trans (kept_new w10 (.cells #[.int .i64 e3, .int .i64 h3, .bool s3, .int .i64 f3] 34))
  clear c0 c1 c2 c3 z1 z2 z3 z4 z5 z6 z7 z8 z9 z10
  have KW := K0.trans K10a
  clear HB hz K0 K1 K2 K2a K3 K4 K4a K5 K5a K6 K7 K7a K8 K8a K9 K10 K10a L1 L2 A1 A2 B1 B2 O
  generalize World.alloc w10 _ = X at *
  have HS : Hid (∀ V, Kept X V → V.cell? ⟨w2.heap.size, 0, none⟩ = some (.int .i64 e1) ∧ V.cell? ⟨w2.heap.size, 1, none⟩ = some (.int .i64 h1) ∧ V.cell? ⟨w2.heap.size, 2, none⟩ = some (.bool s1) ∧ V.cell? ⟨w2.heap.size, 3, none⟩ = some (.int .i64 f1) ∧ V.cell? ⟨w4.heap.size, 0, none⟩ = some (.int .i64 e1) ∧ V.cell? ⟨w4.heap.size, 1, none⟩ = some (.int .i64 h1) ∧ V.cell? ⟨w4.heap.size, 2, none⟩ = some (.bool s1) ∧ V.cell? ⟨w4.heap.size, 3, none⟩ = some (.int .i64 f1) ∧ V.cell? ⟨w5.heap.size, 0, none⟩ = some (.int .i64 e2) ∧ V.cell? ⟨w5.heap.size, 1, none⟩ = some (.int .i64 h2) ∧ V.cell? ⟨w5.heap.size, 2, none⟩ = some (.bool s2) ∧ V.cell? ⟨w5.heap.size, 3, none⟩ = some (.int .i64 f2) ∧ V.cell? ⟨w7.heap.size, 0, none⟩ = some (.int .i64 e2) ∧ V.cell? ⟨w7.heap.size, 1, none⟩ = some (.int .i64 h2) ∧ V.cell? ⟨w7.heap.size, 2, none⟩ = some (.bool s2) ∧ V.cell? ⟨w7.heap.size, 3, none⟩ = some (.int .i64 f2) ∧ V.cell? ⟨w8.heap.size, 0, none⟩ = some (.int .i64 e3) ∧ V.cell? ⟨w8.heap.size, 1, none⟩ = some (.int .i64 h3) ∧ V.cell? ⟨w8.heap.size, 2, none⟩ = some (.bool s3) ∧ V.cell? ⟨w8.heap.size, 3, none⟩ = some (.int .i64 f3) ∧ V.cell? ⟨w10.heap.size, 0, none⟩ = some (.int .i64 e3) ∧ V.cell? ⟨w10.heap.size, 1, none⟩ = some (.int .i64 h3) ∧ V.cell? ⟨w10.heap.size, 2, none⟩ = some (.bool s3) ∧ V.cell? ⟨w10.heap.size, 3, none⟩ = some (.int .i64 f3)) := fun V k => ⟨(k.c4 C1).1, (k.c4 C1).2.1, (k.c4 C1).2.2.1, (k.c4 C1).2.2.2, (k.c4 C2).1, (k.c4 C2).2.1, (k.c4 C2).2.2.1, (k.c4 C2).2.2.2, (k.c4 C3).1, (k.c4 C3).2.1, (k.c4 C3).2.2.1, (k.c4 C3).2.2.2, (k.c4 C4).1, (k.c4 C4).2.1, (k.c4 C4).2.2.1, (k.c4 C4).2.2.2, (k.c4 C5).1, (k.c4 C5).2.1, (k.c4 C5).2.2.1, (k.c4 C5).2.2.2, (k.c4 C6).1, (k.c4 C6).2.1, (k.c4 C6).2.2.1, (k.c4 C6).2.2.2⟩
  have KD : Kept X X.drew := by (unfold Kept; repeat (first | exact Below.refl _ _ | assumption | (refine Below.alloc ?_ (by simp) _) | (refine Below.setCell ?_ (by simp) _) | (refine Below.drew ?_) | (refine below_drewN ?_ _)))
  clear C1 C2 C3 C4 C5 C6
  go_region_held3 (fun w' => w'.cell? ⟨w2.heap.size, 0, none⟩ = some (.int .i64 e1) ∧ w'.cell? ⟨w2.heap.size, 1, none⟩ = some (.int .i64 h1) ∧ w'.cell? ⟨w2.heap.size, 2, none⟩ = some (.bool s1) ∧ w'.cell? ⟨w2.heap.size, 3, none⟩ = some (.int .i64 f1) ∧ w'.cell? ⟨w4.heap.size, 0, none⟩ = some (.int .i64 e1) ∧ w'.cell? ⟨w4.heap.size, 1, none⟩ = some (.int .i64 h1) ∧ w'.cell? ⟨w4.heap.size, 2, none⟩ = some (.bool s1) ∧ w'.cell? ⟨w4.heap.size, 3, none⟩ = some (.int .i64 f1) ∧ w'.cell? ⟨w5.heap.size, 0, none⟩ = some (.int .i64 e2) ∧ w'.cell? ⟨w5.heap.size, 1, none⟩ = some (.int .i64 h2) ∧ w'.cell? ⟨w5.heap.size, 2, none⟩ = some (.bool s2) ∧ w'.cell? ⟨w5.heap.size, 3, none⟩ = some (.int .i64 f2) ∧ w'.cell? ⟨w7.heap.size, 0, none⟩ = some (.int .i64 e2) ∧ w'.cell? ⟨w7.heap.size, 1, none⟩ = some (.int .i64 h2) ∧ w'.cell? ⟨w7.heap.size, 2, none⟩ = some (.bool s2) ∧ w'.cell? ⟨w7.heap.size, 3, none⟩ = some (.int .i64 f2) ∧ w'.cell? ⟨w8.heap.size, 0, none⟩ = some (.int .i64 e3) ∧ w'.cell? ⟨w8.heap.size, 1, none⟩ = some (.int .i64 h3) ∧ w'.cell? ⟨w8.heap.size, 2, none⟩ = some (.bool s3) ∧ w'.cell? ⟨w8.heap.size, 3, none⟩ = some (.int .i64 f3) ∧ w'.cell? ⟨w10.heap.size, 0, none⟩ = some (.int .i64 e3) ∧ w'.cell? ⟨w10.heap.size, 1, none⟩ = some (.int .i64 h3) ∧ w'.cell? ⟨w10.heap.size, 2, none⟩ = some (.bool s3) ∧ w'.cell? ⟨w10.heap.size, 3, none⟩ = some (.int .i64 f3)) (first | exact HS.out _ KD) (first | (go_at_call 15; refine (own_eq4 _ _ _ _ _).mono ?_; rintro e V ⟨rfl, J⟩; replace KD := KD.trans J; clear J))
  go_wp2
  go_ret
  exact ⟨rfl, KW.trans KD⟩
theorem arbSays_law (v0 v1 v2 v3 : Value) (x0 : TyAS.den) (x1 x2 x3 : Int) (w : World) (w0 : RepV w TyAS v0 x0) (w1 : RepV w (.int .i64) v1 x1) (w2 : RepV w (.int .i64) v2 x2) (w3 : RepV w (.int .i64) v3 x3) :
    Calls Try.prog 4 #[v0, v1, v2, v3] w fun e w' => e = .returned (.bool true) ∧ Below w.heap.size w w' := by
  obtain ⟨y, rfl, _⟩ := repV_as w0
  obtain ⟨rfl, _⟩ := repV_int w1
  obtain ⟨rfl, _⟩ := repV_int w2
  obtain ⟨rfl, _⟩ := repV_int w3
  exact arbSays_walk y x1 x2 x3 w
end Go.Proofs.Ytciolohapanpfac
