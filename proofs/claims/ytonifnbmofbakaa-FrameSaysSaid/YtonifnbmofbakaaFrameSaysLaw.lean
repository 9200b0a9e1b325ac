/- FrameSays: any record's bytes, any bytes' records, are as the document says. -/
import Derived.Test.YtonifnbmofbakaaFrRefAll
import Derived.Test.YtonifnbmofbakaaFrameTurnedLaw
set_option linter.unusedVariables false
set_option linter.unusedSimpArgs false
namespace Go.Proofs.Ytonifnbmofbakaa
open Go.RowKit
set_option maxRecDepth 100000 in
set_option maxHeartbeats 4000000 in
theorem frSays_walk (a : Option Addr) (n c : Nat) (zs : List Int) (a3 : Option Addr) (n3 c3 : Nat) (ys : List Int) (at' : Int) (w : World) (hS : Sl .u8 w a n c zs) (hB : IsB zs) (hS3 : Sl .u8 w a3 n3 c3 ys) (hB3 : IsB ys) (a0 : 0 ≤ at') (a1 : at' ≤ 18446744073709551615) :
    Calls Try.prog 6 #[.int .u64 at', .slice a n c, .slice a3 n3 c3] w fun e w' => e = .returned (.bool true) ∧ Below w.heap.size w w' := by
  have HS := Lib.hid hS
  have HB := Lib.hid hB
  have HS3 := Lib.hid hS3
  have HB3 := Lib.hid hB3
  have hnl := hS.1
  clear hS hB hS3 hB3
  have hcase : (1100 < (n : Int)) ∨ ((n : Int) ≤ 1100 ∧ 2000 < (n3 : Int)) ∨ ((n : Int) ≤ 1100 ∧ (n3 : Int) ≤ 2000 ∧ 1024 < n) ∨ ((n : Int) ≤ 1100 ∧ (n3 : Int) ≤ 2000 ∧ n ≤ 1024) := by omega
  rcases hcase with h | ⟨h1, h2⟩ | ⟨h1, h2, h3⟩ | ⟨h1, h2, h3⟩
  case inr.inr.inr =>
    go_enter Try.func6, Try.ntmps6
    go_wp2_with fail
    refine (fr_awake _).mono ?_
    rintro e w1 ⟨rfl, K1⟩
    have HP := Lib.hid (fr_put_nil a n c zs at' w1 (K1.sl HS.out) HB.out h3 a0 a1)
    go_wp2_with fail
    refine HP.out.mono ?_
    rintro e w2 ⟨p, d, g, rfl, hA, K2, hg⟩
    clear HP
    have K12 := K1.trans K2
    have HX := Lib.hid (app_sl hA).1
    have q0 := run_str (P := Try.prog) 23 9 5 Try.underlying23 Try.underlying5 Try.underlying9 (K12.sl HS.out)
    have HR := Lib.hid (ref_put_ok at' zs n w2 hnl HB.out h3 a0 a1)
    unfold rrecV at HR
    clear hA hg
    go_wp2_with fail
    refine HR.out.mono ?_
    rintro e w3 ⟨y, d2, rfl, hY, K3⟩
    have q1 := run_str (P := Try.prog) 23 9 5 Try.underlying23 Try.underlying5 Try.underlying9 (K3.sl HX.out)
    have q2 := run_str (P := Try.prog) 23 9 5 Try.underlying23 Try.underlying5 Try.underlying9 hY
    have htv : ((strOf (recB at' zs)).toList != (strOf (recB at' zs)).toList) = false := by simp
    have K13 := K12.trans K3
    clear hY HR q0
    generalize recB at' zs = L0 at *
    have HG := Lib.hid (fr_get a3 n3 c3 ys w3 (K13.sl HS3.out) HB3.out (by omega))
    have HG2 := Lib.hid (fun W (k : Kept w W) => ref_get a3 n3 c3 ys W (k.sl HS3.out) HB3.out (by omega))
    obtain ⟨⟨A8, P8, M8, E8⟩, hR8⟩ : ∃ r, getR ys = r := ⟨_, rfl⟩
    rw [hR8] at HG HG2
    dsimp only at HG HG2
    clear hR8
    generalize hpl : P8.length = pl at *
    go_wp2_with fail
    refine HG.out.mono ?_
    rintro e w4 ⟨a8, c8, rfl, hS8, K4, hf8⟩
    have B1 := two_cells (heap_alloc_new w4 (.cells #[.int .u64 A8, .slice a8 pl c8] 30))
    have KA := kept_al w4 (.cells #[.int .u64 A8, .slice a8 pl c8] 30)
    have HS8 := Lib.hid (KA.sl hS8)
    have HB1 : Hid (∀ V, Kept (w4.alloc (.cells #[.int .u64 A8, .slice a8 pl c8] 30)) V → V.cell? ⟨w4.heap.size, 0, none⟩ = some (.int .u64 A8) ∧ V.cell? ⟨w4.heap.size, 1, none⟩ = some (.slice a8 pl c8)) := fun V k => ⟨k.cel B1.1, k.cel B1.2⟩
    have K14 := (K13.trans K4).trans KA
    clear hS8 hf8 HG B1 q1 q2
    unfold recV
    unfold rrecV at HG2
    go_wp2_with fail
    generalize World.alloc w4 _ = W4 at *
    refine (HG2.out _ K14).mono ?_
    rintro e w5 ⟨rfl, K5⟩
    have htw := str_eq (strOf P8)
    have HSt := Lib.hid (fun V (h : Sl .u8 V a8 pl c8 P8) => run_str (P := Try.prog) 23 9 5 Try.underlying23 Try.underlying5 Try.underlying9 h)
    generalize strOf P8 = s8 at *
    have B2 := two_cells (heap_alloc_new w5 (.cells #[.int .u64 A8, .string s8] 41))
    have KA5 := K5.trans (kept_al w5 (.cells #[.int .u64 A8, .string s8] 41))
    have HB2 : Hid (∀ V, Kept (w5.alloc (.cells #[.int .u64 A8, .string s8] 41)) V → V.cell? ⟨w5.heap.size, 0, none⟩ = some (.int .u64 A8) ∧ V.cell? ⟨w5.heap.size, 1, none⟩ = some (.string s8)) := fun V k => ⟨k.cel B2.1, k.cel B2.2⟩
    have K15 := K14.trans KA5
    clear HG2 B2
    go_wp2_with fail
    generalize World.alloc w5 _ = W5 at *
    refine (fr_all a3 n3 c3 ys W5 (K15.sl HS3.out) HB3.out (by omega)).mono ?_
    rintro e w6 ⟨k, L, nn, er, pa, pc, rfl, hRd, hSt, hSl, K6⟩
    have HRd := Lib.hid hRd
    have HStp := Lib.hid hSt
    have HSl := Lib.hid hSl
    have K16 := K15.trans K6
    clear hRd hSt hSl
    go_wp2_with fail
    refine (ref_all a3 n3 c3 ys w6 (K16.sl HS3.out) HB3.out (by omega)).mono ?_
    rintro e w7 ⟨k', L', nn', er', qa, qc, rfl, hRd, hSt, hSl, K7⟩
    obtain ⟨rfl, rfl, rfl, rfl⟩ := rd_only HB3.out HRd.out HStp.out hRd hSt
    have hkl := (Rd.len HB3.out hRd).2
    have hys := HS3.out.1
    have HSl2 := Lib.hid hSl
    have HSl1 := Lib.hid (HSl.out.kept K7)
    have K17 := K16.trans K7
    clear hRd hSt hSl HSl HRd HStp
    obtain ⟨b0, b1⟩ := HB1.out _ (KA5.trans (K6.trans K7))
    obtain ⟨b2, b3⟩ := HB2.out _ (K6.trans K7)
    have hst := HSt.out _ ((KA5.trans (K6.trans K7)).sl HS8.out)
    have e1 : (E8 == E8) = true := by simp
    have e2 : (((M8 : Nat) : Int) == M8) = true := by simp
    have e3 : (A8 == A8) = true := by simp
    have e4 : (er == er) = true := by simp
    have e5 : (((nn : Nat) : Int) == nn) = true := by simp
    go_wp2_with fail
    clear b0 b1 b2 b3 hst
    refine (fr_recs pa k pc qa qc L w7 HSl1.out HSl2.out (by omega)).mono ?_
    rintro e w8 ⟨rfl, K8⟩
    have hw16 : IntKind.i64.wrap (16 + (n : Int)) = 16 + n := by rw [IntKind.wrap_i64]; omega
    go_wp2_with fail
    refine (fr_size a n c 0 w8 (by omega)).mono ?_
    rintro e w9 ⟨rfl, K9⟩
    go_wp2
    go_ret
    exact ⟨rfl, K17.trans (K8.trans K9)⟩
  case inr.inr.inl =>
    go_enter Try.func6, Try.ntmps6
    go_wp2_with fail
    refine (fr_awake _).mono ?_
    rintro e w1 ⟨rfl, K1⟩
    go_wp2_with fail
    refine (fr_put_size (.slice none 0 0) a n c at' w1 h3 (by omega)).mono ?_
    rintro e w2 ⟨rfl, K2⟩
    have K12 := K1.trans K2
    have q0 := run_str (P := Try.prog) 23 9 5 Try.underlying23 Try.underlying5 Try.underlying9 (K12.sl HS.out)
    have HR := Lib.hid (ref_put_no at' zs n w2 hnl h3 (by omega))
    unfold rrecV at HR
    go_wp2_with fail
    refine HR.out.mono ?_
    rintro e w3 ⟨rfl, K3⟩
    have q1 := run_str (P := Try.prog) 23 9 5 Try.underlying23 Try.underlying5 Try.underlying9 (sl_nil .u8 w3)
    have q2 := q1
    have htv : ((strOf []).toList != (strOf []).toList) = false := by simp
    have K13 := K12.trans K3
    clear HR q0
    have HG := Lib.hid (fr_get a3 n3 c3 ys w3 (K13.sl HS3.out) HB3.out (by omega))
    have HG2 := Lib.hid (fun W (k : Kept w W) => ref_get a3 n3 c3 ys W (k.sl HS3.out) HB3.out (by omega))
    obtain ⟨⟨A8, P8, M8, E8⟩, hR8⟩ : ∃ r, getR ys = r := ⟨_, rfl⟩
    rw [hR8] at HG HG2
    dsimp only at HG HG2
    clear hR8
    generalize hpl : P8.length = pl at *
    go_wp2_with fail
    refine HG.out.mono ?_
    rintro e w4 ⟨a8, c8, rfl, hS8, K4, hf8⟩
    have B1 := two_cells (heap_alloc_new w4 (.cells #[.int .u64 A8, .slice a8 pl c8] 30))
    have KA := kept_al w4 (.cells #[.int .u64 A8, .slice a8 pl c8] 30)
    have HS8 := Lib.hid (KA.sl hS8)
    have HB1 : Hid (∀ V, Kept (w4.alloc (.cells #[.int .u64 A8, .slice a8 pl c8] 30)) V → V.cell? ⟨w4.heap.size, 0, none⟩ = some (.int .u64 A8) ∧ V.cell? ⟨w4.heap.size, 1, none⟩ = some (.slice a8 pl c8)) := fun V k => ⟨k.cel B1.1, k.cel B1.2⟩
    have K14 := (K13.trans K4).trans KA
    clear hS8 hf8 HG B1 q1 q2
    unfold recV
    unfold rrecV at HG2
    go_wp2_with fail
    generalize World.alloc w4 _ = W4 at *
    refine (HG2.out _ K14).mono ?_
    rintro e w5 ⟨rfl, K5⟩
    have htw := str_eq (strOf P8)
    have HSt := Lib.hid (fun V (h : Sl .u8 V a8 pl c8 P8) => run_str (P := Try.prog) 23 9 5 Try.underlying23 Try.underlying5 Try.underlying9 h)
    generalize strOf P8 = s8 at *
    have B2 := two_cells (heap_alloc_new w5 (.cells #[.int .u64 A8, .string s8] 41))
    have KA5 := K5.trans (kept_al w5 (.cells #[.int .u64 A8, .string s8] 41))
    have HB2 : Hid (∀ V, Kept (w5.alloc (.cells #[.int .u64 A8, .string s8] 41)) V → V.cell? ⟨w5.heap.size, 0, none⟩ = some (.int .u64 A8) ∧ V.cell? ⟨w5.heap.size, 1, none⟩ = some (.string s8)) := fun V k => ⟨k.cel B2.1, k.cel B2.2⟩
    have K15 := K14.trans KA5
    clear HG2 B2
    go_wp2_with fail
    generalize World.alloc w5 _ = W5 at *
    refine (fr_all a3 n3 c3 ys W5 (K15.sl HS3.out) HB3.out (by omega)).mono ?_
    rintro e w6 ⟨k, L, nn, er, pa, pc, rfl, hRd, hSt, hSl, K6⟩
    have HRd := Lib.hid hRd
    have HStp := Lib.hid hSt
    have HSl := Lib.hid hSl
    have K16 := K15.trans K6
    clear hRd hSt hSl
    go_wp2_with fail
    refine (ref_all a3 n3 c3 ys w6 (K16.sl HS3.out) HB3.out (by omega)).mono ?_
    rintro e w7 ⟨k', L', nn', er', qa, qc, rfl, hRd, hSt, hSl, K7⟩
    obtain ⟨rfl, rfl, rfl, rfl⟩ := rd_only HB3.out HRd.out HStp.out hRd hSt
    have hkl := (Rd.len HB3.out hRd).2
    have hys := HS3.out.1
    have HSl2 := Lib.hid hSl
    have HSl1 := Lib.hid (HSl.out.kept K7)
    have K17 := K16.trans K7
    clear hRd hSt hSl HSl HRd HStp
    obtain ⟨b0, b1⟩ := HB1.out _ (KA5.trans (K6.trans K7))
    obtain ⟨b2, b3⟩ := HB2.out _ (K6.trans K7)
    have hst := HSt.out _ ((KA5.trans (K6.trans K7)).sl HS8.out)
    have e1 : (E8 == E8) = true := by simp
    have e2 : (((M8 : Nat) : Int) == M8) = true := by simp
    have e3 : (A8 == A8) = true := by simp
    have e4 : (er == er) = true := by simp
    have e5 : (((nn : Nat) : Int) == nn) = true := by simp
    go_wp2_with fail
    clear b0 b1 b2 b3 hst
    refine (fr_recs pa k pc qa qc L w7 HSl1.out HSl2.out (by omega)).mono ?_
    rintro e w8 ⟨rfl, K8⟩
    have hw16 : IntKind.i64.wrap (16 + (n : Int)) = 16 + n := by rw [IntKind.wrap_i64]; omega
    go_wp2_with fail
    refine (fr_size a n c 0 w8 (by omega)).mono ?_
    rintro e w9 ⟨rfl, K9⟩
    go_wp2
    go_ret
    exact ⟨rfl, K17.trans (K8.trans K9)⟩
  all_goals
    go_enter Try.func6, Try.ntmps6
    go_wp2_with fail
    refine (fr_awake _).mono ?_
    rintro e w1 ⟨rfl, K1⟩
    go_wp2
    go_ret
    exact ⟨rfl, K1⟩
theorem frameSays_law (v0 v1 v2 : Value) (x0 : Int) (x1 x2 : List Int) (w : World) (w0 : RepV w (.int .u64) v0 x0) (w1 : RepV w (.sl (.int .u8)) v1 x1) (w2 : RepV w (.sl (.int .u8)) v2 x2) :
    Calls Try.prog 6 #[v0, v1, v2] w fun e w' => e = .returned (.bool true) ∧ Below w.heap.size w w' := by
  obtain ⟨rfl, h0⟩ := repV_int w0
  obtain ⟨a, n, ca, rfl, h1⟩ := repV_sl w1
  obtain ⟨b, m, cb, rfl, h2⟩ := repV_sl w2
  obtain ⟨s1, b1⟩ := slT_int h1
  obtain ⟨s2, b2⟩ := slT_int h2
  have u0 := wf_bd_u64 h0
  exact frSays_walk a n ca x1 b m cb x2 x0 w s1 (isB_of_mem fun x hx => wf_bd_u8 (b1 x hx)) s2 (isB_of_mem fun x hx => wf_bd_u8 (b2 x hx)) u0.1 u0.2
end Go.Proofs.Ytonifnbmofbakaa
