/- FrameKnown: what chapter 4 says of what is not whole, of too much. -/
import Derived.Test.YtonifnbmofbakaaFrCutsMath
import Derived.Test.YtonifnbmofbakaaFrameTurnedLaw
set_option linter.unusedVariables false
set_option linter.unusedSimpArgs false
namespace Go.Proofs.Ytonifnbmofbakaa
open Go.RowKit
theorem made_zero (n : Nat) : madeCells #[Value.int .u8 0] n = ((List.replicate n (0 : Int)).map (Value.int .u8)).toArray := by
  apply Array.ext'
  apply List.ext_getElem
  · simp [madeCells]
  · intro i h1 h2
    simp [madeCells, Nat.mod_one]
theorem make_zero (n : Nat) (hn : n ≤ 100000) (w : World) : (Instr.makeSlice 23 (.int .i64 (n : Int)) (.int .i64 (n : Int))).run Try.prog w = .ok (.slice (some ⟨w.heap.size, 0, none⟩) n n) (w.alloc (.cells ((List.replicate n (0 : Int)).map (Value.int .u8)).toArray 5)) := by
  have el : Elem Try.prog 23 5 (.int .u8 0) 1 1 := elemB
  obtain ⟨ht, ⟨i, hi, hz, hs1, hb1⟩, hzs, hsz⟩ := el
  have h := run_make (P := Try.prog) w 23 5 i (.int .u8 0) ht hi hz .i64 .i64 n n (by omega) (by omega) (by rw [hb1]; omega) (by omega)
  rw [hs1, Nat.mul_one] at h
  simp only [Int.toNat_natCast, Value.cells] at h
  rw [h, made_zero]
set_option maxRecDepth 100000 in
set_option maxHeartbeats 4000000 in
theorem frKnown_walk (w : World) : Calls Try.prog 5 #[] w fun e w' => e = .returned (.bool true) ∧ Below w.heap.size w w' := by
  have F1 : getR ((([120] ++ recB 7 (List.replicate 1024 0)).take 20).drop 1) = (0, [], 0, 3) := by decide +kernel
  have F2 : getR [] = (0, [], 0, 3) := by decide +kernel
  have F3 : getR [1, 4, 0, 0] = (0, [], 0, 14) := by decide +kernel
  have F4 : getR ((recB 7 (List.replicate 1024 0)).set 20 1) = (0, [], 0, 2) := by decide +kernel
  have F5 : Rd (recB 7 (List.replicate 1024 0) ++ [1, 0]) 1 [(7, List.replicate 1024 0)] 1040 := by
    have h := getR_rec 7 (List.replicate 1024 0) [1, 0] (by simp) (by omega) (by omega)
    rw [List.length_replicate] at h
    exact ⟨[], 0, 7, _, 1040, ⟨rfl, rfl⟩, by rw [List.length_append, recB_len]; simp, by rw [List.drop_zero]; exact h, rfl, rfl⟩
  have hRl : (recB 7 (List.replicate 1024 0)).length = 1040 := by rw [recB_len, List.length_replicate]
  have F6 : Stop (recB 7 (List.replicate 1024 0) ++ [1, 0]) 1040 3 := by
    refine .inr ⟨by rw [List.length_append, hRl]; simp, ?_, by omega⟩
    rw [List.drop_append_of_le_length (by omega), List.drop_of_length_le (by omega)]
    decide +kernel
  have F7 : Rd [] 0 [] 0 := ⟨rfl, rfl⟩
  have F8 : Stop [] 0 0 := .inl ⟨rfl, rfl⟩
  have hZB : IsB (List.replicate 1024 (0 : Int)) := isB_of_mem (by intro x hx; have := List.eq_of_mem_replicate hx; omega)
  have hRB := isB_recB 7 hZB
  have hm1 : ∃ C : Array Value, ∀ W : World, (Instr.makeSlice 23 (.int .i64 1025) (.int .i64 1025)).run Try.prog W = .ok (.slice (some ⟨W.heap.size, 0, none⟩) 1025 1025) (W.alloc (.cells C 5)) := ⟨_, fun W => make_zero 1025 (by omega) W⟩
  have hm2 : ∃ C : Array Value, (∀ W : World, (Instr.makeSlice 23 (.int .i64 1024) (.int .i64 1024)).run Try.prog W = .ok (.slice (some ⟨W.heap.size, 0, none⟩) 1024 1024) (W.alloc (.cells C 5))) ∧ Hid (∀ W : World, Sl .u8 (W.alloc (.cells C 5)) (some ⟨W.heap.size, 0, none⟩) 1024 1024 (List.replicate 1024 0)) :=
    ⟨_, fun W => make_zero 1024 (by omega) W, fun W => sl_lit .u8 W 5 (0, 0) (List.replicate 1024 0) 1024 (by simp) (by unfold maxLen; omega)⟩
  obtain ⟨C1, hm1⟩ := hm1
  obtain ⟨C2, hm2, HZ⟩ := hm2
  generalize List.replicate 1024 (0 : Int) = Z at *
  have HP := Lib.hid (fun (b d : Option Addr) W h1 h2 => fr_put_ok b 1 1 [120] d 1024 1024 Z 7 W h1 h2 hZB (by omega) (by omega) (by omega) (by omega))
  rw [show 1 + 16 + 1024 = 1041 from rfl] at HP
  generalize recB 7 Z = R at *
  have HF1 := Lib.hid F1
  have HF2 := Lib.hid F2
  have HF3 := Lib.hid F3
  have HF4 := Lib.hid F4
  have HF5 := Lib.hid F5
  have HF6 := Lib.hid F6
  have HRB := Lib.hid hRB
  clear F1 F2 F3 F4 F5 F6 hRB hZB
  go_enter Try.func5, Try.ntmps5
  go_wp2_with fail
  refine (fr_awake _).mono ?_
  rintro e w1 ⟨rfl, K1⟩
  have kc := Lib.run_convert_bytes_const (P := Try.prog) w1 23 5 #[.int .u8 120] 1 1 Try.underlying23 Try.underlying5
  have K2 := K1.trans ((kept_al w1 (.cells #[.int .u8 120] 5 (1, 2))).trans (kept_al _ (.cells C1 5)))
  go_wp2_with fail
  generalize World.alloc (World.alloc w1 _) _ = w2 at *
  refine (fr_put_size _ _ 1025 1025 0 w2 (by omega) (by omega)).mono ?_
  rintro e w3 ⟨rfl, K3⟩
  replace K2 := K2.trans K3
  clear kc K3 K1
  have kc := Lib.run_convert_bytes_const (P := Try.prog) w3 23 5 #[.int .u8 120] 1 1 Try.underlying23 Try.underlying5
  have K4 := K2.trans ((kept_al w3 (.cells #[.int .u8 120] 5 (1, 2))).trans (kept_al _ (.cells C2 5)))
  have HS1 := Lib.hid ((kept_al _ (.cells C2 5)).sl (sl_lit .u8 w3 5 (1, 2) [120] 1 rfl (by unfold maxLen; omega)))
  have HS2 := Lib.hid (HZ.out (w3.alloc (.cells #[.int .u8 120] 5 (1, 2))))
  go_wp2_with fail
  refine (HP.out _ _ _ HS1.out (by simpa using HS2.out)).mono ?_
  rintro e w4 ⟨a4, c4, g4, rfl, hA4, K', hg4⟩
  have HX := Lib.hid (app_sl hA4).1
  have hXc := HX.out.2.1
  have hXm := HX.out.2.2.1
  unfold maxLen at hXm
  have K0 := K4.trans K'
  clear hA4 hg4 K' HS1 HS2 kc K4 HP HZ hm1 hm2
  have KB : Kept w4 w4 := Kept.refl _
  have HXB : Hid (IsB ([120] ++ R)) := isB_append (isB_of_mem (by simp)) HRB.out
  have x1 := fun W => run_cut_lh elemB a4 1041 c4 .i64 .i64 1 20 (1 : Int) (20 : Int) rfl rfl (by omega) (by omega) W
  have x2 := fun W => run_cut_l elemB a4 1041 c4 .i64 1 (1 : Int) rfl (by omega) W
  rw [show (20 - 1 : Nat) = 19 from rfl] at x1
  rw [show (1041 - 1 : Nat) = 1040 from rfl] at x2
  have HG := Lib.hid (fr_get (cutA a4 c4 1 1) 19 (c4 - 1) ((([120] ++ R).take 20).drop 1) w4 (sl_cut HX.out 1 20 (by omega) (by omega)) (isB_drop (isB_take HXB.out _) _) (by omega))
  rw [HF1.out] at HG
  go_wp2_with fail
  refine HG.out.mono ?_
  rintro e V1 ⟨a', c', rfl, hS', K', hf'⟩
  replace KB := KB.trans (K'.trans (kept_al V1 (.cells #[.int .u64 0, .slice a' 0 c'] 30)))
  clear hS' hf' K' HG
  have hz1 : (V1.alloc (.cells #[.int .u64 0, .slice a' 0 c'] 30)).heap.size = V1.heap.size + 1 := by simp
  unfold recV
  go_wp2_with fail
  generalize World.alloc V1 _ = W1 at *
  have HG := Lib.hid (fr_get none 0 0 [] W1 (sl_nil _ _) (fun i => by simp) (by omega))
  rw [HF2.out] at HG
  go_wp2_with fail
  refine HG.out.mono ?_
  rintro e V2 ⟨a', c', rfl, hS', K', hf'⟩
  replace KB := KB.trans (K'.trans (kept_al V2 (.cells #[.int .u64 0, .slice a' 0 c'] 30)))
  clear hS' hf' K' HG
  have hz2 : (V2.alloc (.cells #[.int .u64 0, .slice a' 0 c'] 30)).heap.size = V2.heap.size + 1 := by simp
  unfold recV
  go_wp2_with fail
  generalize World.alloc V2 _ = W2 at *
  have hs4 : Sl .u8 (W2.alloc (.cells #[.int .u8 1, .int .u8 4, .int .u8 0, .int .u8 0] 5)) (some ⟨W2.heap.size, 0, none⟩) 4 4 [1, 4, 0, 0] := sl_lit .u8 W2 5 (0, 0) [1, 4, 0, 0] 4 rfl (by unfold maxLen; omega)
  have HG := Lib.hid (fr_get (some ⟨W2.heap.size, 0, none⟩) 4 4 [1, 4, 0, 0] _ hs4 (isB_of_mem (by simp)) (by omega))
  clear hs4
  rw [HF3.out, hz2] at HG
  replace KB := KB.trans (kept_al W2 (.cells #[.int .u8 1, .int .u8 4, .int .u8 0, .int .u8 0] 5))
  go_wp2_with fail
  refine HG.out.mono ?_
  rintro e V3 ⟨a', c', rfl, hS', K', hf'⟩
  replace KB := KB.trans (K'.trans (kept_al V3 (.cells #[.int .u64 0, .slice a' 0 c'] 30)))
  clear hS' hf' K' HG
  have hcut : Hid ((([120] ++ R).take 1041).drop 1 = R) := (by unfold Hid; rw [List.take_of_length_le (by simp; omega)]; rfl)
  have HSR : Hid (∀ W, Kept w4 W → Sl .u8 W (cutA a4 c4 1 1) 1040 (c4 - 1) R) := (by
    intro W k
    have h := k.sl (sl_cut HX.out 1 1041 (by omega) (by omega))
    rw [hcut.out] at h
    exact h)
  have hs3 := KB.size
  have hE3 : Hid (App ((V3.alloc (.cells #[.int .u64 0, .slice a' 0 c'] 30)).alloc (.cells #[] 5)) 5 1 (.slice (some ⟨V3.heap.size + 1, 0, none⟩) 0 0) 0 (some (V3.heap.size + 1)) []) := by
    have h := app_empty (V3.alloc (.cells #[.int .u64 0, .slice a' 0 c'] 30)) 5
    rw [show (V3.alloc (.cells #[.int .u64 0, .slice a' 0 c'] 30)).heap.size = V3.heap.size + 1 by simp] at h
    exact h
  unfold recV
  go_wp2_with (at_builtin; refine wpList_app rfl (.tmp 67) (.tmp 69) 23 23 rfl elemB _ 0 _ _ rfl hE3.out _ 1040 _ rfl (src_sl Try.underlying23 (HSR.out _ (KB.trans (kept_al _ _)))) (by omega) (by unfold maxLen; omega) ?_; intro a5 c5 g5 w5 hA5 hO5 hG5; rw [List.nil_append] at hA5; rw [show 0 + 1040 = 1040 from rfl] at hA5 ⊢; have HA5 := Lib.hid hA5; clear hA5; obtain ⟨b5, rfl, rfl, hbl, hcell, hsome, hfr, hset⟩ := app_at HA5.out 20 (by omega); have hc5 := hcell (.int .u8 (R.getD 20 0)) (by simp [List.getElem?_map, List.getD_eq_getElem?_getD, hRl]); have hb5 : w4.heap.size ≤ b5 := (by simp at hs3 hG5; omega); have K5 : Kept w4 w5 := (KB.trans (kept_al _ _)).onl hO5 (by intro i hi; simp at hi hs3; omega); have hA5' := hset (.int .u8 1); rw [show (List.map (Value.int .u8) R).set 20 (.int .u8 1) = bytesV (R.set 20 1) by simp [bytesV, List.map_set]] at hA5'; have HS5 := Lib.hid (app_sl hA5').1; have K6 := Lib.hid ((K5.only.setCell (p := ⟨b5, 20, none⟩) (by intro h; simp at h; omega) (.int .u8 1) : Only [] w4 _).kept); clear hcell hset hA5' K5 hO5 hG5 hbl hsome hE3)
  have HG := Lib.hid (fr_get (some ⟨b5, 0, none⟩) 1040 c5 (R.set 20 1) _ HS5.out (isB_of_mem (fun y hy => by
    rcases List.mem_or_eq_of_mem_set hy with h | rfl
    · exact isB_mem HRB.out y h
    · omega)) (by omega))
  rw [HF4.out] at HG
  refine HG.out.mono ?_
  rintro e V5 ⟨a', c', rfl, hS', K', hf'⟩
  replace KB := K6.out.trans (K'.trans (kept_al V5 (.cells #[.int .u64 0, .slice a' 0 c'] 30)))
  clear hS' hf' K' HG K6 HS5
  have hs5 := KB.size
  have hE5 : Hid (App ((V5.alloc (.cells #[.int .u64 0, .slice a' 0 c'] 30)).alloc (.cells #[] 5)) 5 1 (.slice (some ⟨V5.heap.size + 1, 0, none⟩) 0 0) 0 (some (V5.heap.size + 1)) []) := by
    have h := app_empty (V5.alloc (.cells #[.int .u64 0, .slice a' 0 c'] 30)) 5
    rw [show (V5.alloc (.cells #[.int .u64 0, .slice a' 0 c'] 30)).heap.size = V5.heap.size + 1 by simp] at h
    exact h
  have hL2 : Hid (∀ W : World, Sl .u8 (W.alloc (.cells #[.int .u8 1, .int .u8 0] 5)) (some ⟨W.heap.size, 0, none⟩) 2 2 [1, 0]) := fun W => sl_lit .u8 W 5 (0, 0) [1, 0] 2 rfl (by unfold maxLen; omega)
  unfold recV
  go_wp2_with (first
    | (at_builtin; refine wpList_app rfl (.tmp 80) (.tmp 82) 23 23 rfl elemB _ 0 _ _ rfl hE5.out _ 1040 _ rfl (src_sl Try.underlying23 (HSR.out _ (KB.trans (kept_al _ _)))) (by omega) (by unfold maxLen; omega) ?_; intro a6 c6 g6 w6 hA6 hO6 hG6; rw [List.nil_append] at hA6; rw [show 0 + 1040 = 1040 from rfl] at hA6 ⊢; have HA6 := Lib.hid hA6; have hg6 : ∀ k, g6 = some k → w4.heap.size ≤ k := (by intro k hk; simp at hs5; rcases hG6 with rfl | rfl <;> simp at hk <;> omega); have K6 : Kept w4 w6 := (KB.trans (kept_al _ _)).onl hO6 (by intro i hi; simp at hi hs5; omega); clear hA6 hO6 hG6 hE5)
    | (at_builtin; refine wpList_app rfl (.tmp 83) (.tmp 84) 23 23 rfl elemB _ 1040 _ _ rfl ((kept_al w6 _).only.app HA6.out (by simp)) _ 2 _ rfl (src_sl Try.underlying23 (hL2.out w6)) (by omega) (by unfold maxLen; omega) ?_; intro a7 c7 g7 w7 hA7 hO7 hG7; rw [show 1040 + 2 = 1042 from rfl] at hA7 ⊢; have HA7 : Hid (App w7 5 1 (.slice a7 1042 c7) 1042 g7 (bytesV (R ++ [1, 0]))) := (by unfold Hid; rw [bytesV_append]; exact hA7); have K7 : Kept w4 w7 := (K6.trans (kept_al _ _)).onl hO7 (by intro i hi; exact hg6 i (by simpa using hi)); clear hA7 hO7 hG7))
  have HAl := Lib.hid (fr_all a7 1042 c7 (R ++ [1, 0]) w7 (app_sl HA7.out).1 (isB_append HRB.out (isB_of_mem (by simp))) (by omega))
  refine HAl.out.mono ?_
  rintro e w8 ⟨k, L, nn, er, pa, pc, rfl, hRd, hSt, hSl, K8⟩
  obtain ⟨rfl, rfl, rfl, rfl⟩ := rd_only (isB_append HRB.out (isB_of_mem (by simp))) HF5.out HF6.out hRd hSt
  clear hRd hSt hSl HAl
  have HAl := Lib.hid (fr_all none 0 0 [] w8 (sl_nil _ _) (fun i => by simp) (by omega))
  go_wp2_with fail
  refine HAl.out.mono ?_
  rintro e w9 ⟨k, L, nn, er, qa, qc, rfl, hRd, hSt, hSl, K9⟩
  obtain ⟨rfl, rfl, rfl, rfl⟩ := rd_only (fun i => by simp) F7 F8 hRd hSt
  clear hRd hSt hSl HAl
  go_wp2
  go_ret
  exact ⟨rfl, K0.trans (K7.trans (K8.trans K9))⟩
end Go.Proofs.Ytonifnbmofbakaa
