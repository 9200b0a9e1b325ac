/- The document's own tables: first, ends, Meet, TableAt. -/
import Derived.Test.YtmkoabalakfehaaShipRefT
import Derived.Test.YtmkoabalakfehaaEpBothM
import Derived.Test.YtmkoabalakfehaaEpAt
set_option linter.unusedVariables false
set_option linter.unusedSimpArgs false
namespace Go.Proofs.Ytmkoabalakfehaa
open Go.RowKit
set_option maxHeartbeats 400000 in
theorem ref_first (a : Option Addr) (n c : Nat) (L : List Int) (E : Int) (w : World) (hS : Sl .u64 w a n c L) (hW : IsW L) :
    Calls Try.prog 50 #[.agg #[.slice a n c, .int .i64 E]] w fun e w' => e = .returned (.int .i64 (firstI L E)) ∧ Kept w w' := by
  have K1 := ((Only.refl [] w).alloc (.cells #[.slice a n c, .int .i64 E] 52)).kept
  have hS1 := K1.sl hS
  have hh := heap_alloc_new w (.cells #[.slice a n c, .int .i64 E] 52)
  have d0 := at_cell hh 0 _ rfl
  have d1 := at_cell hh 1 _ rfl
  have hl := hS.1
  by_cases h0 : n = 0
  · have hL : L = [] := List.eq_nil_of_length_eq_zero (by omega)
    subst h0 hL
    have hf : firstI [] E = E := rfl
    rw [hf]
    clear hS hS1 hh
    go_enter Try.func50, Try.ntmps50
    go_wp2
    go_ret
    exact ⟨rfl, K1⟩
  · have hf : firstI L E = ofI (L.getD 0 0) := if_neg (by intro h; rw [h] at hl; simp at hl; omega)
    obtain ⟨b, o, x, rfl, hx, hxv⟩ := hS1.at 0 (by omega)
    have hv := hxv.out
    have hb := hW 0
    rw [← hv] at hf hb
    obtain ⟨b0, b1⟩ := hb
    rw [hf]
    rw [Nat.add_zero] at hx
    have hn : ((n : Int) == 0) = false := by simp; omega
    have hn1 : 0 < (n : Int) := by omega
    clear hS hS1 hh hW hv hxv hf h0
    go_enter Try.func50, Try.ntmps50
    go_wp2_with fail
    refine (ref_off x _ b0 b1).mono ?_
    rintro e w' ⟨rfl, rfl⟩
    go_wp2
    go_ret
    exact ⟨rfl, K1⟩
set_option maxHeartbeats 400000 in
theorem ref_ends (a : Option Addr) (n c : Nat) (L : List Int) (E : Int) (i : Nat) (w : World) (hS : Sl .u64 w a n c L) (hW : IsW L) (hi : i < n) :
    Calls Try.prog 49 #[.agg #[.slice a n c, .int .i64 E], .int .i64 i] w fun e w' => e = .returned (.int .i64 (endsI L E i)) ∧ Kept w w' := by
  have K1 := ((Only.refl [] w).alloc (.cells #[.slice a n c, .int .i64 E] 52)).kept
  have hS1 := K1.sl hS
  have hh := heap_alloc_new w (.cells #[.slice a n c, .int .i64 E] 52)
  have d0 := at_cell hh 0 _ rfl
  have d1 := at_cell hh 1 _ rfl
  have hl := hS.1
  have hnc := hS.2.1
  have hcm := hS.2.2.1
  unfold maxLen at hcm
  by_cases h0 : i + 1 < n
  · have hf : endsI L E i = ofI (L.getD (i + 1) 0) := if_pos (by omega)
    obtain ⟨b, o, x, rfl, hx, hxv⟩ := hS1.at (i + 1) h0
    have hv := hxv.out
    have hb := hW (i + 1)
    rw [← hv] at hf hb
    obtain ⟨b0, b1⟩ := hb
    rw [hf]
    have hn1 : (i : Int) + 1 < n := by omega
    clear hS hS1 hh hW hv hxv hf h0
    go_enter Try.func49, Try.ntmps49
    go_wp2_with fail
    refine (ref_off x _ b0 b1).mono ?_
    rintro e w' ⟨rfl, rfl⟩
    go_wp2
    go_ret
    exact ⟨rfl, K1⟩
  · have hf : endsI L E i = E := if_neg (by omega)
    rw [hf]
    have hn1 : (n : Int) ≤ i + 1 := by omega
    clear hS hS1 hh hf h0
    go_enter Try.func49, Try.ntmps49
    go_wp2
    go_ret
    exact ⟨rfl, K1⟩
set_option maxRecDepth 100000 in
set_option maxRecDepth 100000 in
set_option maxHeartbeats 4000000 in
theorem ref_meet (a b : Option Addr) (n c m d : Nat) (A B : List Int) (EA EB : Int) (w : World) (hA : Sl .u64 w a n c A) (hB : Sl .u64 w b m d B) (wA : IsW A) (wB : IsW B) :
    Calls Try.prog 37 #[.agg #[.slice a n c, .int .i64 EA], .agg #[.slice b m d, .int .i64 EB]] w fun e w' => e = .returned (.int .i64 (meetI A EA B EB)) ∧ Kept w w' := by
  have hla := hA.1
  have hlb := hB.1
  have hnc := hA.2.1
  have hmd := hB.2.1
  have hcm := hA.2.2.1
  have hdm := hB.2.2.1
  unfold maxLen at hcm hdm
  have HA := Lib.hid hA
  have HB := Lib.hid hB
  have WA := Lib.hid wA
  have WB := Lib.hid wB
  have KB : Kept w ((w.alloc (.cells #[.slice a n c, .int .i64 EA] 52)).alloc (.cells #[.slice b m d, .int .i64 EB] 52)) := (((Only.refl [] w).alloc _).alloc _).kept
  have hQ := two_new3 w (.cells #[.slice a n c, .int .i64 EA] 52) (.cells #[.slice b m d, .int .i64 EB] 52)
  have hP := (((Only.refl [] (w.alloc (.cells #[.slice a n c, .int .i64 EA] 52))).alloc (.cells #[.slice b m d, .int .i64 EB] 52)).kept).only.heap (heap_alloc_new w (.cells #[.slice a n c, .int .i64 EA] 52)) (by simp)
  have HC : Hid (∀ V, Kept ((w.alloc (.cells #[.slice a n c, .int .i64 EA] 52)).alloc (.cells #[.slice b m d, .int .i64 EB] 52)) V → V.cell? ⟨w.heap.size, 0, none⟩ = some (.slice a n c) ∧ V.cell? ⟨w.heap.size, 1, none⟩ = some (.int .i64 EA) ∧ V.cell? ⟨w.heap.size + 1, 0, none⟩ = some (.slice b m d) ∧ V.cell? ⟨w.heap.size + 1, 1, none⟩ = some (.int .i64 EB)) := fun V k => ⟨k.cel (at_cell hP 0 _ rfl), k.cel (at_cell hP 1 _ rfl), k.cel (at_cell hQ 0 _ rfl), k.cel (at_cell hQ 1 _ rfl)⟩
  have C0 := HC.out _ (Kept.refl _)
  clear hA hB wA wB hQ hP
  by_cases gA : GoodT A EA
  · have dA : Hid (decide (GoodT A EA) = true) := decide_eq_true gA
    by_cases gB : GoodT B EB
    · have dB : Hid (decide (GoodT B EB) = true) := decide_eq_true gB
      have hM : meetI A EA B EB = match meetGo A B EA EB A.length with
          | some v => v
          | none => if firstI A EA = firstI B EB then firstI A EA else 0 := if_neg (by rintro (h | h); exact h gA; exact h gB)
      have HM := Lib.hid hM
      clear gA gB hM
      obtain ⟨p0, p1, q0, q1⟩ := C0
      go_enter Try.func37, Try.ntmps37
      go_wp2_with fail
      clear p0 p1 q0 q1
      generalize World.alloc (World.alloc w _) _ = W at *
      refine (ref_good a n c A EA W (KB.sl HA.out) WA.out).mono ?_
      rintro e V1 ⟨rfl, K1⟩
      rw [dA.out]
      have C1 := HC.out _ K1
      obtain ⟨p0, p1, q0, q1⟩ := C1
      go_wp2_with fail
      clear p0 p1 q0 q1
      refine (ref_good b m d B EB V1 ((KB.trans K1).sl HB.out) WB.out).mono ?_
      rintro e V2 ⟨rfl, K2⟩
      rw [dB.out]
      have K12 := K1.trans K2
      have C2 := HC.out _ K12
      clear K1 K2
      obtain ⟨p0, p1, q0, q1⟩ := C2
      go_wp2_with fail
      clear p0 p1 q0 q1
      go_loopw [5] (fun i wr => ∃ j : Nat, j ≤ n ∧ i = .int .i64 ((j : Int) - 1) ∧ Kept W wr ∧ Hid (meetGo A B EA EB A.length = meetGo A B EA EB j)) (fun i _ => (intOf i + 1).toNat)
      case atStart => exact ⟨n, by omega, rfl, K12, by unfold Hid; rw [hla]⟩
      case round =>
        obtain ⟨j, hj, rfl, Kr, HJ⟩ := hrel
        have CR := HC.out _ Kr
        obtain ⟨p0, p1, q0, q1⟩ := CR
        cases j with
        | zero =>
          have ei : ((0 : Nat) : Int) - 1 = -1 := rfl
          rw [ei]
          have hgo := HJ.out
          rw [meetGo] at hgo
          have HV0 : Hid (meetI A EA B EB = if firstI A EA = firstI B EB then firstI A EA else 0) := by
            unfold Hid
            rw [HM.out, hgo]
          clear hgo HJ ei hj
          go_wp2_with fail
          clear p0 p1 q0 q1
          have KD : Kept wr wr.drew := (Kept.refl _).dr ⟨1, rfl⟩
          have tok : Hid True := trivial
          go_region_held3 (fun w' => w'.cell? ⟨w.heap.size, 0, none⟩ = some (.slice a n c) ∧ w'.cell? ⟨w.heap.size, 1, none⟩ = some (.int .i64 EA) ∧ w'.cell? ⟨w.heap.size + 1, 0, none⟩ = some (.slice b m d) ∧ w'.cell? ⟨w.heap.size + 1, 1, none⟩ = some (.int .i64 EB)) (first | exact HC.out _ (Kr.trans KD)) (first | (go_at_call 50; replace tok := tok; clear tok; refine (ref_first a n c A EA _ ((KB.trans (Kr.trans KD)).sl HA.out) WA.out).mono ?_; rintro e V' ⟨rfl, J⟩; replace KD := KD.trans J; clear J) | (go_at_call 50; refine (ref_first b m d B EB _ ((KB.trans (Kr.trans KD)).sl HB.out) WB.out).mono ?_; rintro e V' ⟨rfl, J⟩; replace KD := KD.trans J; clear J))
          by_cases hf : firstI A EA = firstI B EB
          · have hfb : (firstI A EA == firstI B EB) = true := by simp [hf]
            have HV1 : Hid (meetI A EA B EB = firstI A EA) := by unfold Hid; rw [HV0.out, if_pos hf]
            have CV := HC.out _ (Kr.trans KD)
            clear hf
            obtain ⟨p0, p1, q0, q1⟩ := CV
            go_wp2_with fail
            refine (ref_first a n c A EA _ ((KB.trans (Kr.trans KD)).sl HA.out) WA.out).mono ?_
            rintro e V3 ⟨rfl, J⟩
            go_wp2
            go_ret
            exact ⟨ret_int HV1.out.symm, KB.trans ((Kr.trans KD).trans J)⟩
          · have hfb : (firstI A EA == firstI B EB) = false := by simp [hf]
            have HV1 : Hid (meetI A EA B EB = 0) := by unfold Hid; rw [HV0.out, if_neg hf]
            clear hf
            go_wp2
            go_ret
            exact ⟨ret_int HV1.out.symm, KB.trans (Kr.trans KD)⟩
        | succ t =>
          have ei : ((t + 1 : Nat) : Int) - 1 = t := by push_cast; omega
          rw [ei]
          obtain ⟨b', o, x, rfl, hx, hxv⟩ := ((KB.trans Kr).sl HA.out).at t (by omega)
          have HX : Hid (A.getD t 0 = x) := hxv.out.symm
          have hge : 0 ≤ (t : Int) := by omega
          have hlt : (t : Int) < n := by omega
          have hgo := HJ.out
          rw [meetGo, HX.out] at hgo
          have HGo := Lib.hid hgo
          clear hxv ei HJ hgo
          have HXc := Lib.hid hx
          clear hx
          go_wp2_with fail
          clear p0 p1 q0 q1
          obtain ⟨Wt, hWt⟩ : ∃ V, V = wr := ⟨_, rfl⟩
          subst hWt
          go_loopw [6] (fun kv wq => ∃ q : Nat, q ≤ m ∧ kv = .int .i64 (q : Int) ∧ Kept Wt wq ∧ Hid (idx B x = idxF B x (m - q) q)) (fun kv _ => m - (intOf kv).toNat)
          case atStart => exact ⟨0, by omega, rfl, Kept.refl _, by unfold Hid idx; rw [hlb]; rfl⟩
          case round =>
            obtain ⟨q, hq, rfl, Kq, HI⟩ := hrel
            have CV := HC.out _ (Kr.trans Kq)
            obtain ⟨p0, p1, q0, q1⟩ := CV
            by_cases hlt2 : q < m
            · have hlt2' : (q : Int) < m := by omega
              obtain ⟨b2, o2, y, rfl, hy, hyv⟩ := ((KB.trans (Kr.trans Kq)).sl HB.out).at q hlt2
              have hx := Kq.cel HXc.out
              have hi := HI.out
              rw [show m - q = (m - (q + 1)) + 1 by omega, idxF] at hi
              by_cases hxy : x = y
              · rw [if_pos (by rw [← hyv.out, hxy])] at hi
                have hk0 := idx_lt hi
                have hgo := HGo.out
                rw [hi] at hgo
                have HG := Lib.hid hgo
                have txy : (x != y) = false := by simp [hxy]
                clear hi hgo hyv hxy HI HGo
                go_upto_region 9 with fail
                go_quiet (fail)
                generalize hV : World.drewN wr _ = V
                have KV : Kept W V := hV ▸ (Kr.trans Kq).dr ((Dr.refl wr).drewN _)
                clear hV p0 p1 q0 q1 hx hy txy
                have CV := HC.out _ KV
                obtain ⟨p0, p1, q0, q1⟩ := CV
                go_wp2_with fail
                clear p0 p1 q0 q1
                have KD : Kept V V.drew := (Kept.refl _).dr ⟨1, rfl⟩
                have tok : Hid True := trivial
                go_region_held3 (fun w' => w'.cell? ⟨w.heap.size, 0, none⟩ = some (.slice (some ⟨b', o, none⟩) n c) ∧ w'.cell? ⟨w.heap.size, 1, none⟩ = some (.int .i64 EA) ∧ w'.cell? ⟨w.heap.size + 1, 0, none⟩ = some (.slice (some ⟨b2, o2, none⟩) m d) ∧ w'.cell? ⟨w.heap.size + 1, 1, none⟩ = some (.int .i64 EB)) (first | exact HC.out _ (KV.trans KD)) (first | (go_at_call 49; replace tok := tok; clear tok; refine (ref_ends (some ⟨b', o, none⟩) n c A EA t _ ((KB.trans (KV.trans KD)).sl HA.out) WA.out (by omega)).mono ?_; rintro e V' ⟨rfl, J⟩; replace KD := KD.trans J; clear J) | (go_at_call 49; refine (ref_ends (some ⟨b2, o2, none⟩) m d B EB q _ ((KB.trans (KV.trans KD)).sl HB.out) WB.out (by omega)).mono ?_; rintro e V' ⟨rfl, J⟩; replace KD := KD.trans J; clear J))
                have hV : meetI A EA B EB = min (endsI A EA t) (endsI B EB q) := by
                  rw [HM.out, HG.out]
                obtain ⟨p0, p1, q0, q1⟩ := HC.out _ (KV.trans KD)
                by_cases hlt3 : endsI A EA t < endsI B EB q
                · have HV : Hid (meetI A EA B EB = endsI A EA t) := by unfold Hid; rw [hV]; omega
                  clear hV
                  go_wp2_with fail
                  refine (ref_ends (some ⟨b', o, none⟩) n c A EA t _ ((KB.trans (KV.trans KD)).sl HA.out) WA.out (by omega)).mono ?_
                  rintro e V3 ⟨rfl, J⟩
                  go_wp2
                  go_ret
                  exact ⟨ret_int HV.out.symm, KB.trans ((KV.trans KD).trans J)⟩
                · have HV : Hid (meetI A EA B EB = endsI B EB q) := by unfold Hid; rw [hV]; omega
                  have hlt4 : endsI B EB q ≤ endsI A EA t := by omega
                  clear hV
                  go_wp2_with fail
                  refine (ref_ends (some ⟨b2, o2, none⟩) m d B EB q _ ((KB.trans (KV.trans KD)).sl HB.out) WB.out (by omega)).mono ?_
                  rintro e V3 ⟨rfl, J⟩
                  go_wp2
                  go_ret
                  exact ⟨ret_int HV.out.symm, KB.trans ((KV.trans KD).trans J)⟩
              · rw [if_neg (by rw [← hyv.out]; exact fun h => hxy h.symm)] at hi
                have HI2 := Lib.hid hi
                have txy : (x != y) = true := by simp [hxy]
                clear hi hyv hxy HI
                go_upto_region 9 with fail
                go_quiet (fail)
                go_wp2
                go_roundw
                case rel => exact ⟨q + 1, by omega, by go_num, Kq.dr ((Dr.refl _).drewN _), HI2.out⟩
                case measure => (simp [intOf] <;> omega)
            · have hge2 : (m : Int) ≤ q := by omega
              have hi := HI.out
              rw [show m - q = 0 by omega, idxF] at hi
              have hgo := HGo.out
              rw [hi] at hgo
              have HG := Lib.hid hgo
              clear hi hgo HI HGo
              go_wp2
              go_roundw
              case rel => exact ⟨t, by omega, by go_num, Kr.trans Kq, HG.out⟩
              case measure => (simp [intOf] <;> omega)
    · have dB : Hid (decide (GoodT B EB) = false) := decide_eq_false gB
      have HM : Hid (meetI A EA B EB = 0) := if_pos (.inr gB)
      clear gA gB
      obtain ⟨p0, p1, q0, q1⟩ := C0
      go_enter Try.func37, Try.ntmps37
      go_wp2_with fail
      clear p0 p1 q0 q1
      generalize World.alloc (World.alloc w _) _ = W at *
      refine (ref_good a n c A EA W (KB.sl HA.out) WA.out).mono ?_
      rintro e V1 ⟨rfl, K1⟩
      rw [dA.out]
      have C1 := HC.out _ K1
      obtain ⟨p0, p1, q0, q1⟩ := C1
      go_wp2_with fail
      clear p0 p1 q0 q1
      refine (ref_good b m d B EB V1 ((KB.trans K1).sl HB.out) WB.out).mono ?_
      rintro e V2 ⟨rfl, K2⟩
      rw [dB.out]
      go_wp2
      go_ret
      exact ⟨ret_int HM.out.symm, (KB.trans K1).trans K2⟩
  · have dA : Hid (decide (GoodT A EA) = false) := decide_eq_false gA
    have HM : Hid (meetI A EA B EB = 0) := if_pos (.inl gA)
    clear gA
    obtain ⟨p0, p1, q0, q1⟩ := C0
    go_enter Try.func37, Try.ntmps37
    go_wp2_with fail
    clear p0 p1 q0 q1
    generalize World.alloc (World.alloc w _) _ = W at *
    refine (ref_good a n c A EA W (KB.sl HA.out) WA.out).mono ?_
    rintro e V1 ⟨rfl, K1⟩
    rw [dA.out]
    go_wp2
    go_ret
    exact ⟨ret_int HM.out.symm, KB.trans K1⟩
set_option maxRecDepth 100000 in
set_option maxHeartbeats 4000000 in
theorem ref_tableAt (a : Option Addr) (n c : Nat) (L : List Int) (E off : Int) (w : World) (hS : Sl .u64 w a n c L) (hW : IsW L) (ho : -9223372036854775808 ≤ off) :
    Calls Try.prog 34 #[.agg #[.slice a n c, .int .i64 E], .int .i64 off] w fun e w' => e = .returned (.tuple #[.int .i64 (atI L E off).1, .bool (atI L E off).2]) ∧ Kept w w' := by
  have K1 := kept_al w (.cells #[.slice a n c, .int .i64 E] 52)
  have hl := hS.1
  have hnc := hS.2.1
  have hcm := hS.2.2.1
  unfold maxLen at hcm
  have HS := Lib.hid hS
  have HW := Lib.hid hW
  have HC : Hid (∀ Z, Kept (w.alloc (.cells #[.slice a n c, .int .i64 E] 52)) Z → Z.cell? ⟨w.heap.size, 0, none⟩ = some (.slice a n c) ∧ Z.cell? ⟨w.heap.size, 1, none⟩ = some (.int .i64 E)) := fun Z k => ⟨k.cel (two_cells (heap_alloc_new w _)).1, k.cel (two_cells (heap_alloc_new w _)).2⟩
  obtain ⟨p0, p1⟩ := HC.out _ (Kept.refl _)
  clear hS hW
  have hcs : (¬ GoodT L E ∧ atI L E off = (0, false)) ∨ (GoodT L E ∧ E ≤ off ∧ atI L E off = (0, false)) ∨ (GoodT L E ∧ off < E ∧ atI L E off = if firstI L E ≤ off then (atF L off L.length, true) else (0, false)) := by
    by_cases hg : GoodT L E
    · by_cases h : off < E
      · refine .inr (.inr ⟨hg, h, ?_⟩)
        unfold atI
        by_cases h2 : firstI L E ≤ off
        · rw [if_pos ⟨hg, h2, h⟩, if_pos h2]
        · rw [if_neg (fun x => h2 x.2.1), if_neg h2]
      · exact .inr (.inl ⟨hg, by omega, if_neg (fun x => h x.2.2)⟩)
    · exact .inl ⟨hg, if_neg (fun x => hg x.1)⟩
  have HG := Lib.hid (fun W (kk : Kept w W) => ref_good a n c L E W (kk.sl HS.out) HW.out)
  rcases hcs with ⟨hg, hv⟩ | ⟨hg, h1, hv⟩ | ⟨hg, h1, hv⟩
  · rw [decide_eq_false hg] at HG
    rw [hv]
    clear hg hv
    go_enter Try.func34, Try.ntmps34
    go_wp2_with fail
    refine (HG.out _ K1).mono ?_
    rintro e V ⟨rfl, J⟩
    go_wp2
    exact bodyPost_ret (v := .tuple #[.int .i64 0, .bool false]) (by simp [results, Try.results34, go_sem]) rfl ⟨rfl, K1.trans J⟩
  · rw [decide_eq_true hg] at HG
    rw [hv]
    clear hg hv
    go_enter Try.func34, Try.ntmps34
    go_wp2_with fail
    refine (HG.out _ K1).mono ?_
    rintro e V ⟨rfl, J⟩
    clear p0 p1
    obtain ⟨p0, p1⟩ := HC.out _ J
    go_wp2
    exact bodyPost_ret (v := .tuple #[.int .i64 0, .bool false]) (by simp [results, Try.results34, go_sem]) rfl ⟨rfl, K1.trans J⟩
  · rw [decide_eq_true hg] at HG
    have HV := Lib.hid hv
    have HGd := Lib.hid hg
    clear hg hv
    go_enter Try.func34, Try.ntmps34
    go_wp2_with fail
    refine (HG.out _ K1).mono ?_
    rintro e V ⟨rfl, J⟩
    clear p0 p1
    obtain ⟨p0, p1⟩ := HC.out _ J
    go_wp2_with fail
    clear p0 p1
    go_loopw [6] (fun i wr => ∃ j : Nat, j ≤ n ∧ i = .int .i64 ((j : Int) - 1) ∧ Kept V wr ∧ Hid (atF L off n = atF L off j ∧ (j < n → off < ofI (L.getD j 0)))) (fun i _ => (intOf i + 1).toNat)
    case atStart => exact ⟨n, by omega, rfl, Kept.refl _, rfl, fun h => by omega⟩
    case round =>
      obtain ⟨j, hj, rfl, Kr, HJ⟩ := hrel
      obtain ⟨p0, p1⟩ := HC.out _ (J.trans Kr)
      cases j with
      | zero =>
        have ei : ((0 : Nat) : Int) - 1 = -1 := rfl
        rw [ei]
        have HF : Hid (atI L E off = (0, false)) := by
          unfold Hid
          rw [HV.out, if_neg]
          unfold firstI
          by_cases h0 : L = []
          · rw [if_pos h0]; omega
          · rw [if_neg h0]
            have := HJ.out.2 (by have := List.length_pos_iff.2 h0; omega)
            omega
        clear HJ HV ei
        go_wp2
        exact bodyPost_ret (v := .tuple #[.int .i64 0, .bool false]) (by simp [results, Try.results34, go_sem]) rfl ⟨by rw [HF.out], K1.trans (J.trans Kr)⟩
      | succ t =>
        have ei : ((t + 1 : Nat) : Int) - 1 = t := by push_cast; omega
        rw [ei]
        obtain ⟨b, o, x, rfl, hx, hxv⟩ := ((K1.trans (J.trans Kr)).sl HS.out).at t (by omega)
        have hb := HW.out t
        rw [← hxv.out] at hb
        obtain ⟨b0, b1⟩ := hb
        have hge : 0 ≤ (t : Int) := by omega
        have hlt : (t : Int) < n := by omega
        have hat := HJ.out.1
        rw [atF, ← hxv.out] at hat
        by_cases hle : ofI x ≤ off
        · rw [if_pos hle] at hat
          have HF : Hid (atI L E off = (epI x, true)) := by
            unfold Hid
            rw [HV.out, if_pos, hl, hat]
            unfold firstI
            rw [if_neg (by intro h; rw [h] at hl; simp at hl; omega)]
            rw [hxv.out] at hle
            rcases Nat.eq_zero_or_pos t with h | h
            · subst h; exact hle
            · have := off_lt HGd.out h (by omega); omega
          clear hat hxv HJ HV ei
          go_wp2_with fail
          refine (ref_off x _ b0 b1).mono ?_
          rintro e w' ⟨rfl, rfl⟩
          go_wp2_with fail
          refine (ref_epoch x _ b0 b1).mono ?_
          rintro e w' ⟨rfl, rfl⟩
          go_wp2
          exact bodyPost_ret (v := .tuple #[.int .i64 (epI x), .bool true]) (by simp [results, Try.results34, go_sem]) rfl ⟨by rw [HF.out], K1.trans (J.trans Kr)⟩
        · rw [if_neg hle] at hat
          have HA := Lib.hid hat
          have hle' : off < ofI x := by omega
          have HN : Hid (t < n → off < ofI (L.getD t 0)) := fun _ => by rw [← hxv.out]; exact hle'
          clear hat hxv HJ ei hle
          go_wp2_with fail
          refine (ref_off x _ b0 b1).mono ?_
          rintro e w' ⟨rfl, rfl⟩
          go_wp2
          go_roundw
          case rel => exact ⟨t, by omega, by go_num, Kr, HA.out, HN.out⟩
          case measure => (simp [intOf] <;> omega)
end Go.Proofs.Ytmkoabalakfehaa
