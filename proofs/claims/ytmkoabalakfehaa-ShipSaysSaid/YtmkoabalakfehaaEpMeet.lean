/- Index and Meet: up to where two tables are the same log. -/
import Derived.Test.YtmkoabalakfehaaEpGood
import Derived.Deep.RegionHeld3
set_option linter.unusedVariables false
set_option linter.unusedSimpArgs false
namespace Go.Proofs.Ytmkoabalakfehaa
open Go.RowKit
/-- the first place at which a word stands -/
def idxF (L : List Int) (s : Int) : Nat → Nat → Option Nat
  | 0, _ => none
  | f + 1, j => if L.getD j 0 = s then some j else idxF L s f (j + 1)
def idx (L : List Int) (s : Int) : Option Nat := idxF L s L.length 0
def optI : Option Nat → Int
  | some j => j
  | none => -1
theorem idxF_lt {L : List Int} {s : Int} : ∀ f j k, idxF L s f j = some k → j ≤ k ∧ k < j + f ∧ L.getD k 0 = s
  | 0, j, k, h => by cases h
  | f + 1, j, k, h => by
    unfold idxF at h
    split at h
    · injection h with h; subst h; exact ⟨Nat.le_refl _, by omega, by assumption⟩
    · have := idxF_lt f (j + 1) k h; exact ⟨by omega, by omega, this.2.2⟩
theorem idx_lt {L : List Int} {s : Int} {k : Nat} (h : idx L s = some k) : k < L.length ∧ L.getD k 0 = s := by
  have := idxF_lt _ _ _ h; exact ⟨by omega, this.2.2⟩
set_option maxHeartbeats 1000000 in
theorem ep_index (a : Option Addr) (n c : Nat) (L : List Int) (s : Int) (w : World) (hS : Sl .u64 w a n c L) :
    Calls Try.prog 45 #[.slice a n c, .int .u64 s] w fun e w' => e = .returned (.int .i64 (optI (idx L s))) ∧ w = w' := by
  have hl := hS.1
  have hnc := hS.2.1
  have hcm := hS.2.2.1
  unfold maxLen at hcm
  have HS := Lib.hid hS
  clear hS
  go_enter Try.func45, Try.ntmps45
  go_wp2_with fail
  go_loopw [8] (fun i wr => ∃ j : Nat, j ≤ n ∧ i = .int .i64 j ∧ wr = w ∧ Hid (idx L s = idxF L s (n - j) j)) (fun i _ => n - (intOf i).toNat)
  case atStart => exact ⟨0, by omega, (by first | rfl | trivial), (by first | rfl | trivial), (by unfold Hid idx; rw [hl]; rfl)⟩
  case round =>
    obtain ⟨j, hj, rfl, rfl, HI⟩ := hrel
    by_cases hlt : j < n
    · have hlt' : (j : Int) < n := by omega
      obtain ⟨b, o, x, rfl, hx, hxv⟩ := HS.out.at j hlt
      by_cases hq : s = x
      · have hb : (s == x) = true := by simp [hq]
        have hi := HI.out
        rw [show n - j = (n - (j + 1)) + 1 by omega, idxF, if_pos (by rw [← hxv.out, hq])] at hi
        have HF : Hid (optI (idx L s) = (j : Int)) := by unfold Hid; rw [hi]; rfl
        clear hq hi hxv
        go_wp2
        go_ret
        exact ⟨ret_int HF.out.symm, rfl⟩
      · have hb : (s == x) = false := by simp [hq]
        have hi := HI.out
        rw [show n - j = (n - (j + 1)) + 1 by omega, idxF, if_neg (by rw [← hxv.out]; exact fun h => hq h.symm)] at hi
        have HI2 := Lib.hid hi
        clear hq hi hxv
        go_wp2
        go_roundw
        case rel => exact ⟨j + 1, by omega, by go_num, (by first | trivial | rfl), HI2.out⟩
        case measure => simp [intOf]; omega
    · have hge : (n : Int) ≤ j := by omega
      have hi := HI.out
      rw [show n - j = 0 by omega, idxF] at hi
      have HF : Hid (optI (idx L s) = -1) := by unfold Hid; rw [hi]; rfl
      clear hi
      go_wp2
      go_ret
      exact ⟨ret_int HF.out.symm, rfl⟩
def meetGo (A B : List Int) (EA EB : Int) : Nat → Option Int
  | 0 => none
  | i + 1 => match idx B (A.getD i 0) with
    | some k => some (min (endsI A EA i) (endsI B EB k))
    | none => meetGo A B EA EB i
def meetI (A : List Int) (EA : Int) (B : List Int) (EB : Int) : Int :=
  if ¬ GoodT A EA ∨ ¬ GoodT B EB then 0 else match meetGo A B EA EB A.length with
    | some v => v
    | none => if firstI A EA = firstI B EB then firstI A EA else 0
theorem two_new3 (w : World) (a b : Obj) : ((w.alloc a).alloc b).heap[w.heap.size + 1]? = some b := by
  have := heap_alloc_new (w.alloc a) b
  simpa using this
set_option maxRecDepth 100000 in
set_option maxHeartbeats 4000000 in
theorem ep_meet (a b : Option Addr) (n c m d : Nat) (A B : List Int) (EA EB : Int) (w : World) (hA : Sl .u64 w a n c A) (hB : Sl .u64 w b m d B) (wA : IsW A) (wB : IsW B) :
    Calls Try.prog 31 #[.agg #[.slice a n c, .int .i64 EA], .agg #[.slice b m d, .int .i64 EB]] w fun e w' => e = .returned (.int .i64 (meetI A EA B EB)) ∧ Kept w w' := by
  have hla := hA.1
  have hlb := hB.1
  have hnc := hA.2.1
  have hmd := hB.2.1
  have hcm := hA.2.2.1
  have hdm := hB.2.2.1
  unfold maxLen at hcm hdm
  have HA := Lib.hid hA
  have HB := Lib.hid hB
  have WA := Lib.hid wA
  have WB := Lib.hid wB
  have KB : Kept w ((w.alloc (.cells #[.slice a n c, .int .i64 EA] 24)).alloc (.cells #[.slice b m d, .int .i64 EB] 24)) := (((Only.refl [] w).alloc _).alloc _).kept
  have hQ := two_new3 w (.cells #[.slice a n c, .int .i64 EA] 24) (.cells #[.slice b m d, .int .i64 EB] 24)
  have hP := (((Only.refl [] (w.alloc (.cells #[.slice a n c, .int .i64 EA] 24))).alloc (.cells #[.slice b m d, .int .i64 EB] 24)).kept).only.heap (heap_alloc_new w (.cells #[.slice a n c, .int .i64 EA] 24)) (by simp)
  have HC : Hid (∀ V, Kept ((w.alloc (.cells #[.slice a n c, .int .i64 EA] 24)).alloc (.cells #[.slice b m d, .int .i64 EB] 24)) V → V.cell? ⟨w.heap.size, 0, none⟩ = some (.slice a n c) ∧ V.cell? ⟨w.heap.size, 1, none⟩ = some (.int .i64 EA) ∧ V.cell? ⟨w.heap.size + 1, 0, none⟩ = some (.slice b m d) ∧ V.cell? ⟨w.heap.size + 1, 1, none⟩ = some (.int .i64 EB)) := fun V k => ⟨k.cel (at_cell hP 0 _ rfl), k.cel (at_cell hP 1 _ rfl), k.cel (at_cell hQ 0 _ rfl), k.cel (at_cell hQ 1 _ rfl)⟩
  have C0 := HC.out _ (Kept.refl _)
  clear hA hB wA wB hQ hP
  by_cases gA : GoodT A EA
  · have dA : Hid (decide (GoodT A EA) = true) := decide_eq_true gA
    by_cases gB : GoodT B EB
    · have dB : Hid (decide (GoodT B EB) = true) := decide_eq_true gB
      have hM : meetI A EA B EB = match meetGo A B EA EB A.length with
          | some v => v
          | none => if firstI A EA = firstI B EB then firstI A EA else 0 := if_neg (by rintro (h | h); exact h gA; exact h gB)
      have HM := Lib.hid hM
      clear gA gB hM
      obtain ⟨p0, p1, q0, q1⟩ := C0
      go_enter Try.func31, Try.ntmps31
      go_wp2_with fail
      clear p0 p1 q0 q1
      generalize World.alloc (World.alloc w _) _ = W at *
      refine (ep_good a n c A EA W (KB.sl HA.out) WA.out).mono ?_
      rintro e V1 ⟨rfl, K1⟩
      rw [dA.out]
      have C1 := HC.out _ K1
      obtain ⟨p0, p1, q0, q1⟩ := C1
      go_wp2_with fail
      clear p0 p1 q0 q1
      refine (ep_good b m d B EB V1 ((KB.trans K1).sl HB.out) WB.out).mono ?_
      rintro e V2 ⟨rfl, K2⟩
      rw [dB.out]
      have K12 := K1.trans K2
      have C2 := HC.out _ K12
      clear K1 K2
      obtain ⟨p0, p1, q0, q1⟩ := C2
      go_wp2_with fail
      clear p0 p1 q0 q1
      go_loopw [5] (fun i wr => ∃ j : Nat, j ≤ n ∧ i = .int .i64 ((j : Int) - 1) ∧ Kept W wr ∧ Hid (meetGo A B EA EB A.length = meetGo A B EA EB j)) (fun i _ => (intOf i + 1).toNat)
      case atStart => exact ⟨n, by omega, rfl, K12, by unfold Hid; rw [hla]⟩
      case round =>
        obtain ⟨j, hj, rfl, Kr, HJ⟩ := hrel
        have CR := HC.out _ Kr
        obtain ⟨p0, p1, q0, q1⟩ := CR
        cases j with
        | zero =>
          have ei : ((0 : Nat) : Int) - 1 = -1 := rfl
          rw [ei]
          have hgo := HJ.out
          rw [meetGo] at hgo
          have HV0 : Hid (meetI A EA B EB = if firstI A EA = firstI B EB then firstI A EA else 0) := by
            unfold Hid
            rw [HM.out, hgo]
          clear hgo HJ ei hj
          go_wp2_with fail
          clear p0 p1 q0 q1
          have KD : Kept wr wr.drew := (Kept.refl _).dr ⟨1, rfl⟩
          have tok : Hid True := trivial
          go_region_held3 (fun w' => w'.cell? ⟨w.heap.size, 0, none⟩ = some (.slice a n c) ∧ w'.cell? ⟨w.heap.size, 1, none⟩ = some (.int .i64 EA) ∧ w'.cell? ⟨w.heap.size + 1, 0, none⟩ = some (.slice b m d) ∧ w'.cell? ⟨w.heap.size + 1, 1, none⟩ = some (.int .i64 EB)) (first | exact HC.out _ (Kr.trans KD)) (first | (go_at_call 39; replace tok := tok; clear tok; refine (tbl_first a n c A EA _ ((KB.trans (Kr.trans KD)).sl HA.out) WA.out).mono ?_; rintro e V' ⟨rfl, J⟩; replace KD := KD.trans J; clear J) | (go_at_call 39; refine (tbl_first b m d B EB _ ((KB.trans (Kr.trans KD)).sl HB.out) WB.out).mono ?_; rintro e V' ⟨rfl, J⟩; replace KD := KD.trans J; clear J))
          by_cases hf : firstI A EA = firstI B EB
          · have hfb : (firstI A EA == firstI B EB) = true := by simp [hf]
            have HV1 : Hid (meetI A EA B EB = firstI A EA) := by unfold Hid; rw [HV0.out, if_pos hf]
            have CV := HC.out _ (Kr.trans KD)
            clear hf
            obtain ⟨p0, p1, q0, q1⟩ := CV
            go_wp2_with fail
            refine (tbl_first a n c A EA _ ((KB.trans (Kr.trans KD)).sl HA.out) WA.out).mono ?_
            rintro e V3 ⟨rfl, J⟩
            go_wp2
            go_ret
            exact ⟨ret_int HV1.out.symm, KB.trans ((Kr.trans KD).trans J)⟩
          · have hfb : (firstI A EA == firstI B EB) = false := by simp [hf]
            have HV1 : Hid (meetI A EA B EB = 0) := by unfold Hid; rw [HV0.out, if_neg hf]
            clear hf
            go_wp2
            go_ret
            exact ⟨ret_int HV1.out.symm, KB.trans (Kr.trans KD)⟩
        | succ t =>
          have ei : ((t + 1 : Nat) : Int) - 1 = t := by push_cast; omega
          rw [ei]
          obtain ⟨b', o, x, rfl, hx, hxv⟩ := ((KB.trans Kr).sl HA.out).at t (by omega)
          have HX : Hid (A.getD t 0 = x) := hxv.out.symm
          have hge : 0 ≤ (t : Int) := by omega
          have hlt : (t : Int) < n := by omega
          have HI := Lib.hid (fun k => ep_index b m d B x (wr.drewN k) ((((KB.trans Kr).dr ((Dr.refl wr).drewN k))).sl HB.out))
          have hgo := HJ.out
          rw [meetGo, HX.out] at hgo
          clear hxv ei HJ
          cases hk : idx B x with
          | none =>
            rw [hk] at hgo
            have HG := Lib.hid hgo
            have HI2 : Hid (∀ k, Calls Try.prog 45 #[.slice b m d, .int .u64 x] (wr.drewN k) fun e w' => e = .returned (.int .i64 (-1)) ∧ wr.drewN k = w') := by
              intro k; have := HI.out k; rw [hk] at this; exact this
            clear HI hgo hk
            go_wp2_with fail
            go_quiet ((go_at_call 45; exact Calls.quiet_of_same (unflip (HI2.out _))))
            go_wp2
            go_roundw
            case rel => exact ⟨t, by omega, by go_num, Kr.dr ((Dr.refl _).drewN _), HG.out⟩
            case measure => (simp [intOf] <;> omega)
          | some k0 =>
            have hk0 := idx_lt hk
            have hk1 : (k0 : Int) < m := by omega
            rw [hk] at hgo
            have HG := Lib.hid hgo
            have HI2 : Hid (∀ k, Calls Try.prog 45 #[.slice b m d, .int .u64 x] (wr.drewN k) fun e w' => e = .returned (.int .i64 (k0 : Int)) ∧ wr.drewN k = w') := by
              intro k; have := HI.out k; rw [hk] at this; exact this
            clear HI hgo hk
            go_wp2_with fail
            go_quiet ((go_at_call 45; exact Calls.quiet_of_same (unflip (HI2.out _))))
            generalize hV : World.drewN wr _ = V
            have KV : Kept W V := hV ▸ Kr.dr ((Dr.refl wr).drewN _)
            clear hV HI2 p0 p1 q0 q1
            have CV := HC.out _ KV
            obtain ⟨p0, p1, q0, q1⟩ := CV
            go_wp2_with fail
            clear p0 p1 q0 q1
            have KD : Kept V V.drew := (Kept.refl _).dr ⟨1, rfl⟩
            have tok : Hid True := trivial
            go_region_held3 (fun w' => w'.cell? ⟨w.heap.size, 0, none⟩ = some (.slice (some ⟨b', o, none⟩) n c) ∧ w'.cell? ⟨w.heap.size, 1, none⟩ = some (.int .i64 EA) ∧ w'.cell? ⟨w.heap.size + 1, 0, none⟩ = some (.slice b m d) ∧ w'.cell? ⟨w.heap.size + 1, 1, none⟩ = some (.int .i64 EB)) (first | exact HC.out _ (KV.trans KD)) (first | (go_at_call 46; replace tok := tok; clear tok; refine (tbl_ends (some ⟨b', o, none⟩) n c A EA t _ ((KB.trans (KV.trans KD)).sl HA.out) WA.out (by omega)).mono ?_; rintro e V' ⟨rfl, J⟩; replace KD := KD.trans J; clear J) | (go_at_call 46; refine (tbl_ends b m d B EB k0 _ ((KB.trans (KV.trans KD)).sl HB.out) WB.out (by omega)).mono ?_; rintro e V' ⟨rfl, J⟩; replace KD := KD.trans J; clear J))
            have hV : meetI A EA B EB = min (endsI A EA t) (endsI B EB k0) := by
              rw [HM.out, HG.out]
            by_cases hlt3 : endsI B EB k0 < endsI A EA t
            · have HV : Hid (meetI A EA B EB = endsI B EB k0) := by unfold Hid; rw [hV]; omega
              clear hV
              go_wp2
              go_ret
              exact ⟨ret_int HV.out.symm, KB.trans (KV.trans KD)⟩
            · have HV : Hid (meetI A EA B EB = endsI A EA t) := by unfold Hid; rw [hV]; omega
              clear hV
              go_wp2
              go_ret
              exact ⟨ret_int HV.out.symm, KB.trans (KV.trans KD)⟩
    · have dB : Hid (decide (GoodT B EB) = false) := decide_eq_false gB
      have HM : Hid (meetI A EA B EB = 0) := if_pos (.inr gB)
      clear gA gB
      obtain ⟨p0, p1, q0, q1⟩ := C0
      go_enter Try.func31, Try.ntmps31
      go_wp2_with fail
      clear p0 p1 q0 q1
      generalize World.alloc (World.alloc w _) _ = W at *
      refine (ep_good a n c A EA W (KB.sl HA.out) WA.out).mono ?_
      rintro e V1 ⟨rfl, K1⟩
      rw [dA.out]
      have C1 := HC.out _ K1
      obtain ⟨p0, p1, q0, q1⟩ := C1
      go_wp2_with fail
      clear p0 p1 q0 q1
      refine (ep_good b m d B EB V1 ((KB.trans K1).sl HB.out) WB.out).mono ?_
      rintro e V2 ⟨rfl, K2⟩
      rw [dB.out]
      go_wp2
      go_ret
      exact ⟨ret_int HM.out.symm, (KB.trans K1).trans K2⟩
  · have dA : Hid (decide (GoodT A EA) = false) := decide_eq_false gA
    have HM : Hid (meetI A EA B EB = 0) := if_pos (.inl gA)
    clear gA
    obtain ⟨p0, p1, q0, q1⟩ := C0
    go_enter Try.func31, Try.ntmps31
    go_wp2_with fail
    clear p0 p1 q0 q1
    generalize World.alloc (World.alloc w _) _ = W at *
    refine (ep_good a n c A EA W (KB.sl HA.out) WA.out).mono ?_
    rintro e V1 ⟨rfl, K1⟩
    rw [dA.out]
    go_wp2
    go_ret
    exact ⟨ret_int HM.out.symm, KB.trans K1⟩
end Go.Proofs.Ytmkoabalakfehaa
