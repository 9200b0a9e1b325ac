/- EpochsTells: At tells the epoch of every record, behind a Cut too. -/
import Derived.Test.YtfblkdecbjplbaaEpTellsMath
import Derived.Test.YtfblkdecbjplbaaEpCut2
import Derived.Test.YtfblkdecbjplbaaEpAwake
import Derived.Test.YtfblkdecbjplbaaEpochsMeetsLaw
import Derived.Test.YtfblkdecbjplbaaTy
import Derived.Deep.CutRange
set_option linter.unusedVariables false
set_option linter.unusedSimpArgs false
namespace Go.Proofs.Ytfblkdecbjplbaa
open Go.RowKit
theorem and3_u8 (v : Int) (h0 : 0 ≤ v) (h1 : v ≤ 255) : bits BinOp.and IntKind.u8 v 3 = v % 4 := by
  have h : ∀ n : Fin 256, bits BinOp.and IntKind.u8 (n.val : Int) 3 = (n.val : Int) % 4 := by decide +kernel
  have := h ⟨v.toNat, by omega⟩
  rwa [show ((v.toNat : Nat) : Int) = v by omega] at this
/-- what Cut makes of the table of a log, whatever the place -/
theorem ep_cut_log (a : Option Addr) (n c : Nat) (l : List Int) (e cut : Int) (w : World) (hr : Runs l e) (he : e ≤ 1000) (hn : l.length ≤ 1000) (hS : Sl .u64 w a n c (tabL l l.length)) :
    Calls Try.prog 12 #[.agg #[.slice a n c, .int .i64 (l.length : Int)], .int .i64 cut] w fun E w' => ∃ a' n' c' T' E' fine, E = .returned (.tuple #[.agg #[.slice a' n' c', .int .i64 E'], .bool fine]) ∧ Sl .u64 w' a' n' c' T' ∧ IsW T' ∧ fine = decide (0 ≤ cut ∧ cut ≤ l.length) ∧ (fine = true → ∀ i, i < l.length → ((i : Int) < cut → atI T' E' i = (epI (l.getD i 0), true)) ∧ (¬ (i : Int) < cut → (atI T' E' i).2 = false)) ∧ Kept w w' := by
  have hg := full_good hr he hn
  have hf := first_tab hr
  rw [runs_end hr] at hg hf
  have hW : IsW (tabL l l.length) := isW_of_mem fun z hz => isW_mem (runs_isW hr he) z (tabL_mem _ _ (Nat.le_refl _) z hz)
  by_cases c0 : 0 ≤ cut
  · by_cases c1 : cut ≤ l.length
    · obtain ⟨k, hk, h1, h2⟩ := cut_at hg cut (tabL l l.length).length (Nat.le_refl _)
      have hl := hS.1
      refine (ep_cut_yes a n c k (tabL l l.length) l.length cut w hS hW hg (by omega) c1 (by omega) h1 (fun j h3 h4 => h2 j h3 (by omega)) (by have := tabL_len l l.length; omega)).mono ?_
      rintro E w' ⟨a', c', rfl, hS', K⟩
      refine ⟨a', k, c', _, cut, true, rfl, hS', isW_of_mem fun z hz => isW_mem hW z (List.mem_of_mem_take hz), by simp [c0, c1], fun _ i hi => ?_, K⟩
      exact tell_cut hr he hn cut c0 c1 k hk h1 h2 i hi
    · refine (ep_cut_above a n c (tabL l l.length) l.length cut w hS hW hg (by omega) (by omega)).mono ?_
      rintro E w' ⟨rfl, K⟩
      exact ⟨none, 0, 0, [], 0, false, rfl, sl_nil _ _, fun i => by simp, by simp [c1], (fun h => by cases h), K⟩
  · refine (ep_cut_below a n c (tabL l l.length) l.length cut w hS hW hg (by omega)).mono ?_
    rintro E w' ⟨rfl, K⟩
    exact ⟨none, 0, 0, [], 0, false, rfl, sl_nil _ _, fun i => by simp, by simp [c0], (fun h => by cases h), K⟩
set_option maxRecDepth 100000 in
set_option maxHeartbeats 4000000 in
theorem epTells_walk (a : Option Addr) (n ca : Nat) (zs : List Int) (cut : Int) (w : World) (hz : Sl .u8 w a n ca zs) (Bz : IsB zs) (hn : n ≤ 40) :
    Calls Try.prog 5 #[.slice a n ca, .int .i64 cut] w fun e w' => e = .returned (.bool true) ∧ Kept w w' := by
  have HZ := Lib.hid hz
  have HBz := Lib.hid Bz
  have i1 : n ≤ ca := hz.2.1
  have i2 := hz.2.2.1
  unfold maxLen at i2
  have hnI : (n : Int) ≤ 40 := by omega
  clear hz Bz
  go_enter Try.func5, Try.ntmps5
  go_wp2_with fail
  refine (awake8 _).mono ?_
  rintro e w1 ⟨rfl, K1⟩
  go_wp2_with fail
  go_loopw [5, 6, 7] (fun sa ep i wr => ∃ (j : Nat) (C : List Int) (e : Int) (aa : Option Addr) (cc : Nat) (ga : Option Nat), sa = .slice aa j cc ∧ ep = .int .i64 e ∧ i = .int .i64 j ∧ j ≤ n ∧ Hid (App wr 26 1 (.slice aa j cc) j ga (wordsV C)) ∧ Hid (Fr w ga none) ∧ Kept w wr ∧ Hid (Runs C e) ∧ 1 ≤ e ∧ e ≤ 1 + j ∧ Hid (C.length = j))
    (fun _ _ i _ => n - (intOf i).toNat)
  case atStart => exact ⟨0, [], 1, none, 0, none, rfl, rfl, rfl, by omega, app_nil _ _ _, ⟨by simp, by simp, by simp⟩, K1, runs_nil _, by omega, by omega, rfl⟩
  case round =>
    obtain ⟨j, C, e, aa, cc, ga, rfl, rfl, rfl, hj, HA, HF, Kj, HRu, he1, he2, HCl⟩ := hrel
    by_cases hlt : j < n
    · have hlt' : (j : Int) < n := by omega
      obtain ⟨b', o', z, rfl, hzc, hzv⟩ := (Kj.sl HZ.out).at j hlt
      have hzb := HBz.out j
      rw [← hzv.out] at hzb
      obtain ⟨z0, z1⟩ := hzb
      have hbt := and3_u8 z z0 z1
      have hz2 : 0 ≤ z % 4 ∧ z % 4 ≤ 3 := by omega
      generalize z % 4 = r at *
      obtain ⟨q, hq⟩ : ∃ q, r.tdiv 2 = q := ⟨_, rfl⟩
      have hq2 : 0 ≤ q ∧ q ≤ 1 := by
        have : r = 0 ∨ r = 1 ∨ r = 2 ∨ r = 3 := by omega
        rcases this with h | h | h | h <;> (subst h; subst hq; decide)
      obtain ⟨q0, q1⟩ := hq2
      obtain ⟨r0, r1⟩ := hz2
      clear hzv
      obtain ⟨v, hv⟩ : ∃ v, (e + q) * 17592186044416 + (j : Int) = v := ⟨_, rfl⟩
      have HV := Lib.hid hv
      clear hv
      go_wp2_with (first
        | (go_at_call 8; refine (ep_at (e + q) j v _ HV.out (by omega) (by omega) (by omega) (by omega)).mono ?_; rintro E w' ⟨rfl, rfl⟩)
        | (at_builtin; refine wpList_app rfl (.tmp 37) (.tmp 41) 24 24 rfl elemW _ j _ _ rfl ((kept_al wr _).only.app HA.out (by simp)) _ 1 _ rfl (src_sl Try.underlying24 (sl_lit .u64 wr 26 (0, 0) [v] 1 rfl (by unfold maxLen; omega))) (by omega) (by unfold maxLen; omega) ?_; intro a5 c5 g5 w5 hA5 hO5 hG5; have HA5 := Lib.hid hA5; have HO5 := Lib.hid (one_more (D := []) rfl Kj HF.out (app_nil _ _ _) hO5 hG5); clear hA5 hO5 hG5))
      go_roundw
      case rel =>
        have hr := runs_snoc HRu.out (show e ≤ e + q by omega) (by omega) (by rw [HCl.out]; omega)
        rw [HCl.out, HV.out] at hr
        exact ⟨j + 1, C ++ [v], e + q, a5, c5, g5, rfl, rfl, by go_num, by omega, (by unfold Hid; simpa [wordsV] using HA5.out), HO5.out.2.2, HO5.out.1, hr, by omega, by push_cast; omega, (by unfold Hid; simp [HCl.out])⟩
      case measure => simp [intOf]; omega
    · have hge : (n : Int) ≤ j := by omega
      obtain rfl : j = n := by omega
      have hsa := (app_slk (k := .u64) (xs := C) HA.out).1
      have oa : ofI (C.getD 0 0) + (j : Int) ≤ 17592186044416 := by
        by_cases h0 : 0 < C.length
        · have := (HRu.out.1 0 h0).1; omega
        · rw [List.getD_eq_getElem?_getD, List.getElem?_eq_none (by omega)]; simp [ofI]; omega
      have hO := ep_of aa j cc C wr hsa (runs_isW HRu.out (by omega)) (runs_rises HRu.out) oa (by omega)
      rw [runs_end HRu.out, HCl.out] at hO
      have HOA := Lib.hid hO
      have HSA := Lib.hid hsa
      have HEn := Lib.hid (fun V a1 n1 c1 (hs : Sl .u64 V a1 n1 c1 (tabL C j)) => by
        have := ep_cut_log a1 n1 c1 C e cut V HRu.out (by omega) (by rw [HCl.out]; omega) (by rw [HCl.out]; exact hs)
        rwa [HCl.out] at this)
      have HTf := Lib.hid (fun i (hi : i < j) => by
        have := tell_full HRu.out (show e ≤ 1000 by omega) (by rw [HCl.out]; omega) i (by rw [HCl.out]; exact hi)
        rwa [HCl.out, runs_end HRu.out, HCl.out] at this)
      have HWt : Hid (IsW (tabL C j)) := isW_of_mem fun z hz => isW_mem (runs_isW HRu.out (by omega)) z (tabL_mem _ _ (by rw [HCl.out]; exact Nat.le_refl _) z hz)
      have HWC : Hid (IsW C) := runs_isW HRu.out (by omega)
      have hjcc := hsa.2.1
      have hccm := hsa.2.2.1
      unfold maxLen at hccm
      clear hO hsa oa HA HF HRu
      go_wp2_with fail
      refine HOA.out.mono ?_
      rintro E V1 ⟨a1, n1, c1, rfl, hS1, J1⟩
      have HB1 := Lib.hid (heap_alloc_new V1 (.cells #[.slice a1 n1 c1, .int .i64 (j : Int)] 29))
      have HS1 := Lib.hid ((kept_al V1 (.cells #[.slice a1 n1 c1, .int .i64 (j : Int)] 29)).sl hS1)
      have K4 := J1.trans (kept_al V1 (.cells #[.slice a1 n1 c1, .int .i64 (j : Int)] 29))
      obtain ⟨p0, p1⟩ := two_cells HB1.out
      have tjj : ((j : Int) != j) = false := by simp
      clear hS1 J1
      go_wp2_with fail
      clear p0 p1
      generalize World.alloc V1 _ = W1 at *
      refine (HEn.out _ a1 n1 c1 HS1.out).mono ?_
      rintro E V2 ⟨a2, n2, c2, TU, EU, fine, rfl, hS2, hWU, hfine, hF, J2⟩
      have HFi := Lib.hid hF
      have HFN := Lib.hid hfine
      clear hfine
      have HS2 := Lib.hid ((kept_al V2 (.cells #[.slice a2 n2 c2, .int .i64 EU] 29)).sl hS2)
      have HWU := Lib.hid hWU
      have HB2 := Lib.hid (heap_alloc_new V2 (.cells #[.slice a2 n2 c2, .int .i64 EU] 29))
      have K5 := J2.trans (kept_al V2 (.cells #[.slice a2 n2 c2, .int .i64 EU] 29))
      have HC : Hid (∀ Z, Kept (V2.alloc (.cells #[.slice a2 n2 c2, .int .i64 EU] 29)) Z → (Z.cell? ⟨V1.heap.size, 0, none⟩ = some (.slice a1 n1 c1) ∧ Z.cell? ⟨V1.heap.size, 1, none⟩ = some (.int .i64 (j : Int))) ∧ (Z.cell? ⟨V2.heap.size, 0, none⟩ = some (.slice a2 n2 c2) ∧ Z.cell? ⟨V2.heap.size, 1, none⟩ = some (.int .i64 EU))) := fun Z kk => ⟨⟨(K5.trans kk).cel (two_cells HB1.out).1, (K5.trans kk).cel (two_cells HB1.out).2⟩, ⟨kk.cel (two_cells HB2.out).1, kk.cel (two_cells HB2.out).2⟩⟩
      have KW := (Kj.trans K4).trans K5
      have HSl := Lib.hid ((K4.trans K5).sl HSA.out)
      have HSt := Lib.hid (K5.sl HS1.out)
      clear hF hS2 hWU J2
      go_upto_region 16 with fail
      generalize World.alloc V2 _ = W2 at *
      have C0 := HC.out _ (Kept.refl _)
      obtain ⟨⟨p0, p1⟩, ⟨q0, q1⟩⟩ := C0
      go_cut [11, 81] from 22 to 81 (fun s11 s wx => s11 = .bool fine ∧ s = .bool false ∧ wx = W2)
      case first =>
        by_cases c0 : 0 ≤ cut
        · have d0 : decide (0 ≤ cut) = true := decide_eq_true c0
          by_cases c1 : cut ≤ j
          · have d1 : decide (cut ≤ (j : Int)) = true := decide_eq_true c1
            have hfv : fine = true := by rw [HFN.out]; simp [c0, c1]
            subst hfv
            by_cases c2 : 0 < j
            · have d2 : decide (0 < j) = true := decide_eq_true c2
              have d3 : decide (0 < (j : Int)) = true := decide_eq_true (by omega)
              clear HFN c0 c1 c2
              go_wp2_with fail
              go_meet
              case rel => exact ⟨rfl, by first | rfl | simp, rfl⟩
            · have hc0 : cut = 0 := by omega
              have d2 : decide (0 < j) = false := decide_eq_false c2
              have d3 : decide (0 < (j : Int)) = false := decide_eq_false (by omega)
              have d4 : (cut == 0) = true := by simp [hc0]
              clear HFN c0 c1 c2 hc0
              go_wp2_with fail
              go_meet
              case rel => exact ⟨rfl, by first | rfl | simp, rfl⟩
          · have d1 : decide (cut ≤ (j : Int)) = false := decide_eq_false c1
            have hfv : fine = false := by rw [HFN.out]; simp [c1]
            subst hfv
            clear HFN c0 c1
            go_wp2_with fail
            go_meet
            case rel => exact ⟨rfl, by first | rfl | simp, rfl⟩
        · have d0 : decide (0 ≤ cut) = false := decide_eq_false c0
          have hfv : fine = false := by rw [HFN.out]; simp [c0]
          subst hfv
          clear HFN c0
          go_wp2_with fail
          go_meet
          case rel => exact ⟨rfl, by first | rfl | simp, rfl⟩
      case rest =>
        obtain ⟨rfl, rfl, hw⟩ := hcut
        rw [hw]
        clear hw p0 p1 q0 q1 HFN
        go_wp2_with fail
        go_loopw [12] (fun i wr => ∃ t : Nat, t ≤ j ∧ i = .int .i64 t ∧ Kept W2 wr) (fun i _ => j - (intOf i).toNat)
        case atStart => exact ⟨0, by omega, rfl, Kept.refl _⟩
        case round =>
          obtain ⟨t, ht, rfl, Kr⟩ := hrel
          by_cases hlt2 : t < j
          · have hlt2' : (t : Int) < j := by omega
            obtain ⟨b', o', x, rfl, hx, hxv⟩ := (Kr.sl HSl.out).at t hlt2
            have hb := HWC.out t
            rw [← hxv.out] at hb
            obtain ⟨x0, x1⟩ := hb
            have h1 := ep_tell a1 n1 c1 (tabL C j) j t wr (Kr.sl HSt.out) HWt.out
            rw [HTf.out t hlt2, ← hxv.out] at h1
            have HT1 := Lib.hid h1
            have HXV := Lib.hid hxv.out
            have HXc := Lib.hid hx
            have tee : (epI x != epI x) = false := by simp
            have CR := HC.out _ Kr
            clear h1 hxv hx
            obtain ⟨⟨p0, p1⟩, ⟨q0, q1⟩⟩ := CR
            go_wp2_with fail
            clear p0 p1 q0 q1
            refine HT1.out.mono ?_
            rintro E V3 ⟨rfl, J3⟩
            dsimp only
            have K3 := Kr.trans J3
            have C3 := HC.out _ K3
            obtain ⟨⟨p0, p1⟩, ⟨q0, q1⟩⟩ := C3
            go_wp2_with fail
            clear p0 p1 q0 q1
            refine (ep_tell a2 n2 c2 TU EU t V3 (K3.sl HS2.out) HWU.out).mono ?_
            rintro E V4 ⟨rfl, J4⟩
            have K4' := K3.trans J4
            have hxc := (J3.trans J4).cel HXc.out
            cases fine
            · generalize atI TU EU (t : Int) = fi at *
              obtain ⟨f, is2⟩ := fi
              dsimp only
              go_wp2_with fail
              refine (stamp_epoch x _ x0 x1).mono ?_
              rintro E w' ⟨rfl, rfl⟩
              go_wp2
              go_roundw
              case rel => exact ⟨t + 1, by omega, by go_num, K4'⟩
              case measure => simp [intOf]; omega
            · have hF := HFi.out rfl t hlt2
              by_cases hc : (t : Int) < cut
              · have h5 := hF.1 hc
                rw [← HXV.out] at h5
                rw [h5]
                have hd : decide ((t : Int) < cut) = true := decide_eq_true hc
                clear hF h5 hc
                dsimp only
                go_wp2_with fail
                refine (stamp_epoch x _ x0 x1).mono ?_
                rintro E w' ⟨rfl, rfl⟩
                go_wp2
                go_roundw
                case rel => exact ⟨t + 1, by omega, by go_num, K4'⟩
                case measure => simp [intOf]; omega
              · have h5 := hF.2 (by omega)
                have hd : decide ((t : Int) < cut) = false := decide_eq_false hc
                generalize atI TU EU (t : Int) = fi at *
                obtain ⟨f, is2⟩ := fi
                dsimp only at h5
                subst h5
                clear hF hc
                dsimp only
                go_wp2_with fail
                refine (stamp_epoch x _ x0 x1).mono ?_
                rintro E w' ⟨rfl, rfl⟩
                go_wp2
                go_roundw
                case rel => exact ⟨t + 1, by omega, by go_num, K4'⟩
                case measure => simp [intOf]; omega
          · have hge2 : (j : Int) ≤ t := by omega
            go_wp2
            go_ret
            exact ⟨rfl, KW.trans Kr⟩
set_option maxRecDepth 100000 in
set_option maxHeartbeats 1000000 in
theorem epochsTells_law (v0 v1 : Value) (x0 : List Int) (x1 : Int) (w : World) (w0 : RepV w (.sl (.int .u8)) v0 x0) (w1 : RepV w (.int .i64) v1 x1) :
    Calls Try.prog 5 #[v0, v1] w fun e w' => e = .returned (.bool true) ∧ Below w.heap.size w w' := by
  obtain ⟨a, n, ca, rfl, h0⟩ := repV_sl w0
  obtain ⟨rfl, _⟩ := repV_int w1
  obtain ⟨s0, b0⟩ := slT_int h0
  by_cases c0 : 40 < (n : Int)
  · clear w0 w1 h0 s0 b0
    go_enter Try.func5, Try.ntmps5
    go_wp2_with fail
    refine (awake8 _).mono ?_
    rintro e w1 ⟨rfl, K1⟩
    go_wp2
    go_ret
    exact ⟨rfl, K1⟩
  · exact epTells_walk a n ca x0 x1 w s0 (isB_of_mem fun x hx => wf_bd_u8 (b0 x hx)) (by omega)
end Go.Proofs.Ytfblkdecbjplbaa
