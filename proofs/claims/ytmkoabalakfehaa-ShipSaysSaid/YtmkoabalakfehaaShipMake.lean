/- ship.Make. -/
import Derived.Test.YtmkoabalakfehaaShipRec
import Derived.Deep.Cut
import Derived.Deep.CutRange
set_option linter.unusedVariables false
set_option linter.unusedSimpArgs false
namespace Go.Proofs.Ytmkoabalakfehaa
open Go.RowKit
set_option maxRecDepth 100000 in
set_option maxHeartbeats 4000000 in
theorem ship_make (s : SV) (a : Option Addr) (n c : Nat) (T : List Int) (E : Int) (la : Option Addr) (ln lc : Nat) (R : List RV) (w : World) (hT : Sl .u64 w a n c T) (wT : IsW T) (hR : SlQ w la ln lc R) (hnx : -9223372036854775808 ≤ s.nx) :
    Calls Try.prog 14 #[s.v, .agg #[.slice a n c, .int .i64 E], .slice la ln lc] w fun e w' => ∃ a' c', e = .returned (.tuple #[.agg (makeM s T E R a' c').cs, .int .i64 (makeE s T E R)]) ∧ (GoodT T E → SlQ w' a' (pickQ (offM s E) 0 R).length c' (pickQ (offM s E) 0 R)) ∧ Kept w w' := by
  obtain ⟨who, ep, nx, ak⟩ := s
  dsimp only at hnx
  have hl := hR.1
  have hnc := hR.2.1
  have hcm := hR.2.2.1
  unfold maxLen at hcm
  obtain ⟨t1, ht1⟩ : ∃ t1, IntKind.i64.wrap (1 - who) = t1 := ⟨_, rfl⟩
  have Ht1 := Lib.hid ht1
  have HG := Lib.hid (fun W (kk : Kept w W) => ep_good a n c T E W (kk.sl hT) wT)
  have HA := Lib.hid (fun W off (kk : Kept w W) => ep_tell a n c T E off W (kk.sl hT) wT)
  have HR := Lib.hid hR
  have K : Kept w (((w.alloc (.cells #[.int .i64 who, .int .i64 ep, .int .i64 nx, .int .i64 ak] 29)).alloc (.cells #[.slice a n c, .int .i64 E] 24)).alloc (.cells #[.int .i64 0, .int .i64 0, .int .i64 0, .int .i64 0, .int .i64 0, .int .i64 0, .slice none 0 0, .slice none 0 0, .int .i64 0] 36)) := ((kept_al w _).trans (kept_al _ _)).trans (kept_al _ _)
  have h0 : (((w.alloc (.cells #[.int .i64 who, .int .i64 ep, .int .i64 nx, .int .i64 ak] 29)).alloc (.cells #[.slice a n c, .int .i64 E] 24)).alloc (.cells #[.int .i64 0, .int .i64 0, .int .i64 0, .int .i64 0, .int .i64 0, .int .i64 0, .slice none 0 0, .slice none 0 0, .int .i64 0] 36)).heap[w.heap.size]? = some (.cells #[.int .i64 who, .int .i64 ep, .int .i64 nx, .int .i64 ak] 29 (0, 0)) := ((kept_al (w.alloc (.cells #[.int .i64 who, .int .i64 ep, .int .i64 nx, .int .i64 ak] 29)) _).trans (kept_al _ _)).only.heap (heap_alloc_new w _) (by simp)
  have h1 : (((w.alloc (.cells #[.int .i64 who, .int .i64 ep, .int .i64 nx, .int .i64 ak] 29)).alloc (.cells #[.slice a n c, .int .i64 E] 24)).alloc (.cells #[.int .i64 0, .int .i64 0, .int .i64 0, .int .i64 0, .int .i64 0, .int .i64 0, .slice none 0 0, .slice none 0 0, .int .i64 0] 36)).heap[w.heap.size + 1]? = some (.cells #[.slice a n c, .int .i64 E] 24 (0, 0)) := (kept_al _ _).only.heap (new_at _ (by simp)) (by simp)
  have h2 : (((w.alloc (.cells #[.int .i64 who, .int .i64 ep, .int .i64 nx, .int .i64 ak] 29)).alloc (.cells #[.slice a n c, .int .i64 E] 24)).alloc (.cells #[.int .i64 0, .int .i64 0, .int .i64 0, .int .i64 0, .int .i64 0, .int .i64 0, .slice none 0 0, .slice none 0 0, .int .i64 0] 36)).heap[w.heap.size + 2]? = some (.cells #[.int .i64 0, .int .i64 0, .int .i64 0, .int .i64 0, .int .i64 0, .int .i64 0, .slice none 0 0, .slice none 0 0, .int .i64 0] 36 (0, 0)) := new_at _ (by simp)
  have HszX : Hid ((((w.alloc (.cells #[.int .i64 who, .int .i64 ep, .int .i64 nx, .int .i64 ak] 29)).alloc (.cells #[.slice a n c, .int .i64 E] 24)).alloc (.cells #[.int .i64 0, .int .i64 0, .int .i64 0, .int .i64 0, .int .i64 0, .int .i64 0, .slice none 0 0, .slice none 0 0, .int .i64 0] 36)).heap.size = w.heap.size + 3) := by unfold Hid; simp
  have hsz : (((w.alloc (.cells #[.int .i64 who, .int .i64 ep, .int .i64 nx, .int .i64 ak] 29)).alloc (.cells #[.slice a n c, .int .i64 E] 24)).alloc (.cells #[.int .i64 0, .int .i64 0, .int .i64 0, .int .i64 0, .int .i64 0, .int .i64 0, .slice none 0 0, .slice none 0 0, .int .i64 0] 36)).heap.size = w.heap.size + 3 := by simp
  unfold SV.v
  dsimp only
  go_enter Try.func14, Try.ntmps14
  go_upto_region 1 with fail
  generalize hX : ((w.alloc (.cells #[.int .i64 who, .int .i64 ep, .int .i64 nx, .int .i64 ak] 29)).alloc (.cells #[.slice a n c, .int .i64 E] 24)).alloc (.cells #[.int .i64 0, .int .i64 0, .int .i64 0, .int .i64 0, .int .i64 0, .int .i64 0, .slice none 0 0, .slice none 0 0, .int .i64 0] 36) = X at *
  have HC : Hid (∀ V, Kept X V → V.heap[w.heap.size]? = some (.cells #[.int .i64 who, .int .i64 ep, .int .i64 nx, .int .i64 ak] 29 (0, 0)) ∧ V.heap[w.heap.size + 1]? = some (.cells #[.slice a n c, .int .i64 E] 24 (0, 0)) ∧ V.heap[w.heap.size + 2]? = some (.cells #[.int .i64 0, .int .i64 0, .int .i64 0, .int .i64 0, .int .i64 0, .int .i64 0, .slice none 0 0, .slice none 0 0, .int .i64 0] 36 (0, 0))) := fun V kk => ⟨kk.only.heap h0 (by simp), kk.only.heap h1 (by simp), kk.only.heap h2 (by simp)⟩
  obtain ⟨s0, s1, s2, s3⟩ := four_cells h0
  obtain ⟨b0, b1⟩ := two_cells h1
  clear h0 h1 h2 hR hT wT
  go_cut [8] from 11 to 73 (fun p wx => ∃ off, Hid (off = min nx E) ∧ p = .pointer (some ⟨w.heap.size + 3, 0, none⟩) ∧ X.alloc (.cells #[.int .i64 1, .int .i64 who, .int .i64 t1, .int .i64 ep, .int .i64 off, .int .i64 0, .slice none 0 0, .slice none 0 0, .int .i64 0] 36) = wx)
  case first =>
    go_wp2_with fail
    all_goals go_meet
    · exact ⟨_, by unfold Hid; omega, rfl, rfl⟩
    · exact ⟨_, by unfold Hid; omega, rfl, rfl⟩
  case rest =>
    obtain ⟨off, Hoff, rfl, hwc⟩ := hcut
    have KY : Kept X wc := hwc ▸ kept_al X _
    have hm : wc.heap[w.heap.size + 3]? = some (.cells #[.int .i64 1, .int .i64 who, .int .i64 t1, .int .i64 ep, .int .i64 off, .int .i64 0, .slice none 0 0, .slice none 0 0, .int .i64 0] 36 (0, 0)) := by rw [← hwc]; exact new_at _ hsz.symm
    have hszc : w.heap.size + 3 < wc.heap.size := lt_heap hm
    have ho2 : off ≤ E := by have := Hoff.out; omega
    clear s0 s1 s2 s3 b0 b1 hX
    clear hwc
    obtain ⟨h0, h1, h2⟩ := HC.out _ KY
    obtain ⟨b0, b1⟩ := two_cells h1
    clear h0 h1 h2
    by_cases c1 : GoodT T E
    · have HGy := Lib.hid (HG.out _ (K.trans KY))
      rw [decide_eq_true c1] at HGy
      have hE := c1.2.2
      have ho1 : -9223372036854775808 ≤ off := by have := Hoff.out; have := c1.2.1; omega
      have Hc1 := Lib.hid c1
      clear c1
      go_wp2_with fail
      refine HGy.out.mono ?_
      rintro e V1 ⟨rfl, K1⟩
      clear b0 b1 HGy HG
      go_upto_region 4 with fail
      obtain ⟨h0, h1, h2⟩ := HC.out _ (KY.trans K1)
      obtain ⟨b0, b1⟩ := two_cells h1
      have hm1 := K1.only.heap hm (by simp)
      obtain ⟨m0, m1, m2, m3, m4, m5, m6, m7, m8⟩ := nine_cells hm1
      have g5 := one_free hm1 5
      have Hm1 := Lib.hid hm1
      clear h0 h1 h2 hm hm1
      have hsz1 := K1.size
      go_upto_if 30 with fail
      go_cut [8] from 30 to 73 (fun p wx => ∃ prev, Hid (prev = if 0 < off then (atI T E (off - 1)).1 else 0) ∧ p = .pointer (some ⟨w.heap.size + 3, 0, none⟩) ∧ Hid (wx.heap[w.heap.size + 3]? = some (.cells #[.int .i64 1, .int .i64 who, .int .i64 t1, .int .i64 ep, .int .i64 off, .int .i64 prev, .slice none 0 0, .slice none 0 0, .int .i64 0] 36 (0, 0))) ∧ Kept X wx)
      case first =>
        by_cases c2 : 0 < off
        · obtain ⟨⟨pv, pb⟩, hP⟩ : ∃ r, atI T E (off - 1) = r := ⟨_, rfl⟩
          have HAv := Lib.hid (HA.out V1 (off - 1) ((K.trans KY).trans K1))
          rw [hP] at HAv
          have HP := Lib.hid hP
          clear hP
          have hw1 : IntKind.i64.wrap (off - 1) = off - 1 := by rw [IntKind.wrap_i64]; omega
          go_wp2_with fail
          refine HAv.out.mono ?_
          rintro e V2 ⟨rfl, K2⟩
          have hm2 := K2.only.heap Hm1.out (by simp)
          have e5 := one_free hm2 5
          have c5 := at_cell hm2 5 _ rfl
          have Hm2 := Lib.hid hm2
          clear hm2 m0 m1 m2 m3 m4 m5 m6 m7 m8 g5 b0 b1 HAv
          go_wp2_with fail
          go_meet
          refine ⟨pv, ?_, rfl, at_set Hm2.out 5 _, ((KY.trans K1).trans K2).onl ((Only.refl [w.heap.size + 3] V2).setCell (fun _ => by simp) _) (by intro i hi; have := List.mem_singleton.1 hi; omega)⟩
          unfold Hid
          rw [if_pos c2, HP.out]
        · go_wp2_with fail
          go_meet
          exact ⟨0, by unfold Hid; rw [if_neg (by omega)], rfl, Hm1.out, KY.trans K1⟩
      case rest =>
        obtain ⟨prev, Hprev, rfl, HM, KM⟩ := hcut
        clear m0 m1 m2 m3 m4 m5 m6 m7 m8 g5 b0 b1 Hm1
        have hszm := lt_heap HM.out
        go_wp2_with fail
        go_loopw [42] (fun i wr => ∃ (j : Nat) (P : List RV) (k : Nat) (a' : Option Addr) (c' : Nat) (g : Option Nat), i = .int .i64 j ∧ j ≤ ln ∧ k ≤ 8 ∧ Hid (P.length = k ∧ (∀ r ∈ P, rvOk r) ∧ pickQ off 0 R = P ++ pickQ off k (R.drop j)) ∧ Hid (wr.heap[w.heap.size + 3]? = some (.cells #[.int .i64 1, .int .i64 who, .int .i64 t1, .int .i64 ep, .int .i64 off, .int .i64 prev, .slice a' k c', .slice none 0 0, .int .i64 0] 36 (0, 0))) ∧ Hid (App wr 45 2 (.slice a' k c') k g (rvs P)) ∧ Hid (∀ j, g = some j → w.heap.size + 3 < j) ∧ Kept X wr) (fun i _ => ln - (intOf i).toNat)
        case atStart => exact ⟨0, [], 0, none, 0, none, rfl, by omega, by omega, ⟨rfl, fun r h => absurd h (by simp), rfl⟩, HM.out, app_nil _ _ _, (by intro j hj; cases hj), KM⟩
        case round =>
          obtain ⟨j, P, k, a', c', g, rfl, hj, hk8, HP, HMr, HAp, HGr, Kr⟩ := hrel
          by_cases hlt : j < ln
          · have hlt' : (j : Int) < ln := by omega
            obtain ⟨⟨at', x, xn, xc⟩, hsl⟩ : ∃ r, R[j]? = some r := ⟨_, List.getElem?_eq_getElem (by omega)⟩
            obtain ⟨hok, b, ob, rfl, q0, q1⟩ := (HR.out.kept (K.trans Kr)).2.2.2 j _ hsl
            dsimp only at hok q0 q1
            obtain ⟨hok0, hok1, hok2⟩ := hok
            dsimp only at hok0 hok1 hok2
            have hdr : Hid (R.drop j = ⟨at', x, xn, xc⟩ :: R.drop (j + 1)) := by
              unfold Hid
              obtain ⟨hjl, he⟩ := List.getElem?_eq_some_iff.1 hsl
              rw [List.drop_eq_getElem_cons hjl, he]
            have HOf := Lib.hid (fun W => stamp_off at' W hok0 hok1)
            have hob : 0 ≤ ofI at' ∧ ofI at' ≤ 17592186044415 := by unfold ofI; omega
            have HPk := Lib.hid (show pickQ off k (⟨at', x, xn, xc⟩ :: R.drop (j + 1)) = if k < 8 ∧ ofI at' = off + k then ⟨at', x, xn, xc⟩ :: pickQ off (k + 1) (R.drop (j + 1)) else pickQ off k (R.drop (j + 1)) from rfl)
            generalize ofI at' = os at *
            clear hsl hl
            have hwk : IntKind.i64.wrap (off + (k : Int)) = off + k := by rw [IntKind.wrap_i64]; omega
            have hsr := Kr.size
            go_wp2_with fail
            have hbx := heap_alloc_new wr (.cells #[.int .u64 at', .slice x xn xc] 45)
            obtain ⟨x0, x1⟩ := two_cells hbx
            have hmr := (kept_al wr (.cells #[.int .u64 at', .slice x xn xc] 45)).only.heap HMr.out (by simp)
            obtain ⟨m0, m1, m2, m3, m4, m5, m6, m7, m8⟩ := nine_cells hmr
            have KW := kept_al wr (.cells #[.int .u64 at', .slice x xn xc] 45)
            have HMW := Lib.hid hmr
            have hszW : (wr.alloc (.cells #[.int .u64 at', .slice x xn xc] 45)).heap.size = wr.heap.size + 1 := by simp
            clear hmr hbx
            generalize hW : wr.alloc (.cells #[.int .u64 at', .slice x xn xc] 45) = W at *
            clear hW
            by_cases h8 : k < 8
            · have h8' : (k : Int) < 8 := by omega
              by_cases h9 : os = off + k
              · have h9' : (os == off + (k : Int)) = true := by simp [h9]
                have HPick := Lib.hid (show pickQ off 0 R = (P ++ [⟨at', x, xn, xc⟩]) ++ pickQ off (k + 1) (R.drop (j + 1)) by rw [HP.out.2.2, hdr.out, HPk.out, if_pos ⟨h8, h9⟩]; simp)
                have KD : Hid (∀ q, Kept wr (W.drewN q)) := fun q => KW.dr ⟨_, rfl⟩
                have HAB : Hid (∀ q, App ((W.drewN q).alloc (.cells #[.int .u64 at', .slice x xn xc] 45)) 45 2 (.slice a' k c') k g (rvs P)) := fun q => ((KD.out q).trans (kept_al _ _)).only.app HAp.out (by simp)
                have hlb : Hid (∀ q, ((W.drewN q).alloc (.cells #[.int .u64 at', .slice x xn xc] 45)).heap[W.heap.size]? = some (.cells #[.int .u64 at', .slice x xn xc] 45 (0, 0))) := fun q => new_at _ (by simp)
                have HMA : Hid (∀ q, ((W.drewN q).alloc (.cells #[.int .u64 at', .slice x xn xc] 45)).heap[w.heap.size + 3]? = some (.cells #[.int .i64 1, .int .i64 who, .int .i64 t1, .int .i64 ep, .int .i64 off, .int .i64 prev, .slice a' k c', .slice none 0 0, .int .i64 0] 36 (0, 0))) := fun q => (((Kept.refl W).dr ⟨q, rfl⟩).trans (kept_al _ _)).only.heap HMW.out (by simp)
                have hgl : Hid (∀ j, g = some j → j < wr.heap.size) := HAp.out.lt
                clear HPk hdr h9
                have HszW := Lib.hid hszW
                clear hszW
                go_quiet (first | (go_at_call 28; exact Calls.quiet_of_same (unflip (HOf.out _))))
                go_wp2_with (at_builtin; refine wpList_app rfl (.tmp 63) (.tmp 65) 34 34 rfl elemR _ k _ _ rfl (HAB.out _) _ 1 _ rfl (src_block Try.underlying34 (hlb.out _) 1 1 rfl (by simp [Value.oneCell'])) (by omega) (by unfold maxLen; omega) ?_; intro a5 c5 g5 w5 hA5 hO5 hG5; have hm5 := hO5.heap (HMA.out _) (by intro hm; have := HGr.out _ (by simpa using hm); omega); have y6 := at_cell hm5 6 _ rfl; have f6 := one_free hm5 6; have HM5 := Lib.hid hm5; clear hm5)
                go_roundw
                case rel =>
                  have hX3 := HszX.out
                  have hgX : ∀ i ∈ g.toList, X.heap.size ≤ i := by
                    intro i hi
                    have := HGr.out i (by simpa using hi)
                    omega
                  have hg5 : ∀ i, g5 = some i → w.heap.size + 3 < i := by
                    rcases hG5 with rfl | rfl
                    · exact HGr.out
                    · intro i hi
                      have h1 := Kr.size
                      have h2 := KW.size
                      injection hi with hi
                      simp at hi
                      omega
                  refine ⟨j + 1, P ++ [⟨at', x, xn, xc⟩], k + 1, a5, c5, g5, by go_num, by omega, by omega, ⟨by rw [List.length_append, HP.out.1]; rfl, ?_, HPick.out⟩, at_set HM5.out 6 _, ?_, hg5, ?_⟩
                  · intro r hr
                    rcases List.mem_append.1 hr with hr | hr
                    · exact HP.out.2.1 r hr
                    · rw [List.mem_singleton.1 hr]; exact ⟨hok0, hok1, hok2⟩
                  · refine ((Only.refl [w.heap.size + 3] w5).setCell (fun _ => by simp) _).app ?_ (by intro i hi; have := hg5 i hi; simp; omega)
                    rw [rvs_append]
                    exact hA5
                  · exact (((Kr.trans (KD.out _)).trans (kept_al _ _)).onl hO5 hgX).onl ((Only.refl [w.heap.size + 3] w5).setCell (fun _ => by simp) _) (by intro i hi; have := List.mem_singleton.1 hi; omega)
                case measure => simp [intOf]; omega
              · have h9' : (os == off + (k : Int)) = false := by simp [h9]
                go_quiet (first | (go_at_call 28; exact Calls.quiet_of_same (unflip (HOf.out _))))
                go_wp2
                go_roundw
                case rel =>
                  exact ⟨j + 1, P, k, a', c', g, by go_num, by omega, hk8, ⟨HP.out.1, HP.out.2.1, by rw [HP.out.2.2, hdr.out, HPk.out, if_neg (by omega)]⟩, ((Kept.refl W).dr ⟨_, rfl⟩).only.heap HMW.out (by simp), (KW.dr ⟨_, rfl⟩).only.app HAp.out (by simp), HGr.out, Kr.trans (KW.dr ⟨_, rfl⟩)⟩
                case measure => simp [intOf]; omega
            · have h8' : (8 : Int) ≤ k := by omega
              have h8'' : decide ((k : Int) < 8) = false := decide_eq_false (by omega)
              go_quiet (first | (go_at_call 28; exact Calls.quiet_of_same (unflip (HOf.out _))))
              go_wp2
              go_roundw
              case rel =>
                exact ⟨j + 1, P, k, a', c', g, by go_num, by omega, hk8, ⟨HP.out.1, HP.out.2.1, by rw [HP.out.2.2, hdr.out, HPk.out, if_neg (by omega)]⟩, ((Kept.refl W).dr ⟨_, rfl⟩).only.heap HMW.out (by simp), (KW.dr ⟨_, rfl⟩).only.app HAp.out (by simp), HGr.out, Kr.trans (KW.dr ⟨_, rfl⟩)⟩
              case measure => simp [intOf]; omega
          · have hge : (ln : Int) ≤ j := by omega
            obtain rfl : j = ln := by omega
            have hP : pickQ off 0 R = P := by rw [HP.out.2.2, List.drop_of_length_le (by omega)]; simp [pickQ]
            have HPe := Lib.hid hP
            have hPl := HP.out.1
            have hS := Lib.hid (app_slQ HAp.out HP.out.2.1)
            obtain ⟨gm, hgm⟩ : ∃ gm, goodM ⟨1, who, t1, ep, off, prev, a', k, c', none, 0, 0, 0⟩ (rvM P) [] = gm := ⟨_, rfl⟩
            have HMg := Lib.hid (msg_good ⟨1, who, t1, ep, off, prev, a', k, c', none, 0, 0, 0⟩ (rvM P) [] wr hS.out.slM (sl_nil _ _) (fun i => by simp) (by dsimp only; omega))
            rw [hgm] at HMg
            have Hgm := Lib.hid hgm
            clear hgm hP
            have hok : Hid (okM ⟨who, ep, nx, ak⟩ T E R = gm) := by
              have e1 : offM ⟨who, ep, nx, ak⟩ E = off := Hoff.out.symm
              have e2 : prevM ⟨who, ep, nx, ak⟩ T E = prev := by unfold prevM; rw [e1]; exact Hprev.out.symm
              unfold Hid okM mkM
              rw [e1, e2, HPe.out, hPl, ← Hgm.out]
              dsimp only
              rw [Ht1.out]
              rfl
            have hmk : Hid ((mkM ⟨who, ep, nx, ak⟩ T E a' k c').cs = #[.int .i64 1, .int .i64 who, .int .i64 t1, .int .i64 ep, .int .i64 off, .int .i64 prev, .slice a' k c', .slice none 0 0, .int .i64 0]) := by
              have e1 : offM ⟨who, ep, nx, ak⟩ E = off := Hoff.out.symm
              have e2 : prevM ⟨who, ep, nx, ak⟩ T E = prev := by unfold prevM; rw [e1]; exact Hprev.out.symm
              unfold Hid mkM MV.cs
              dsimp only
              rw [e1, e2, Ht1.out]
            have hpk : Hid (pickQ (offM ⟨who, ep, nx, ak⟩ E) 0 R = P) := by
              have e1 : offM ⟨who, ep, nx, ak⟩ E = off := Hoff.out.symm
              unfold Hid; rw [e1]; exact HPe.out
            unfold MV.cs at HMg
            dsimp only at HMg
            obtain ⟨m0, m1, m2, m3, m4, m5, m6, m7, m8⟩ := nine_cells HMr.out
            go_wp2_with fail
            refine HMg.out.mono ?_
            rintro e V5 ⟨rfl, K5⟩
            clear m0 m1 m2 m3 m4 m5 m6 m7 m8 HMg
            have hmv := K5.only.heap HMr.out (by simp)
            obtain ⟨m0, m1, m2, m3, m4, m5, m6, m7, m8⟩ := nine_cells hmv
            obtain ⟨h0, h1, h2⟩ := HC.out _ (Kr.trans K5)
            obtain ⟨n0, n1, n2, n3, n4, n5, n6, n7, n8⟩ := nine_cells h2
            have f0 := one_free h2 0
            have f1 := one_free h2 1
            have f2 := one_free h2 2
            have f3 := one_free h2 3
            have f4 := one_free h2 4
            have f5 := one_free h2 5
            have f6 := one_free h2 6
            have f7 := one_free h2 7
            have f8 := one_free h2 8
            have H2 := Lib.hid h2
            clear hmv h0 h1 h2
            have KF := (K.trans (Kr.trans K5))
            have hwX : Hid (w.heap.size ≤ w.heap.size + 2) := Nat.le_add_right _ _
            cases gm
            · go_wp2_with fail
              obtain ⟨z0, z1, z2, z3, z4, z5, z6, z7, z8⟩ := nine_cells (nine_set H2.out (.int .i64 0) (.int .i64 0) (.int .i64 0) (.int .i64 0) (.int .i64 0) (.int .i64 0) (.slice none 0 0) (.slice none 0 0) (.int .i64 0))
              exact bodyPost_ret (v := .tuple #[.agg #[.int .i64 0, .int .i64 0, .int .i64 0, .int .i64 0, .int .i64 0, .int .i64 0, .slice none 0 0, .slice none 0 0, .int .i64 0], .int .i64 1]) (by simp [results, Try.results14, go_sem, z0, z1, z2, z3, z4, z5, z6, z7, z8]) rfl ⟨a', c', by unfold makeM makeE; rw [if_neg (fun (q : _ ∧ _) => by have := q.2; rw [hok.out] at this; cases this), if_neg (fun (q : _ ∧ _) => by have := q.2; rw [hok.out] at this; cases this)]; rfl, fun _ => by rw [hpk.out, hPl]; exact app_slQ (((K5.only.mono (by simp)).trans (only_set9 V5 (w.heap.size + 2) (.int .i64 0) (.int .i64 0) (.int .i64 0) (.int .i64 0) (.int .i64 0) (.int .i64 0) (.slice none 0 0) (.slice none 0 0) (.int .i64 0))).app HAp.out (by intro i hi; have := HGr.out i hi; simp; omega)) HP.out.2.1, KF.onl (only_set9 V5 (w.heap.size + 2) (.int .i64 0) (.int .i64 0) (.int .i64 0) (.int .i64 0) (.int .i64 0) (.int .i64 0) (.slice none 0 0) (.slice none 0 0) (.int .i64 0)) (by intro i hi; have := List.mem_singleton.1 hi; omega)⟩
            · go_wp2_with fail
              obtain ⟨z0, z1, z2, z3, z4, z5, z6, z7, z8⟩ := nine_cells (nine_set H2.out (.int .i64 1) (.int .i64 who) (.int .i64 t1) (.int .i64 ep) (.int .i64 off) (.int .i64 prev) (.slice a' k c') (.slice none 0 0) (.int .i64 0))
              exact bodyPost_ret (v := .tuple #[.agg #[.int .i64 1, .int .i64 who, .int .i64 t1, .int .i64 ep, .int .i64 off, .int .i64 prev, .slice a' k c', .slice none 0 0, .int .i64 0], .int .i64 0]) (by simp [results, Try.results14, go_sem, z0, z1, z2, z3, z4, z5, z6, z7, z8]) rfl ⟨a', c', by unfold makeM makeE; rw [if_pos ⟨Hc1.out, hok.out⟩, if_pos ⟨Hc1.out, hok.out⟩, hpk.out, hPl, hmk.out], fun _ => by rw [hpk.out, hPl]; exact app_slQ (((K5.only.mono (by simp)).trans (only_set9 V5 (w.heap.size + 2) (.int .i64 1) (.int .i64 who) (.int .i64 t1) (.int .i64 ep) (.int .i64 off) (.int .i64 prev) (.slice a' k c') (.slice none 0 0) (.int .i64 0))).app HAp.out (by intro i hi; have := HGr.out i hi; simp; omega)) HP.out.2.1, KF.onl (only_set9 V5 (w.heap.size + 2) (.int .i64 1) (.int .i64 who) (.int .i64 t1) (.int .i64 ep) (.int .i64 off) (.int .i64 prev) (.slice a' k c') (.slice none 0 0) (.int .i64 0)) (by intro i hi; have := List.mem_singleton.1 hi; omega)⟩
    · have HGy := Lib.hid (HG.out _ (K.trans KY))
      rw [decide_eq_false c1] at HGy
      have Hc1 := Lib.hid c1
      clear c1
      go_wp2_with fail
      refine HGy.out.mono ?_
      rintro e V1 ⟨rfl, K1⟩
      obtain ⟨h0, h1, h2⟩ := HC.out _ (KY.trans K1)
      have f0 := one_free h2 0
      have f1 := one_free h2 1
      have f2 := one_free h2 2
      have f3 := one_free h2 3
      have f4 := one_free h2 4
      have f5 := one_free h2 5
      have f6 := one_free h2 6
      have f7 := one_free h2 7
      have f8 := one_free h2 8
      obtain ⟨n0, n1, n2, n3, n4, n5, n6, n7, n8⟩ := nine_cells h2
      have H2 := Lib.hid h2
      clear h0 h1 h2 b0 b1 HGy
      go_wp2_with fail
      obtain ⟨z0, z1, z2, z3, z4, z5, z6, z7, z8⟩ := nine_cells (nine_set H2.out (.int .i64 0) (.int .i64 0) (.int .i64 0) (.int .i64 0) (.int .i64 0) (.int .i64 0) (.slice none 0 0) (.slice none 0 0) (.int .i64 0))
      exact bodyPost_ret (v := .tuple #[.agg #[.int .i64 0, .int .i64 0, .int .i64 0, .int .i64 0, .int .i64 0, .int .i64 0, .slice none 0 0, .slice none 0 0, .int .i64 0], .int .i64 1]) (by simp [results, Try.results14, go_sem, z0, z1, z2, z3, z4, z5, z6, z7, z8]) rfl ⟨none, 0, by unfold makeM makeE; rw [if_neg (fun (q : _ ∧ _) => Hc1.out q.1), if_neg (fun (q : _ ∧ _) => Hc1.out q.1)]; rfl, fun q => absurd q Hc1.out, (K.trans (KY.trans K1)).onl (only_set9 V1 (w.heap.size + 2) (.int .i64 0) (.int .i64 0) (.int .i64 0) (.int .i64 0) (.int .i64 0) (.int .i64 0) (.slice none 0 0) (.slice none 0 0) (.int .i64 0)) (by intro i hi; have := List.mem_singleton.1 hi; omega)⟩
end Go.Proofs.Ytmkoabalakfehaa
