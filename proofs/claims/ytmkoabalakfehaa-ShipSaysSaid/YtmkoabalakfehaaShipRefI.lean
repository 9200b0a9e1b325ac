/- The document's own Make. -/
import Derived.Test.YtmkoabalakfehaaShipRefH
import Derived.Deep.Cut
import Derived.Deep.CutRange
set_option linter.unusedVariables false
set_option linter.unusedSimpArgs false
namespace Go.Proofs.Ytmkoabalakfehaa
open Go.RowKit
/-- what the document's Make picks -/
def pickL (off : Int) : Nat → List (Int × List Int) → List (Int × List Int)
  | _, [] => []
  | k, r :: R => if k < 8 ∧ ofI r.1 = off + k then r :: pickL off (k + 1) R else pickL off k R
def okL (s : SV) (T : List Int) (E : Int) (R : List (Int × List Int)) : Bool := goodM (mkM s T E none (pickL (offM s E) 0 R).length 0) (rowL (pickL (offM s E) 0 R)) []
theorem pickL_mem (off : Int) : ∀ (R : List (Int × List Int)) (k : Nat) (x : Int × List Int), x ∈ pickL off k R → x ∈ R
  | [], k, x, h => by simp [pickL] at h
  | r :: R, k, x, h => by
    unfold pickL at h
    split at h
    · rcases List.mem_cons.1 h with rfl | h
      · exact List.mem_cons_self ..
      · exact List.mem_cons_of_mem _ (pickL_mem off R _ x h)
    · exact List.mem_cons_of_mem _ (pickL_mem off R _ x h)
theorem prev_at (s : SV) (T : List Int) (E : Int) (hg : GoodT T E) (hnx : -9223372036854775808 ≤ s.nx) :
    -9223372036854775808 ≤ IntKind.i64.wrap (offM s E - 1) ∧ (((atI T E (IntKind.i64.wrap (offM s E - 1))).2 = true ∧ prevM s T E = (atI T E (IntKind.i64.wrap (offM s E - 1))).1) ∨ ((atI T E (IntKind.i64.wrap (offM s E - 1))).2 = false ∧ prevM s T E = 0)) := by
  have h0 := hg.2.1
  have h1 := hg.2.2
  have ho : -9223372036854775808 ≤ offM s E ∧ offM s E ≤ E := by unfold offM; omega
  have hf := (first_bd hg).1
  unfold prevM
  generalize offM s E = off at *
  refine ⟨by rw [IntKind.wrap_i64]; omega, ?_⟩
  by_cases hc : 0 < off
  · rw [show IntKind.i64.wrap (off - 1) = off - 1 by rw [IntKind.wrap_i64]; omega, if_pos hc]
    cases hb : (atI T E (off - 1)).2
    · right
      refine ⟨rfl, ?_⟩
      unfold atI at hb ⊢
      split
      · rename_i h; rw [if_pos h] at hb; cases hb
      · rfl
    · exact .inl ⟨rfl, rfl⟩
  · rw [if_neg hc]
    right
    refine ⟨?_, rfl⟩
    unfold atI
    rw [if_neg]
    rintro ⟨_, h2, h3⟩
    rw [IntKind.wrap_i64] at h2 h3
    omega
set_option maxRecDepth 100000 in
set_option maxHeartbeats 8000000 in
theorem ref_make (who ep nx ak E : Int) (ta : Option Addr) (tn tc : Nat) (T : List Int) (la : Option Addr) (ln lc : Nat) (L : List (Int × List Int)) (w : World)
    (hT : Sl .u64 w ta tn tc T) (wT : IsW T) (hL : SlRR w la ln lc L) (hn : ln ≤ 1000) (hLw : ∀ l ∈ L, 0 ≤ l.1 ∧ l.1 ≤ 18446744073709551615) (hnx : -9223372036854775808 ≤ nx) :
    Calls Try.prog 16 #[.agg #[.int .i64 who, .int .i64 ep, .int .i64 nx, .int .i64 ak], .agg #[.slice ta tn tc, .int .i64 E], .slice la ln lc] w fun e' w' => ∃ a' c', ((GoodT T E ∧ okL ⟨who, ep, nx, ak⟩ T E L = true ∧ e' = .returned (.tuple #[.agg #[.int .i64 1, .int .i64 who, .int .i64 (IntKind.i64.wrap (1 - who)), .int .i64 ep, .int .i64 (offM ⟨who, ep, nx, ak⟩ E), .int .i64 (prevM ⟨who, ep, nx, ak⟩ T E), .slice a' (pickL (offM ⟨who, ep, nx, ak⟩ E) 0 L).length c', .slice none 0 0, .int .i64 0], .int .i64 0]) ∧ SlRR w' a' (pickL (offM ⟨who, ep, nx, ak⟩ E) 0 L).length c' (pickL (offM ⟨who, ep, nx, ak⟩ E) 0 L)) ∨
      (¬ (GoodT T E ∧ okL ⟨who, ep, nx, ak⟩ T E L = true) ∧ e' = .returned (.tuple #[.agg #[.int .i64 0, .int .i64 0, .int .i64 0, .int .i64 0, .int .i64 0, .int .i64 0, .slice none 0 0, .slice none 0 0, .int .i64 0], .int .i64 1]))) ∧ Kept w w' := by
  have K : Kept w (((w.alloc (.cells #[.int .i64 who, .int .i64 ep, .int .i64 nx, .int .i64 ak] 57)).alloc (.cells #[.slice ta tn tc, .int .i64 E] 52)).alloc (.cells #[.int .i64 0, .int .i64 0, .int .i64 0, .int .i64 0, .int .i64 0, .int .i64 0, .slice none 0 0, .slice none 0 0, .int .i64 0] 54)) := ((kept_al w _).trans (kept_al _ _)).trans (kept_al _ _)
  have h0 : (((w.alloc (.cells #[.int .i64 who, .int .i64 ep, .int .i64 nx, .int .i64 ak] 57)).alloc (.cells #[.slice ta tn tc, .int .i64 E] 52)).alloc (.cells #[.int .i64 0, .int .i64 0, .int .i64 0, .int .i64 0, .int .i64 0, .int .i64 0, .slice none 0 0, .slice none 0 0, .int .i64 0] 54)).heap[w.heap.size]? = some (.cells #[.int .i64 who, .int .i64 ep, .int .i64 nx, .int .i64 ak] 57 (0, 0)) := ((kept_al _ _).trans (kept_al _ _)).only.heap (heap_alloc_new w _) (by simp)
  have h1 : (((w.alloc (.cells #[.int .i64 who, .int .i64 ep, .int .i64 nx, .int .i64 ak] 57)).alloc (.cells #[.slice ta tn tc, .int .i64 E] 52)).alloc (.cells #[.int .i64 0, .int .i64 0, .int .i64 0, .int .i64 0, .int .i64 0, .int .i64 0, .slice none 0 0, .slice none 0 0, .int .i64 0] 54)).heap[w.heap.size + 1]? = some (.cells #[.slice ta tn tc, .int .i64 E] 52 (0, 0)) := (kept_al _ _).only.heap (new_at _ (by simp)) (by simp)
  have h2 : (((w.alloc (.cells #[.int .i64 who, .int .i64 ep, .int .i64 nx, .int .i64 ak] 57)).alloc (.cells #[.slice ta tn tc, .int .i64 E] 52)).alloc (.cells #[.int .i64 0, .int .i64 0, .int .i64 0, .int .i64 0, .int .i64 0, .int .i64 0, .slice none 0 0, .slice none 0 0, .int .i64 0] 54)).heap[w.heap.size + 2]? = some (.cells #[.int .i64 0, .int .i64 0, .int .i64 0, .int .i64 0, .int .i64 0, .int .i64 0, .slice none 0 0, .slice none 0 0, .int .i64 0] 54 (0, 0)) := new_at _ (by simp)
  have HC : Hid (∀ Z, Kept (((w.alloc (.cells #[.int .i64 who, .int .i64 ep, .int .i64 nx, .int .i64 ak] 57)).alloc (.cells #[.slice ta tn tc, .int .i64 E] 52)).alloc (.cells #[.int .i64 0, .int .i64 0, .int .i64 0, .int .i64 0, .int .i64 0, .int .i64 0, .slice none 0 0, .slice none 0 0, .int .i64 0] 54)) Z → Z.cell? ⟨w.heap.size, 0, none⟩ = some (.int .i64 who) ∧ Z.cell? ⟨w.heap.size, 1, none⟩ = some (.int .i64 ep) ∧ Z.cell? ⟨w.heap.size, 2, none⟩ = some (.int .i64 nx) ∧ Z.cell? ⟨w.heap.size, 3, none⟩ = some (.int .i64 ak) ∧ Z.cell? ⟨w.heap.size + 1, 0, none⟩ = some (.slice ta tn tc) ∧ Z.cell? ⟨w.heap.size + 1, 1, none⟩ = some (.int .i64 E)) := fun Z kk => by
    obtain ⟨s0, s1, s2, s3⟩ := four_cells h0
    obtain ⟨u0, u1⟩ := two_cells h1
    exact ⟨kk.cel s0, kk.cel s1, kk.cel s2, kk.cel s3, kk.cel u0, kk.cel u1⟩
  have H2 : Hid (∀ Z, Kept (((w.alloc (.cells #[.int .i64 who, .int .i64 ep, .int .i64 nx, .int .i64 ak] 57)).alloc (.cells #[.slice ta tn tc, .int .i64 E] 52)).alloc (.cells #[.int .i64 0, .int .i64 0, .int .i64 0, .int .i64 0, .int .i64 0, .int .i64 0, .slice none 0 0, .slice none 0 0, .int .i64 0] 54)) Z → Z.heap[w.heap.size + 2]? = some (.cells #[.int .i64 0, .int .i64 0, .int .i64 0, .int .i64 0, .int .i64 0, .int .i64 0, .slice none 0 0, .slice none 0 0, .int .i64 0] 54 (0, 0))) := fun Z kk => kk.only.heap h2 (by simp)
  have hXs : (((w.alloc (.cells #[.int .i64 who, .int .i64 ep, .int .i64 nx, .int .i64 ak] 57)).alloc (.cells #[.slice ta tn tc, .int .i64 E] 52)).alloc (.cells #[.int .i64 0, .int .i64 0, .int .i64 0, .int .i64 0, .int .i64 0, .int .i64 0, .slice none 0 0, .slice none 0 0, .int .i64 0] 54)).heap.size = w.heap.size + 3 := by simp
  have hl := hL.1
  have hnc := hL.2.1
  have hcm := hL.2.2.1
  unfold maxLen at hcm
  have HL := Lib.hid hL
  have HLw := Lib.hid hLw
  have HG := Lib.hid (fun W (kk : Kept w W) => ref_good ta tn tc T E W (kk.sl hT) wT)
  have HA := Lib.hid (fun W (kk : Kept w W) q (hq : -9223372036854775808 ≤ q) => ref_tableAt ta tn tc T E q W (kk.sl hT) wT hq)
  obtain ⟨t1, ht1⟩ : ∃ t1, IntKind.i64.wrap (1 - who) = t1 := ⟨_, rfl⟩
  have hm1 : mkM ⟨who, ep, nx, ak⟩ T E none (pickL (offM ⟨who, ep, nx, ak⟩ E) 0 L).length 0 = ⟨1, who, t1, ep, offM ⟨who, ep, nx, ak⟩ E, prevM ⟨who, ep, nx, ak⟩ T E, none, (pickL (offM ⟨who, ep, nx, ak⟩ E) 0 L).length, 0, none, 0, 0, 0⟩ := by rw [← ht1]; rfl
  have hok : okL ⟨who, ep, nx, ak⟩ T E L = goodM ⟨1, who, t1, ep, offM ⟨who, ep, nx, ak⟩ E, prevM ⟨who, ep, nx, ak⟩ T E, none, (pickL (offM ⟨who, ep, nx, ak⟩ E) 0 L).length, 0, none, 0, 0, 0⟩ (rowL (pickL (offM ⟨who, ep, nx, ak⟩ E) 0 L)) [] := by unfold okL; rw [hm1]
  have HP := Lib.hid (fun (hg : GoodT T E) => prev_at ⟨who, ep, nx, ak⟩ T E hg hnx)
  have HOf : Hid (offM ⟨who, ep, nx, ak⟩ E = min nx E) := rfl
  rw [hok, ht1]
  obtain ⟨s0, s1, s2, s3, u0, u1⟩ := HC.out _ (Kept.refl _)
  clear hT wT hL hLw h0 h1 h2 hm1 hok
  generalize offM ⟨who, ep, nx, ak⟩ E = off at *
  generalize prevM ⟨who, ep, nx, ak⟩ T E = prev at *
  by_cases hg : GoodT T E
  · rw [decide_eq_true hg] at HG
    have HP := Lib.hid (HP.out hg)
    have hE1 := hg.2.2
    have hE0 := hg.2.1
    have HGd := Lib.hid hg
    have hof : off = min nx E := HOf.out
    have hoff : -9223372036854775808 ≤ off ∧ off ≤ 17592186044416 := by omega
    clear hg
    go_enter Try.func16, Try.ntmps16
    go_wp2_with fail
    clear s0 s1 s2 s3 u0 u1
    generalize World.alloc (World.alloc (World.alloc w _) _) _ = X at *
    refine (HG.out _ K).mono ?_
    rintro e' V1 ⟨rfl, J1⟩
    obtain ⟨s0, s1, s2, s3, u0, u1⟩ := HC.out _ J1
    go_upto_region 4 with fail
    have KW : Kept X (V1.alloc (.cells #[.int .i64 1, .int .i64 who, .int .i64 t1, .int .i64 ep, .int .i64 nx, .int .i64 0, .slice none 0 0, .slice none 0 0, .int .i64 0] 54)) := J1.trans (kept_al V1 _)
    have HM0 := Lib.hid (heap_alloc_new V1 (.cells #[.int .i64 1, .int .i64 who, .int .i64 t1, .int .i64 ep, .int .i64 nx, .int .i64 0, .slice none 0 0, .slice none 0 0, .int .i64 0] 54))
    have hp8 : w.heap.size + 3 ≤ V1.heap.size := by have := J1.size; omega
    obtain ⟨p8, hp⟩ : ∃ p, V1.heap.size = p := ⟨_, rfl⟩
    rw [hp] at HM0 hp8 ⊢
    clear hp s0 s1 s2 s3 u0 u1
    generalize World.alloc V1 _ = W at *
    have HX3 : Hid (∀ Z, Kept X Z → w.heap.size + 2 < Z.heap.size) := fun Z kk => by have := kk.size; omega
    obtain ⟨s0, s1, s2, s3, u0, u1⟩ := HC.out _ KW
    obtain ⟨m0, m1, m2, m3, m4, m5, m6, m7, m8⟩ := nine_cells HM0.out
    have mf := one_free HM0.out
    go_upto_if 30 with fail
    go_cut [10] from 30 to 33 (fun _ wx => Hid (wx.heap[p8]? = some (.cells #[.int .i64 1, .int .i64 who, .int .i64 t1, .int .i64 ep, .int .i64 off, .int .i64 0, .slice none 0 0, .slice none 0 0, .int .i64 0] 54 (0, 0))) ∧ Kept X wx)
    case first =>
      by_cases hc : E < nx
      · go_wp2_with fail
        go_meet
        case rel =>
          have ho : off = E := by omega
          subst ho
          exact ⟨at_set HM0.out 4 _, KW.onl ((Only.refl [p8] W).setCell (fun _ => by simp) _) (by intro q hq; have := List.mem_singleton.1 hq; omega)⟩
      · have hc' : nx ≤ E := by omega
        clear hc
        go_wp2_with fail
        go_meet
        case rel =>
          have ho : off = nx := by omega
          subst ho
          exact ⟨HM0.out, KW⟩
    case rest =>
      clear s0 s1 s2 s3 u0 u1 m0 m1 m2 m3 m4 m5 m6 m7 m8 mf
      obtain ⟨HM1, K1⟩ := hcut
      generalize wc = W1 at *
      clear HM0 KW J1 hof HOf
      obtain ⟨hq0, hpv⟩ := HP.out
      obtain ⟨qq, hqq⟩ : ∃ qq, IntKind.i64.wrap (off - 1) = qq := ⟨_, rfl⟩
      have hqq2 : wrap64 (off - 1) = qq := by rw [← hqq, IntKind.wrap_i64]; unfold wrap64; rfl
      rw [hqq] at hq0 hpv
      have HPv := Lib.hid hpv
      clear HP
      obtain ⟨s0, s1, s2, s3, u0, u1⟩ := HC.out _ K1
      obtain ⟨m0, m1, m2, m3, m4, m5, m6, m7, m8⟩ := nine_cells HM1.out
      have hszm := lt_heap HM1.out
      clear hpv
      go_wp2_with fail
      refine (HA.out W1 (K.trans K1) _ hq0).mono ?_
      rintro e' V2 ⟨rfl, J2⟩
      clear s0 s1 s2 s3 u0 u1 m0 m1 m2 m3 m4 m5 m6 m7 m8
      have hpv := HPv.out
      clear HPv HA hq0 hqq hqq2
      generalize atI T E qq = pq at *
      obtain ⟨pv, okv⟩ := pq
      dsimp only at hpv ⊢
      have HM2 := Lib.hid (J2.only.heap HM1.out (by simp))
      have K2 := K1.trans J2
      clear HM1 J2
      go_upto_if 42 with fail
      go_cut [11] from 42 to 44 (fun _ wx => Hid (wx.heap[p8]? = some (.cells #[.int .i64 1, .int .i64 who, .int .i64 t1, .int .i64 ep, .int .i64 off, .int .i64 prev, .slice none 0 0, .slice none 0 0, .int .i64 0] 54 (0, 0))) ∧ Kept X wx)
      case first =>
        obtain ⟨m0, m1, m2, m3, m4, m5, m6, m7, m8⟩ := nine_cells HM2.out
        have mf := one_free HM2.out
        rcases hpv with ⟨rfl, h1⟩ | ⟨rfl, h1⟩
        · go_wp2_with fail
          go_meet
          case rel =>
            rw [h1]
            exact ⟨at_set HM2.out 5 _, K2.onl ((Only.refl [p8] V2).setCell (fun _ => by simp) _) (by intro q hq; have := List.mem_singleton.1 hq; omega)⟩
        · go_wp2_with fail
          go_meet
          case rel =>
            rw [h1]
            exact ⟨HM2.out, K2⟩
      case rest =>
        obtain ⟨HM3, K3⟩ := hcut
        generalize wc = W3 at *
        clear HM2 K2 hpv
        have hsz3 := lt_heap HM3.out
        go_wp2_with fail
        go_loopw [11] (fun i wr => ∃ (j : Nat) (P : List (Int × List Int)) (k : Nat) (a' : Option Addr) (c' : Nat) (g : Option Nat), i = .int .i64 j ∧ j ≤ ln ∧ k ≤ 8 ∧ Hid (P.length = k ∧ pickL off 0 L = P ++ pickL off k (L.drop j)) ∧ Hid (wr.heap[p8]? = some (.cells #[.int .i64 1, .int .i64 who, .int .i64 t1, .int .i64 ep, .int .i64 off, .int .i64 prev, .slice a' k c', .slice none 0 0, .int .i64 0] 54 (0, 0))) ∧ Hid (App wr 82 2 (.slice a' k c') k g (rrs P)) ∧ Hid (∀ j, g = some j → p8 < j) ∧ Kept X wr) (fun i _ => ln - (intOf i).toNat)
        case atStart => exact ⟨0, [], 0, none, 0, none, rfl, by omega, by omega, ⟨rfl, rfl⟩, HM3.out, app_nil _ _ _, (by intro j hj; cases hj), K3⟩
        case round =>
          clear HM3 K3 hsz3
          obtain ⟨j, P, k, a', c', g, rfl, hj, hk8, HPk, HM, HAp, HGr, Kr⟩ := hrel
          obtain ⟨m0, m1, m2, m3, m4, m5, m6, m7, m8⟩ := nine_cells HM.out
          have hszm := lt_heap HM.out
          by_cases hlt : j < ln
          · have hlt' : (j : Int) < ln := by omega
            obtain ⟨⟨at', z⟩, hll⟩ : ∃ r, L[j]? = some r := ⟨_, List.getElem?_eq_getElem (by omega)⟩
            obtain ⟨b, ob, rfl, q0, q1⟩ := (HL.out.kept (K.trans Kr)).2.2.2 j _ hll
            dsimp only at q0 q1
            obtain ⟨a0, a1⟩ := HLw.out _ (List.mem_of_getElem? hll)
            dsimp only at a0 a1
            have hdr : Hid (L.drop j = (at', z) :: L.drop (j + 1)) := by
              unfold Hid
              obtain ⟨hjl, he⟩ := List.getElem?_eq_some_iff.1 hll
              rw [List.drop_eq_getElem_cons hjl, he]
            have HPc : Hid (pickL off 0 L = P ++ (if k < 8 ∧ ofI at' = off + k then (at', z) :: pickL off (k + 1) (L.drop (j + 1)) else pickL off k (L.drop (j + 1)))) := by
              unfold Hid
              rw [HPk.out.2, hdr.out]
              rfl
            obtain ⟨s, hs8⟩ : ∃ s, strOf z = s := ⟨_, rfl⟩
            rw [hs8] at q1
            have Hs8 := Lib.hid hs8
            have hof0 : 0 ≤ ofI at' ∧ ofI at' ≤ 17592186044415 := by unfold ofI; omega
            clear hdr hll hs8
            by_cases h8 : k < 8
            · have d8 : decide ((k : Int) < 8) = true := decide_eq_true (by omega)
              by_cases h9 : ofI at' = off + k
              · have d9 : (ofI at' == off + k) = true := by simp [h9]
                have hp1 := HPc.out
                rw [if_pos ⟨h8, h9⟩] at hp1
                have HPn : Hid (pickL off 0 L = (P ++ [(at', z)]) ++ pickL off (k + 1) (L.drop (j + 1))) := by unfold Hid; rw [hp1]; simp
                clear hp1 HPc h9
                go_upto_region 12 with fail
                go_quiet ((go_at_call 35; exact Calls.quiet_of_same (unflip (ref_off _ _ (by omega) (by omega)))))
                clear m0 m1 m2 m3 m4 m5 m6 m7 m8
                have hszr := lt_heap HM.out
                have HMV := Lib.hid ((((Kept.refl wr).dr ((Dr.refl wr).drewN nq))).only.heap HM.out (by simp))
                have HAV := Lib.hid (((Only.refl [] wr).drewN nq).app HAp.out (by simp))
                have KV := Kr.dr ((Dr.refl wr).drewN nq)
                have r0 := ((Kept.refl wr).dr ((Dr.refl wr).drewN nq)).cel q0
                have r1 := ((Kept.refl wr).dr ((Dr.refl wr).drewN nq)).cel q1
                clear q0 q1
                generalize World.drewN wr nq = V at *
                obtain ⟨m0, m1, m2, m3, m4, m5, m6, m7, m8⟩ := nine_cells HMV.out
                have hszV := lt_heap HMV.out
                have HAB : Hid (App ((V.drewN 1).alloc (.cells #[.int .u64 at', .string s] 82)) 82 2 (.slice a' k c') k g (rrs P)) := (((Only.refl [] V).drewN 1).alloc _).app HAV.out (by simp)
                have hgq : p8 ∉ g.toList := by intro hm; have := HGr.out _ (by simpa using hm); omega
                have hgr := HAV.out.lt
                go_upto_region 13 with fail
                go_region_law (refine step_app rfl (.tmp 71) (.tmp 76) 49 49 rfl elemRR _ k _ _ rfl HAB.out _ 1 _ rfl (src_block Try.underlying49 (heap_alloc_new (V.drewN 1) _) 1 1 rfl (by simp [Value.oneCell'])) (by omega) (by unfold maxLen; omega) ?_; intro a5 c5 g5 w5 hA5 hO5 hG5; have q2 := hO5.heap (heap_keep (w := V.drewN 1) HMV.out _) hgq; have q3 := (nine_cells q2).2.2.2.2.2.2.1; have q4 := one_free q2 6)
                all_goals (
                  go_wp2
                  go_roundw
                  case rel =>
                    have hg5 : ∀ k, g5 = some k → p8 < k := by
                      rcases hG5 with rfl | rfl
                      · exact HGr.out
                      · intro q hq
                        injection hq with hq
                        simp at hq
                        omega
                    have hX3 : X.heap.size ≤ p8 + 1 := by omega
                    have KA : Kept X ((V.drewN 1).alloc (.cells #[.int .u64 at', .string s] 82)) := (KV.dr ⟨1, rfl⟩).trans (kept_al _ _)
                    have K5 : Kept X w5 := KA.onl hO5 (by intro q hq; have := HGr.out q (by simpa using hq); omega)
                    refine ⟨j + 1, P ++ [(at', z)], k + 1, a5, c5, g5, by go_num, by omega, by omega, ⟨by simp [HPk.out.1], HPn.out⟩, at_set q2 6 _, ?_, hg5, K5.onl ((Only.refl [p8] w5).setCell (fun _ => by simp) _) (by intro q hq; have := List.mem_singleton.1 hq; omega)⟩
                    unfold Hid
                    rw [rrs_append]
                    have hr1 : rrs [(at', z)] = [.int .u64 at', .string s] := by rw [← Hs8.out]; rfl
                    rw [hr1]
                    exact ((Only.refl [p8] w5).setCell (fun _ => by simp) _).app hA5 (by intro k hk hm; have := hg5 k hk; simp at hm; omega)
                  case measure => simp [intOf]; omega)
              · have d9 : (ofI at' == off + k) = false := by simp [h9]
                have hp1 := HPc.out
                rw [if_neg (fun h => h9 h.2)] at hp1
                have HPn := Lib.hid hp1
                clear hp1 HPc h9
                go_upto_region 12 with fail
                go_quiet ((go_at_call 35; exact Calls.quiet_of_same (unflip (ref_off _ _ (by omega) (by omega)))))
                go_wp2
                go_roundw
                case rel => exact ⟨j + 1, P, k, a', c', g, by go_num, by omega, by omega, ⟨HPk.out.1, HPn.out⟩, HM.out, (((Only.refl [] wr).drewN _).app HAp.out (by simp)), HGr.out, Kr.dr ((Dr.refl _).drewN _)⟩
                case measure => simp [intOf]; omega
            · have d8 : decide ((k : Int) < 8) = false := decide_eq_false (by omega)
              have hp1 := HPc.out
              rw [if_neg (fun h => h8 h.1)] at hp1
              have HPn := Lib.hid hp1
              clear hp1 HPc
              go_upto_region 12 with fail
              go_quiet ((go_at_call 35; exact Calls.quiet_of_same (unflip (ref_off _ _ (by omega) (by omega)))))
              go_wp2
              go_roundw
              case rel => exact ⟨j + 1, P, k, a', c', g, by go_num, by omega, by omega, ⟨HPk.out.1, HPn.out⟩, HM.out, (((Only.refl [] wr).drewN _).app HAp.out (by simp)), HGr.out, Kr.dr ((Dr.refl _).drewN _)⟩
              case measure => simp [intOf]; omega
          · have hge : (ln : Int) ≤ j := by omega
            have hPP := HPk.out.2
            rw [List.drop_of_length_le (by omega)] at hPP
            have hP : pickL off 0 L = P := by rw [hPP]; simp [pickL]
            have hPl := HPk.out.1
            have hsl := app_slRR HAp.out
            have HGm := Lib.hid (ref_goodM 1 who t1 ep off prev 0 a' k c' none 0 0 P [] wr hsl (sl_nil _ _) (fun i => by simp) (by omega) (fun l hl => HLw.out l (by rw [← hP] at hl; exact pickL_mem off L 0 l hl)))
            obtain ⟨g8, hg8⟩ : ∃ g8, goodM ⟨1, who, t1, ep, off, prev, none, k, 0, none, 0, 0, 0⟩ (rowL P) [] = g8 := ⟨_, rfl⟩
            rw [hg8] at HGm
            have HPq := Lib.hid hP
            have Hg8 := Lib.hid hg8
            have HSl := Lib.hid hsl
            have HPl := Lib.hid hPl
            clear hPP hP hPl hsl HPk hg8 HAp HGr
            go_wp2_with fail
            refine HGm.out.mono ?_
            rintro e' V2 ⟨rfl, J2⟩
            clear m0 m1 m2 m3 m4 m5 m6 m7 m8 HGm
            have K2 := Kr.trans J2
            have hszw := HX3.out V2 K2
            cases g8
            · have hb := H2.out V2 K2
              obtain ⟨m0, m1, m2, m3, m4, m5, m6, m7, m8⟩ := nine_cells hb
              have zf := one_free hb
              clear hb
              go_wp2
              have hd := nine_set (H2.out V2 K2) (.int .i64 0) (.int .i64 0) (.int .i64 0) (.int .i64 0) (.int .i64 0) (.int .i64 0) (.slice none 0 0) (.slice none 0 0) (.int .i64 0)
              have KF := (K.trans K2).onl (only_set9 V2 (w.heap.size + 2) (.int .i64 0) (.int .i64 0) (.int .i64 0) (.int .i64 0) (.int .i64 0) (.int .i64 0) (.slice none 0 0) (.slice none 0 0) (.int .i64 0)) (by intro q hq; have := List.mem_singleton.1 hq; omega)
              generalize World.setCell (World.setCell (World.setCell (World.setCell (World.setCell (World.setCell (World.setCell (World.setCell (World.setCell V2 _ _) _ _) _ _) _ _) _ _) _ _) _ _) _ _) _ _ = VF at *
              obtain ⟨y0, y1, y2, y3, y4, y5, y6, y7, y8⟩ := nine_cells hd
              refine bodyPost_ret (v := .tuple #[.agg #[.int .i64 0, .int .i64 0, .int .i64 0, .int .i64 0, .int .i64 0, .int .i64 0, .slice none 0 0, .slice none 0 0, .int .i64 0], .int .i64 1]) (by simp [results, Try.results16, go_sem, y0, y1, y2, y3, y4, y5, y6, y7, y8]) rfl ?_
              rw [HPq.out, HPl.out, Hg8.out]
              exact ⟨none, 0, .inr ⟨fun h => (by cases h.2), rfl⟩, KF⟩
            · have HMF := Lib.hid (J2.only.heap HM.out (by simp))
              have hb := H2.out V2 K2
              obtain ⟨m0, m1, m2, m3, m4, m5, m6, m7, m8⟩ := nine_cells HMF.out
              obtain ⟨n0, n1, n2, n3, n4, n5, n6, n7, n8⟩ := nine_cells hb
              have zf := one_free hb
              clear hb
              go_wp2
              have hd := nine_set (H2.out V2 K2) (.int .i64 1) (.int .i64 who) (.int .i64 t1) (.int .i64 ep) (.int .i64 off) (.int .i64 prev) (.slice a' k c') (.slice none 0 0) (.int .i64 0)
              have O := only_set9 V2 (w.heap.size + 2) (.int .i64 1) (.int .i64 who) (.int .i64 t1) (.int .i64 ep) (.int .i64 off) (.int .i64 prev) (.slice a' k c') (.slice none 0 0) (.int .i64 0)
              have KF := (K.trans K2).onl O (by intro q hq; have := List.mem_singleton.1 hq; omega)
              have HSF := slRR_apart O (HSl.out.kept J2) (H2.out V2 K2) (by simp)
              clear O
              generalize World.setCell (World.setCell (World.setCell (World.setCell (World.setCell (World.setCell (World.setCell (World.setCell (World.setCell V2 _ _) _ _) _ _) _ _) _ _) _ _) _ _) _ _) _ _ = VF at *
              obtain ⟨y0, y1, y2, y3, y4, y5, y6, y7, y8⟩ := nine_cells hd
              refine bodyPost_ret (v := .tuple #[.agg #[.int .i64 1, .int .i64 who, .int .i64 t1, .int .i64 ep, .int .i64 off, .int .i64 prev, .slice a' k c', .slice none 0 0, .int .i64 0], .int .i64 0]) (by simp [results, Try.results16, go_sem, y0, y1, y2, y3, y4, y5, y6, y7, y8]) rfl ?_
              rw [HPq.out, HPl.out, Hg8.out]
              exact ⟨a', c', .inl ⟨HGd.out, rfl, rfl, HSF⟩, KF⟩
  · rw [decide_eq_false hg] at HG
    have HGd := Lib.hid hg
    clear hg
    go_enter Try.func16, Try.ntmps16
    go_wp2_with fail
    clear s0 s1 s2 s3 u0 u1
    generalize World.alloc (World.alloc (World.alloc w _) _) _ = X at *
    refine (HG.out _ K).mono ?_
    rintro e' V1 ⟨rfl, J1⟩
    have hb := H2.out V1 J1
    obtain ⟨m0, m1, m2, m3, m4, m5, m6, m7, m8⟩ := nine_cells hb
    have zf := one_free hb
    clear hb
    go_wp2
    have hd := nine_set (H2.out V1 J1) (.int .i64 0) (.int .i64 0) (.int .i64 0) (.int .i64 0) (.int .i64 0) (.int .i64 0) (.slice none 0 0) (.slice none 0 0) (.int .i64 0)
    have KF := (K.trans J1).onl (only_set9 V1 (w.heap.size + 2) (.int .i64 0) (.int .i64 0) (.int .i64 0) (.int .i64 0) (.int .i64 0) (.int .i64 0) (.slice none 0 0) (.slice none 0 0) (.int .i64 0)) (by intro q hq; have := List.mem_singleton.1 hq; omega)
    generalize World.setCell (World.setCell (World.setCell (World.setCell (World.setCell (World.setCell (World.setCell (World.setCell (World.setCell V1 _ _) _ _) _ _) _ _) _ _) _ _) _ _) _ _) _ _ = VF at *
    obtain ⟨y0, y1, y2, y3, y4, y5, y6, y7, y8⟩ := nine_cells hd
    exact bodyPost_ret (v := .tuple #[.agg #[.int .i64 0, .int .i64 0, .int .i64 0, .int .i64 0, .int .i64 0, .int .i64 0, .slice none 0 0, .slice none 0 0, .int .i64 0], .int .i64 1]) (by simp [results, Try.results16, go_sem, y0, y1, y2, y3, y4, y5, y6, y7, y8]) rfl ⟨none, 0, .inr ⟨fun h => HGd.out h.1, rfl⟩, KF⟩
end Go.Proofs.Ytmkoabalakfehaa
