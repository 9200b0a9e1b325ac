/- Orders, the document's: in, Order. -/
import Derived.Test.YtmejphlpcgochaaTo2
import Derived.Test.YtmejphlpcgochaaGrR2
set_option linter.unusedVariables false
set_option linter.unusedSimpArgs false
namespace Go.Proofs.Ytmejphlpcgochaa
open Go.RowKit
set_option maxRecDepth 100000 in
set_option maxHeartbeats 4000000 in
theorem r_in {w : World} {a : Option Addr} {n c : Nat} {l : List Int} (v0 : Int) (hS : Sl .i64 w a n c l) (hn : n ≤ 1000) :
    Calls Try.prog 37 #[.slice a n c, .int .i64 v0] w fun e w' => e = .returned (.bool (hasI l v0)) ∧ w' = w := by
  have hl := hS.1
  have hnc := hS.2.1
  have HS := Lib.hid hS
  clear hS
  go_enter Try.func37, Try.ntmps37
  go_wp2_with fail
  go_loopw [5] (fun i wr => ∃ j : Nat, i = .int .i64 (j : Nat) ∧ j ≤ n ∧ Hid (wr = w) ∧ Hid (v0 ∉ l.take j)) (fun i _ => n - (intOf i).toNat)
  case atStart => exact ⟨0, rfl, by omega, rfl, by simp [Hid]⟩
  case round =>
    obtain ⟨j, rfl, hj, HW, HI⟩ := hrel
    obtain rfl : wr = w := HW.out
    by_cases hlt : j < n
    · have hlt' : (j : Int) < n := by omega
      obtain ⟨x, hx⟩ : ∃ x, l[j]? = some x := ⟨_, List.getElem?_eq_getElem (by omega)⟩
      obtain ⟨b, o, v, rfl, hc, hv⟩ := HS.out.at j hlt
      have hvx : v = x := by rw [hv.out, List.getD_eq_getElem?_getD, hx]; rfl
      subst hvx
      have HX := Lib.hid hx
      clear hx hv
      by_cases hvv : v = v0
      · have f1 : (v == v0) = true := by simp [hvv]
        have HR : Hid (hasI l v0 = true) := (hasI_iff l v0).2 (hvv ▸ List.mem_of_getElem? HX.out)
        clear hvv
        go_wp2_with fail
        go_ret
        exact ⟨ret_bool HR.out.symm, rfl⟩
      · have f1 : (v == v0) = false := by simp [hvv]
        have HI2 : Hid (v0 ∉ l.take (j + 1)) := fun h => by
          rw [List.take_add_one, HX.out, List.mem_append] at h
          rcases h with h | h
          · exact HI.out h
          · simp at h; exact hvv h.symm
        clear hvv
        go_wp2_with fail
        go_roundw
        case rel => exact ⟨j + 1, by go_num, by omega, by first | exact trivial | exact rfl, HI2⟩
        case measure => simp [intOf]; omega
    · have hge : (n : Int) ≤ j := by omega
      have HR : Hid (hasI l v0 = false) := by
        have := HI.out
        rw [List.take_of_length_le (by omega)] at this
        unfold Hid
        rw [← Bool.not_eq_true, hasI_iff]
        exact this
      go_wp2_with fail
      go_ret
      exact ⟨ret_bool HR.out.symm, rfl⟩
def lenOfT : Value → Nat
  | .slice _ n _ => n
  | _ => 0
theorem rdyT_eq2 (N : Int) (E : List Ed) (out : List Int) (n : Int) : rdyT N E out n = (!hasI out n && (besL N E n 1).all fun x => hasI out x) := by
  rw [rdyT_eq, Bool.and_comm]
  congr 1
  induction besL N E n 1 with
  | nil => rfl
  | cons x l ih => rw [List.any_cons, Bool.not_or, Bool.not_not, ih, List.all_cons]
theorem all_take_succ {f : Int → Bool} {l : List Int} {i : Nat} {x : Int} (hx : l[i]? = some x) : (l.take (i + 1)).all f = ((l.take i).all f && f x) := by
  rw [List.take_add_one, hx, List.all_append]; simp
set_option maxRecDepth 100000 in
set_option maxHeartbeats 16000000 in
theorem ro_order {w : World} {s : Option Addr} {m c : Nat} {E : List Ed} (N : Int) (hE : SlE w s m c E) (hm : m ≤ 900) :
    Calls Try.prog 18 #[.agg #[.int .i64 N, .slice s m c]] w fun e w' => ∃ (a : Option Addr) (k c' : Nat), e = .returned (.tuple #[.slice a k c', .bool (orderT N E).isSome]) ∧ Sl .i64 w' a k c' ((orderT N E).getD []) ∧ Kept w w' ∧ k ≤ 16 ∧ (∀ y, a = some y → w.heap.size ≤ y.block) := by
  have hB0 := heap_alloc_new w (.cells #[.int .i64 N, .slice s m c] 41)
  have K0 := kept_al w (.cells #[.int .i64 N, .slice s m c] 41)
  have b0 := at_cell hB0 0 _ rfl
  have b1 := at_cell hB0 1 _ rfl
  have HGd := Lib.hid (r_good N (hE.kept K0) hm)
  have HE := Lib.hid hE
  have HK0 := Lib.hid K0
  have HB := Lib.hid hB0
  clear hE K0 hB0
  go_enter Try.func18, Try.ntmps18
  go_wp2_with fail
  generalize World.alloc w _ = X0 at *
  generalize hbx : w.heap.size = bx at *
  refine HGd.out.mono ?_
  rintro E1 V1 ⟨rfl, hK1⟩
  have HK1 := Lib.hid (HK0.out.trans hK1)
  have HB1 := Lib.hid (hK1.only.heap HB.out (by simp))
  have hV1 := lt_heap HB1.out
  clear hK1 HGd
  cases hg : goodG N E with
  | false =>
    have HR : Hid (orderT N E = none) := by unfold Hid orderT; rw [hg]; rfl
    clear hg
    go_wp2_with fail
    exact bodyPost_ret (v := .tuple #[.slice none 0 0, .bool false]) (by simp [results, Try.results18, go_sem]) rfl ⟨none, 0, 0, by rw [HR.out]; rfl, by rw [HR.out]; exact sl_nil _ _, HK1.out, Nat.zero_le _, fun y hy => by cases hy⟩
  | true =>
    have HG : Hid (goodG N E = true) := hg
    have hN := good_N hg
    obtain ⟨k0, rfl⟩ : ∃ k0 : Nat, N = k0 := ⟨N.toNat, by omega⟩
    have HO0 : Hid (orderT k0 E = ordF k0 E k0 []) := by unfold Hid orderT; rw [if_pos hg, Int.toNat_natCast]
    clear hg
    go_wp2_with fail
    go_loopw [4] (fun v wr => ∃ (j : Nat) (out : List Int) (a' : Option Addr) (c' : Nat) (g : Option Nat), v = .slice a' j c' ∧ j ≤ k0 ∧ out.length = j ∧ Hid (orderT k0 E = ordF k0 E (k0 - j) out) ∧ Hid (App wr 3 1 (.slice a' j c') j g (ivs out)) ∧ Hid (Kept V1 wr) ∧ Hid (∀ k ∈ g.toList, V1.heap.size ≤ k)) (fun v _ => k0 - lenOfT v)
    case atStart => exact ⟨0, [], none, 0, none, rfl, by omega, rfl, HO0.out, app_nil _ _ _, Kept.refl _, by intro k hk; simp at hk⟩
    case round =>
      obtain ⟨j, out, a', c', g, rfl, hj, hol, HO, HAp, HK, HGb⟩ := hrel
      have HSo := Lib.hid (app_sl HAp.out)
      have hoc := HSo.out.2.1
      have HBg := Lib.hid (HK.out.only.heap HB1.out (by simp))
      have c0 := at_cell HBg.out 0 (.int .i64 (k0 : Nat)) rfl
      by_cases hlt : j < k0
      · have hlt' : (j : Int) < k0 := by omega
        have HO2 : Hid (orderT k0 E = if lowU (rdyT k0 E out) k0 k0 < 0 then none else ordF k0 E (k0 - (j + 1)) (out ++ [lowU (rdyT k0 E out) k0 k0])) := by
          unfold Hid
          rw [HO.out, show k0 - j = (k0 - (j + 1)) + 1 by omega, ordF, Int.toNat_natCast]
        have HRd := Lib.hid (rdyT_eq2 k0 E out)
        obtain ⟨p, hp⟩ : ∃ p, rdyT (k0 : Int) E out = p := ⟨_, rfl⟩
        rw [hp] at HO2 HRd
        have hz1 : ((k0 : Int) - 1 - ((k0 : Int) - 1)).toNat = 0 := by omega
        clear hp HO
        go_wp2_with fail
        clear c0
        go_loopw [5, 6] (fun v5 v6 wx => ∃ (z : Int), v6 = .int .i64 z ∧ -1 ≤ z ∧ z < k0 ∧ v5 = .int .i64 (lowU p k0 (k0 - 1 - z).toNat) ∧ Hid (Kept wr wx)) (fun _ v6 _ => (intOf v6 + 1).toNat)
        case atStart => exact ⟨(k0 : Int) - 1, by go_num, by omega, by omega, by rw [hz1]; rfl, Kept.refl _⟩
        case round =>
          obtain ⟨z, rfl, hz1, hz2, rfl, HKx⟩ := hrel
          have HBx := Lib.hid (HKx.out.only.heap HBg.out (by simp))
          have HSx := Lib.hid (HKx.out.sl HSo.out)
          have c0 := at_cell HBx.out 0 (.int .i64 (k0 : Nat)) rfl
          have c1 := at_cell HBx.out 1 (.slice s m c) rfl
          by_cases hz : 0 ≤ z
          · have HA := Lib.hid (r_ahead (k0 : Int) z (HE.out.kept ((HK1.out.trans HK.out).trans HKx.out)) hm)
            have HSt := Lib.hid (lowU_step p k0 z hz hz2)
            have HP := Lib.hid (HRd.out z)
            go_wp2_with fail
            refine HA.out.mono ?_
            rintro E2 V2 ⟨ba, bk, bc, rfl, hSb, hK2, hbm2, -⟩
            have HSb := Lib.hid hSb
            have hbl := hSb.1
            have hbc := hSb.2.1
            have HK2 := Lib.hid (HKx.out.trans hK2)
            have HIn := Lib.hid (r_in z (hK2.sl HSx.out) (by omega))
            clear hSb hK2 HA c0 c1
            go_wp2_with fail
            refine HIn.out.mono ?_
            rintro E3 V3 ⟨rfl, rfl⟩
            clear HIn
            obtain ⟨h0, hh0⟩ : ∃ h0, hasI out z = h0 := ⟨_, rfl⟩
            rw [hh0] at HP ⊢
            clear hh0
            go_wp2_with fail
            go_loopw [8, 9] (fun v8 v9 wy => ∃ (i : Nat), v8 = .bool (!h0 && ((besL k0 E z 1).take i).all fun x => hasI out x) ∧ v9 = .int .i64 (i : Nat) ∧ i ≤ bk ∧ Hid (Dr V3 wy)) (fun _ v9 _ => bk - (intOf v9).toNat)
            case atStart => exact ⟨0, by simp, rfl, by omega, Dr.refl _⟩
            case round =>
              obtain ⟨i, rfl, rfl, hi, HDr⟩ := hrel
              have K5 : Kept V3 wr := (Kept.refl _).dr HDr.out
              by_cases hlti : i < bk
              · have hlti' : (i : Int) < bk := by omega
                obtain ⟨x, hx⟩ : ∃ x, (besL k0 E z 1)[i]? = some x := ⟨_, List.getElem?_eq_getElem (by omega)⟩
                obtain ⟨b2, o2, v, rfl, hac, hav⟩ := (K5.sl HSb.out).at i hlti
                have hva : v = x := by rw [hav.out, List.getD_eq_getElem?_getD, hx]; rfl
                subst hva
                have HAl := Lib.hid (all_take_succ (f := fun x => hasI out x) hx)
                have HIn := Lib.hid (r_in v (K5.sl ((HK2.out).sl HSo.out)) (by omega))
                obtain ⟨q, hq⟩ : ∃ q, (!h0 && ((besL k0 E z 1).take i).all fun x => hasI out x) = q := ⟨_, rfl⟩
                have HQ : Hid ((!h0 && ((besL k0 E z 1).take (i + 1)).all fun x => hasI out x) = (q && hasI out v)) := by
                  unfold Hid
                  rw [HAl.out, ← hq, Bool.and_assoc]
                rw [hq]
                clear hx hav hq K5 HAl
                cases q with
                | true =>
                  go_wp2_with fail
                  refine HIn.out.mono ?_
                  rintro E4 V4 ⟨rfl, rfl⟩
                  clear HIn
                  go_wp2_with fail
                  go_roundw
                  case rel => exact ⟨i + 1, by rw [HQ.out]; rfl, by go_num, by omega, HDr.out⟩
                  case measure => simp [intOf]; omega
                | false =>
                  go_wp2_with fail
                  go_roundw
                  case rel => exact ⟨i + 1, by rw [HQ.out]; rfl, by go_num, by omega, HDr.out⟩
                  case measure => simp [intOf]; omega
              · have hpz : (!h0 && ((besL k0 E z 1).take i).all fun x => hasI out x) = p z := by
                  rw [HP.out, List.take_of_length_le (by omega)]
                rw [hpz]
                have HK3 := Lib.hid (HK2.out.trans K5)
                clear hpz K5 HDr
                cases hpp : p z with
                | true =>
                  have HS2 : Hid (lowU p k0 (k0 - 1 - (z - 1)).toNat = z) := by unfold Hid; rw [HSt.out, if_pos hpp]
                  clear hpp
                  go_wp2_with fail
                  go_roundw
                  case rel => exact ⟨z - 1, rfl, by omega, by omega, by rw [HS2.out], HK3.out⟩
                  case measure => simp [intOf]; omega
                | false =>
                  have HS2 : Hid (lowU p k0 (k0 - 1 - (z - 1)).toNat = lowU p k0 (k0 - 1 - z).toNat) := by unfold Hid; rw [HSt.out, if_neg (by rw [hpp]; simp)]
                  clear hpp
                  go_wp2_with fail
                  go_roundw
                  case rel => exact ⟨z - 1, rfl, by omega, by omega, by rw [HS2.out], HK3.out⟩
                  case measure => simp [intOf]; omega
          · have hze : ((k0 : Int) - 1 - z).toNat = k0 := by omega
            rw [hze]
            have hlow : -1 ≤ lowU p k0 k0 ∧ lowU p k0 k0 < k0 := by
              rcases lowU_spec p k0 k0 (Nat.le_refl _) with ⟨h1, _⟩ | ⟨q, h1, _, h2, _⟩ <;> omega
            obtain ⟨lo, hlo⟩ : ∃ lo, lowU p k0 k0 = lo := ⟨_, rfl⟩
            rw [hlo] at HO2 hlow ⊢
            have HK2 := Lib.hid (HK.out.trans HKx.out)
            have HAx := Lib.hid (HKx.out.only.app HAp.out (by simp))
            clear hlo hze c1
            by_cases hl : lo < 0
            · rw [if_pos hl] at HO2
              have HKF := Lib.hid (HK1.out.trans HK2.out)
              go_wp2_with fail
              exact bodyPost_ret (v := .tuple #[.slice none 0 0, .bool false]) (by simp [results, Try.results18, go_sem]) rfl ⟨none, 0, 0, by rw [HO2.out]; rfl, by rw [HO2.out]; exact sl_nil _ _, HKF.out, Nat.zero_le _, fun y hy => by cases hy⟩
            · rw [if_neg hl] at HO2
              have KL := kept_al wr (.cells #[.int .i64 lo] 3)
              have HAL := Lib.hid (KL.only.app HAx.out (by simp))
              have HKL := Lib.hid (HK2.out.trans KL)
              have HSrc := Lib.hid (src_block (P := Try.prog) (size := 1) Try.underlying29 (heap_alloc_new wr (.cells #[.int .i64 lo] 3)) 1 1 rfl (by simp [Value.oneCell']))
              have hVz := HK2.out.size
              clear KL c0
              go_wp2_with (at_builtin; refine wpList_app rfl (.tmp 51) (.tmp 53) 29 29 rfl elemI _ j _ _ rfl HAL.out _ 1 _ rfl HSrc.out (by omega) (by unfold maxLen; omega) ?_; intro a5 c5 g5 w5 hA5 hO5 hG5; have HA5 := Lib.hid hA5; have HO5 := Lib.hid hO5; have HG5 := Lib.hid hG5; clear hA5 hO5 hG5)
              have hg1 : ∀ i ∈ g5.toList, V1.heap.size ≤ i := by
                intro i hi
                rcases HG5.out with h | h
                · rw [h] at hi; exact HGb.out i hi
                · rw [h] at hi; simp at hi hVz; omega
              have hK5 : Kept V1 w5 := HKL.out.onl HO5.out HGb.out
              go_roundw
              case rel => exact ⟨j + 1, out ++ [lo], a5, c5, g5, rfl, by omega, by simp [hol], HO2.out, by rw [ivs_app]; exact HA5.out, hK5, hg1⟩
              case measure => simp [lenOfT]; omega
      · have hje : j = k0 := by omega
        subst hje
        have HR : Hid (orderT j E = some out) := by unfold Hid; rw [HO.out, Nat.sub_self]; rfl
        have HNew : Hid (∀ y, a' = some y → w.heap.size ≤ y.block) := fun y hy => by
          subst hy
          have h1 := HGb.out y.block (by rw [app_blkI HAp.out]; simp)
          have := HK1.out.size
          omega
        have HKF := Lib.hid (HK1.out.trans HK.out)
        go_wp2_with fail
        exact bodyPost_ret (v := .tuple #[.slice a' j c', .bool true]) (by simp [results, Try.results18, go_sem]) rfl ⟨a', j, c', by rw [HR.out]; rfl, by rw [HR.out]; exact HSo.out, HKF.out, by omega, HNew.out⟩
end Go.Proofs.Ytmejphlpcgochaa
