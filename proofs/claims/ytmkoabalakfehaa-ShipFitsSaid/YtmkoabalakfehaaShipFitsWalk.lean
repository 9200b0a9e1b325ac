/- ShipFits: what is said begins where the other one is known to be alike. -/
import Derived.Test.YtmkoabalakfehaaShipFitsMath2
import Derived.Test.YtmkoabalakfehaaShipMake
import Derived.Test.YtmkoabalakfehaaEpCut2
import Derived.Deep.Cut
import Derived.Deep.CutRange
set_option linter.unusedVariables false
set_option linter.unusedSimpArgs false
namespace Go.Proofs.Ytmkoabalakfehaa
open Go.RowKit
theorem and1_u8 (v : Int) (h0 : 0 ≤ v) (h1 : v ≤ 255) : bits BinOp.and IntKind.u8 v 1 = v % 2 := by
  have h : ∀ n : Fin 256, bits BinOp.and IntKind.u8 (n.val : Int) 1 = (n.val : Int) % 2 := by decide +kernel
  have := h ⟨v.toNat, by omega⟩
  rwa [show ((v.toNat : Nat) : Int) = v by omega] at this
theorem slM_nil (W : World) : SlM W none 0 0 [] := ⟨rfl, Nat.le_refl _, Nat.zero_le _, by simp⟩
theorem slQ_nil (W : World) : SlQ W none 0 0 [] := ⟨rfl, Nat.le_refl _, Nat.zero_le _, by simp⟩
theorem sl_tab {w w' : World} {p : Nat} {a x : Option Addr} {n c y z : Nat} {zs : List Int} {E : Int} {t : TypeId} {m : Nat × Nat} (h : Only [p] w w') (hs : Sl .u64 w a n c zs) (hp : w.heap[p]? = some (.cells #[.slice x y z, .int .i64 E] t m)) : Sl .u64 w' a n c zs := by
  obtain ⟨h1, h2, h3, h4⟩ := hs
  refine ⟨h1, h2, h3, fun i hi => ?_⟩
  obtain ⟨b, o, rfl, hlt, hc⟩ := h4 i hi
  refine ⟨b, o, rfl, Nat.lt_of_lt_of_le hlt h.size, (h.cell (p := ⟨b, o + i, none⟩) hlt ?_).trans hc⟩
  intro hb
  have hb' : b = p := List.mem_singleton.1 hb
  subst hb'
  obtain ⟨e0, e1⟩ := two_cells hp
  rcases Nat.lt_or_ge (o + i) 2 with h5 | h5
  · have : o + i = 0 ∨ o + i = 1 := by omega
    rcases this with h6 | h6
    · rw [h6, e0] at hc; cases hc
    · rw [h6, e1] at hc; cases hc
  · have : w.cell? ⟨b, o + i, none⟩ = none := by simp [World.cell?, hp]; omega
    rw [this] at hc; cases hc
set_option maxRecDepth 100000 in
set_option maxHeartbeats 4000000 in
theorem shFits_walk (a : Option Addr) (n c : Nat) (zs : List Int) (cut : Int) (b : Option Addr) (m d : Nat) (w : World) (hz : Sl .u8 w a n c zs) (Bz : IsB zs) (hn : n ≤ 30) (hm : m ≤ 30) :
    Calls Try.prog 6 #[.slice a n c, .int .i64 cut, .slice b m d] w fun e w' => e = .returned (.bool true) ∧ Kept w w' := by
  have HZ := Lib.hid hz
  have HBz := Lib.hid Bz
  have i1 : n ≤ c := hz.2.1
  have i2 := hz.2.2.1
  unfold maxLen at i2
  have hnI : (n : Int) ≤ 30 := by omega
  have hmI : (m : Int) ≤ 30 := by omega
  clear hz Bz
  go_enter Try.func6, Try.ntmps6
  go_wp2_with fail
  refine (awake23 _).mono ?_
  rintro e w1 ⟨rfl, K1⟩
  go_upto_region 6 with fail
  have KX := (K1.trans (kept_al w1 (.cells #[.slice none 0 0, .int .i64 0] 24))).trans (kept_al _ (.cells #[.slice none 0 0, .int .i64 0] 24))
  have H7 : Hid (((w1.alloc (.cells #[.slice none 0 0, .int .i64 0] 24)).alloc (.cells #[.slice none 0 0, .int .i64 0] 24)).heap[w1.heap.size]? = some (.cells #[.slice none 0 0, .int .i64 0] 24 (0, 0))) := (kept_al _ _).only.heap (heap_alloc_new w1 _) (by simp)
  have H8 : Hid (((w1.alloc (.cells #[.slice none 0 0, .int .i64 0] 24)).alloc (.cells #[.slice none 0 0, .int .i64 0] 24)).heap[w1.heap.size + 1]? = some (.cells #[.slice none 0 0, .int .i64 0] 24 (0, 0))) := new_at _ (by simp)
  have hw7 := K1.size
  have hX7 : ((w1.alloc (.cells #[.slice none 0 0, .int .i64 0] 24)).alloc (.cells #[.slice none 0 0, .int .i64 0] 24)).heap.size = w1.heap.size + 2 := by simp
  generalize World.alloc (World.alloc w1 _) _ = X at *
  obtain ⟨p7, hp7⟩ : ∃ p, w1.heap.size = p := ⟨_, rfl⟩
  rw [hp7] at H7 H8 hw7 hX7 ⊢
  clear hp7
  go_wp2_with fail
  go_loopw [9, 10, 11] (fun ok ep i wr => ∃ (j : Nat) (T : List Int) (e : Int) (aT : Option Addr) (nT cT : Nat), ok = .bool true ∧ ep = .int .i64 e ∧ i = .int .i64 j ∧ j ≤ n ∧ 1 ≤ e ∧ e ≤ 1 + 2 * j ∧ Hid (TOk T j e ∧ T.length ≤ j) ∧ Hid (wr.heap[p7]? = some (.cells #[.slice aT nT cT, .int .i64 (j : Int)] 24 (0, 0))) ∧ Hid (wr.heap[p7 + 1]? = some (.cells #[.slice none 0 0, .int .i64 0] 24 (0, 0))) ∧ Hid (Sl .u64 wr aT nT cT T) ∧ Hid (∀ y, aT = some y → p7 + 1 < y.block) ∧ Kept w wr) (fun _ _ i _ => n - (intOf i).toNat)
  case atStart => exact ⟨0, [], 1, none, 0, 0, rfl, rfl, rfl, by omega, by omega, by omega, ⟨tOk_nil 1, Nat.le_refl _⟩, H7.out, H8.out, sl_nil _ _, (by intro y hy; cases hy), KX⟩
  case round =>
    obtain ⟨j, T, e, aT, nT, cT, rfl, rfl, rfl, hj, he1, he2, HT, HB7, HB8, HS, HF, Kr⟩ := hrel
    by_cases hlt : j < n
    · have hlt' : (j : Int) < n := by omega
      obtain ⟨b', o', z, rfl, hzc, hzv⟩ := (Kr.sl HZ.out).at j hlt
      have hzb := HBz.out j
      rw [← hzv.out] at hzb
      obtain ⟨z0, z1⟩ := hzb
      have hbt := and1_u8 z z0 z1
      have hz2 : 0 ≤ z % 2 ∧ z % 2 ≤ 1 := by omega
      generalize z % 2 = r at *
      obtain ⟨r0, r1⟩ := hz2
      clear hzv
      obtain ⟨v, hv⟩ : ∃ v, (e + 2 * r) * 17592186044416 + (j : Int) = v := ⟨_, rfl⟩
      obtain ⟨v0, v1, v2, v3, v4⟩ := tOk_add HT.out.1 (show e ≤ e + 2 * r by omega) (by omega) (by omega) (by omega)
      rw [hv] at v0 v1 v2 v3 v4
      have HP := Lib.hid (sh_at (e + 2 * r) j v wr.drew hv (by omega) (by omega) (by omega) (by omega))
      have hTl := HT.out.2
      have hSl := HS.out.1
      have HAd := Lib.hid (ep_add aT nT cT T j v wr.drew ((show Kept wr wr.drew from (Kept.refl _).dr ⟨1, rfl⟩).sl HS.out) HT.out.1.2.1 v0 v1 HT.out.1.1 v2 v3 (by omega))
      have HV4 := Lib.hid v4
      have HTl := Lib.hid (Nat.le_trans (addL_len T v) (Nat.succ_le_succ hTl))
      clear hv v0 v1 v2 v3 v4 hTl hSl
      obtain ⟨x0, x1⟩ := two_cells HB7.out
      have hsz7 := lt_heap HB8.out
      go_upto_region 12 with fail
      go_cut [9] from 33 to 57 (fun ok wx => ok = .bool true ∧ ∃ aN nN cN, Hid (wx.heap[p7]? = some (.cells #[.slice aN nN cN, .int .i64 (j + 1 : Int)] 24 (0, 0))) ∧ Hid (wx.heap[p7 + 1]? = some (.cells #[.slice none 0 0, .int .i64 0] 24 (0, 0))) ∧ Hid (Sl .u64 wx aN nN cN (addL T v)) ∧ Hid (∀ y, aN = some y → p7 + 1 < y.block) ∧ Kept w wx)
      case first =>
        go_region_with (first | (go_at_call 13; refine HP.out.mono ?_; rintro E w' ⟨rfl, rfl⟩) | (go_at_call 25; refine HAd.out.mono ?_; rintro E V2 ⟨aN, nN, cN, rfl, hS2, hF2, J⟩; have KV := ((Kept.refl wr).dr ⟨1, rfl⟩).trans J; have hb7 := KV.only.heap HB7.out (by simp); obtain ⟨d0, d1⟩ := two_cells hb7; have f0 := one_free hb7 0; have f1 := one_free hb7 1; have HV7 := Lib.hid hb7; have HS2 := Lib.hid hS2; have HF2 := Lib.hid hF2; clear hb7 hS2 hF2 J))
        all_goals (go_wp2_with fail; go_meet)
        all_goals exact ⟨rfl, aN, nN, cN, two_set HV7.out _ _, (only_set2 V2 p7 _ _).heap (KV.only.heap HB8.out (by simp)) (by simp), (only_set2 V2 p7 _ _).sl HS2.out (fun y hy => by have := HF2.out y hy; simp at this ⊢; omega), (fun y hy => by have := HF2.out y hy; simp at this; omega), (Kr.trans KV).onl (only_set2 V2 p7 _ _) (by intro q hq; have := List.mem_singleton.1 hq; omega)⟩
      case rest =>
        obtain ⟨rfl, aN, nN, cN, H7', H8', HS', HF', K'⟩ := hcut
        clear x0 x1
        go_wp2
        go_roundw
        case rel => exact ⟨j + 1, addL T v, e + 2 * r, aN, nN, cN, rfl, rfl, by go_num, by omega, by omega, by push_cast; omega, ⟨by simpa using HV4.out, HTl.out⟩, (by unfold Hid; simpa using H7'.out), H8'.out, HS'.out, HF'.out, K'⟩
        case measure => simp [intOf]; omega
    · have hge : (n : Int) ≤ j := by omega
      obtain rfl : j = n := by omega
      have hb7 := HB7.out
      obtain ⟨x0, x1⟩ := two_cells hb7
      have hsz7 := lt_heap HB8.out
      clear hb7
      have hf0 := tOk_first HT.out.1
      by_cases c0 : cut < 0
      · have d0 : decide (cut < 0) = true := decide_eq_true c0
        clear c0 hf0
        go_wp2_with fail
        exact bodyPost_ret (v := .bool true) (by simp [results, Try.results6, go_sem]) rfl ⟨rfl, Kr⟩
      · have d0 : decide (cut < 0) = false := decide_eq_false c0
        by_cases c1 : (j : Int) < cut
        · have d1 : decide ((j : Int) < cut) = true := decide_eq_true c1
          clear c0 c1 hf0
          go_wp2_with fail
          exact bodyPost_ret (v := .bool true) (by simp [results, Try.results6, go_sem]) rfl ⟨rfl, Kr⟩
        · have d1 : decide ((j : Int) < cut) = false := decide_eq_false c1
          obtain ⟨k, hk, hk1, hk2⟩ := cut_at HT.out.1.1 cut T.length (Nat.le_refl _)
          have hSl := HS.out.1
          have hCu := ep_cut_yes aT nT cT k T j cut wr HS.out HT.out.1.2.1 HT.out.1.1 (by omega) (by omega) (by omega) hk1 (fun q h3 h4 => hk2 q h3 (by omega)) (by have := HT.out.2; omega)
          have HCu := Lib.hid hCu
          have HK : Hid (CutK T cut k) := ⟨hk, hk1, hk2⟩
          have hc0 : 0 ≤ cut := by omega
          have hc1 : cut ≤ j := by omega
          clear c0 c1 hCu hk hk1 hk2 hSl hf0
          go_wp2_with fail
          refine HCu.out.mono ?_
          rintro E V ⟨aU, cU, rfl, hS', J⟩
          have hb7 := J.only.heap HB7.out (by simp)
          have hb8 := J.only.heap HB8.out (by simp)
          have HV7 := Lib.hid hb7
          have HV8 := Lib.hid hb8
          have HS' := Lib.hid hS'
          obtain ⟨d0', d1'⟩ := two_cells hb8
          have f0' := one_free hb8 0
          have f1' := one_free hb8 1
          clear hb7 hb8 hS' x0 x1 hsz7
          go_upto_region 18 with fail
          have GB7 := Lib.hid ((only_set2 V (p7 + 1) (.slice aU k cU) (.int .i64 cut)).heap HV7.out (by simp))
          have GB8 := Lib.hid (two_set HV8.out (.slice aU k cU) (.int .i64 cut))
          have GS := Lib.hid ((only_set2 V (p7 + 1) (.slice aU k cU) (.int .i64 cut)).sl (J.sl HS.out) (fun y hy => by have := HF.out y hy; simp; omega))
          have GU := Lib.hid (sl_tab (only_set2 V (p7 + 1) (.slice aU k cU) (.int .i64 cut)) HS'.out HV8.out)
          have hsz8 := lt_heap GB8.out
          have KY := (Kr.trans J).onl (only_set2 V (p7 + 1) (.slice aU k cU) (.int .i64 cut)) (by intro q hq; have := List.mem_singleton.1 hq; omega)
          clear d0' d1' f0' f1' HS' HV7 HV8 HB7 HB8 HS HCu J
          generalize World.setCell (World.setCell V _ _) _ _ = Y at *
          clear d0 d1
          go_wp2_with fail
          go_loopw [9, 12] (fun ok iv wx => ∃ (i : Nat) (aV : Option Addr) (nV cV : Nat), ok = .bool true ∧ iv = .int .i64 i ∧ i ≤ m ∧ Hid (wx.heap[p7]? = some (.cells #[.slice aT nT cT, .int .i64 (j : Int)] 24 (0, 0))) ∧ Hid (wx.heap[p7 + 1]? = some (.cells #[.slice aV nV cV, .int .i64 (cut + i : Int)] 24 (0, 0))) ∧ Hid (Sl .u64 wx aT nT cT T) ∧ Hid (Sl .u64 wx aV nV cV (othT T k e cut i)) ∧ Kept w wx) (fun _ iv _ => m - (intOf iv).toNat)
          case atStart => exact ⟨0, aU, k, cU, rfl, rfl, by omega, GB7, by simpa using GB8, GS, by unfold othT; rw [if_pos rfl, List.append_nil]; exact GU, KY⟩
          case round =>
            clear GB7 GB8 GS GU KY hsz8
            obtain ⟨i, aV, nV, cV, rfl, rfl, hi, GB7, GB8, GS, GU, Kx⟩ := hrel
            by_cases hlt2 : i < m
            · have hlt2' : (i : Int) < m := by omega
              obtain ⟨g1, g2, g3⟩ := oth_good HT.out.1 (by omega) (by omega) (by omega) hc0 hc1 HK.out i (by omega)
              have hwU := oth_mem HT.out.1 (by omega) (by omega) hc0 (by omega) (k := k) i
              have hol := oth_len T k e cut i
              have hTl := HT.out.2
              have hSl := GU.out.1
              obtain ⟨v, hv⟩ : ∃ v, (e + 1) * 17592186044416 + (cut + (i : Int)) = v := ⟨_, rfl⟩
              have hwe : IntKind.i64.wrap (e + 1) = e + 1 := by rw [IntKind.wrap_i64]; omega
              obtain ⟨v1, v2⟩ := ep_of_pack (e + 1) (cut + i) (by omega) (by omega)
              rw [hv] at v1 v2 g3
              have HP := Lib.hid (sh_at (e + 1) (cut + i) v wr.drew hv (by omega) (by omega) (by omega) (by omega))
              have hAd := ep_add aV nV cV (othT T k e cut i) (cut + i) v wr.drew ((show Kept wr wr.drew from (Kept.refl _).dr ⟨1, rfl⟩).sl GU.out) hwU (by omega) (by omega) g1 v2 (fun hne => by rw [v1]; exact g2 hne) (by omega)
              rw [g3] at hAd
              have HAd := Lib.hid hAd
              obtain ⟨x0, x1⟩ := two_cells GB8.out
              have hsz8 := lt_heap GB8.out
              clear hv v1 v2 g1 g2 g3 hAd hwU hol hTl hSl
              go_upto_region 23 with fail
              go_cut [9] from 81 to 98 (fun ok wQ => ok = .bool true ∧ ∃ aN nN cN, Hid (wQ.heap[p7]? = some (.cells #[.slice aT nT cT, .int .i64 (j : Int)] 24 (0, 0))) ∧ Hid (wQ.heap[p7 + 1]? = some (.cells #[.slice aN nN cN, .int .i64 (cut + i + 1 : Int)] 24 (0, 0))) ∧ Hid (Sl .u64 wQ aT nT cT T) ∧ Hid (Sl .u64 wQ aN nN cN (othT T k e cut (i + 1))) ∧ Kept w wQ)
              case first =>
                go_region_with (first | (go_at_call 13; refine HP.out.mono ?_; rintro E w' ⟨rfl, rfl⟩) | (go_at_call 25; refine HAd.out.mono ?_; rintro E V2 ⟨aN, nN, cN, rfl, hS2, hF2, J⟩; have KV := ((Kept.refl wr).dr ⟨1, rfl⟩).trans J; have hb8 := KV.only.heap GB8.out (by simp); obtain ⟨d0, d1⟩ := two_cells hb8; have f0 := one_free hb8 0; have f1 := one_free hb8 1; have HV8 := Lib.hid hb8; have HS2 := Lib.hid hS2; have HF2 := Lib.hid hF2; clear hb8 hS2 hF2 J))
                all_goals (go_wp2_with fail; go_meet)
                all_goals exact ⟨rfl, aN, nN, cN, (only_set2 V2 (p7 + 1) _ _).heap (KV.only.heap GB7.out (by simp)) (by simp), two_set HV8.out _ _, (only_set2 V2 (p7 + 1) _ _).sl (KV.sl GS.out) (fun y hy => by have := HF.out y hy; simp; omega), sl_tab (only_set2 V2 (p7 + 1) _ _) HS2.out HV8.out, (Kx.trans KV).onl (only_set2 V2 (p7 + 1) _ _) (by intro q hq; have := List.mem_singleton.1 hq; omega)⟩
              case rest =>
                obtain ⟨rfl, aN, nN, cN, H7', H8', HS', HU', K'⟩ := hcut
                clear x0 x1
                go_wp2
                go_roundw
                case rel => exact ⟨i + 1, aN, nN, cN, rfl, by go_num, by omega, H7'.out, (by unfold Hid; have := H8'.out; rw [show cut + ((i + 1 : Nat) : Int) = cut + i + 1 by push_cast; omega]; exact this), HS'.out, HU'.out, K'⟩
                case measure => simp [intOf]; omega
            · have hge : (m : Int) ≤ i := by omega
              obtain rfl : i = m := by omega
              have HC : Hid (∀ Z, Kept wr Z → (Z.cell? ⟨p7, 0, none⟩ = some (.slice aT nT cT) ∧ Z.cell? ⟨p7, 1, none⟩ = some (.int .i64 (j : Int))) ∧ (Z.cell? ⟨p7 + 1, 0, none⟩ = some (.slice aV nV cV) ∧ Z.cell? ⟨p7 + 1, 1, none⟩ = some (.int .i64 (cut + i : Int)))) := fun Z kk => ⟨⟨kk.cel (two_cells GB7.out).1, kk.cel (two_cells GB7.out).2⟩, ⟨kk.cel (two_cells GB8.out).1, kk.cel (two_cells GB8.out).2⟩⟩
              obtain ⟨⟨x0, x1⟩, ⟨y0, y1⟩⟩ := HC.out _ (Kept.refl _)
              obtain ⟨q, p, th, hmE, hmM, hat, hth, hpq⟩ := fits_make HT.out.1 (by omega) (by omega) (by omega) hc0 hc1 HK.out i (by omega)
              have hlU := GU.out.1
              have htk := fits_take HT.out.1 (by omega) (by omega) (by omega) hc0 hc1 HK.out i (by omega) (by have := HT.out.2; omega) aV nV cV hlU
              have hwU := oth_mem HT.out.1 (by omega) (by omega) hc0 (by omega) (k := k) i
              have HTk := Lib.hid (fun W (kk : Kept wr W) => by
                have := ship_take ⟨0, e + 2, j, 0⟩ aT nT cT T j ⟨3, 1, 0, e + 2, 0, 0, none, 0, 0, aV, nV, cV, cut + i⟩ [] (othT T k e cut i) W (kk.sl GS.out) HT.out.1.2.1 (slM_nil W) (kk.sl GU.out) hwU (by show 0 ≤ 100; omega)
                rw [htk] at this
                exact this)
              have HMk := Lib.hid (fun W (kk : Kept wr W) => by
                have := ship_make ⟨0, e + 2, cut, 0⟩ aT nT cT T j none 0 0 [] W (kk.sl GS.out) HT.out.1.2.1 (slQ_nil W) (by show (-9223372036854775808 : Int) ≤ cut; omega)
                simp only [hmE, hmM] at this
                exact this)
              have HAt := Lib.hid (fun W (kk : Kept wr W) => by
                have := ep_tell aV nV cV (othT T k e cut i) (cut + i) (cut - 1) W (kk.sl GU.out) hwU
                rw [hat] at this
                exact this)
              have HPq := Lib.hid hpq
              have HTh := Lib.hid hth
              clear hmE hmM hat hth hpq htk hwU
              go_wp2_with fail
              refine (ship_new_yes 0 (e + 2) j _ (.inl rfl) (by omega) (by omega) (by omega) (by omega)).mono ?_
              rintro E V1 ⟨rfl, J1⟩
              have K13 := J1.trans (kept_al V1 (.cells #[.int .i64 0, .int .i64 (e + 2), .int .i64 (j : Int), .int .i64 0] 29))
              obtain ⟨s0, s1, s2, s3⟩ := four_cells (heap_alloc_new V1 (.cells #[.int .i64 0, .int .i64 (e + 2), .int .i64 (j : Int), .int .i64 0] 29))
              obtain ⟨⟨x0, x1⟩, ⟨y0, y1⟩⟩ := HC.out _ K13
              unfold SV.v
              dsimp only
              clear s0 s1 s2 s3 x0 x1 y0 y1
              have h13 := Lib.hid (heap_alloc_new V1 (.cells #[.int .i64 0, .int .i64 (e + 2), .int .i64 (j : Int), .int .i64 0] 29))
              obtain ⟨s0, s1, s2, s3⟩ := four_cells h13.out
              obtain ⟨⟨x0, x1⟩, ⟨y0, y1⟩⟩ := HC.out _ K13
              go_wp2_with fail
              refine (HTk.out _ K13).mono ?_
              rintro E V2 ⟨rfl, J2⟩
              have K15 := (K13.trans J2).trans (kept_al V2 (.cells #[.int .i64 0, .int .i64 (e + 2), .int .i64 cut, .int .i64 0] 29))
              have h15 := Lib.hid (heap_alloc_new V2 (.cells #[.int .i64 0, .int .i64 (e + 2), .int .i64 cut, .int .i64 0] 29))
              clear s0 s1 s2 s3 x0 x1 y0 y1
              obtain ⟨s0, s1, s2, s3⟩ := four_cells h15.out
              obtain ⟨⟨x0, x1⟩, ⟨y0, y1⟩⟩ := HC.out _ K15
              unfold SV.v
              dsimp only
              go_wp2_with fail
              refine (HMk.out _ K15).mono ?_
              rintro E V3 ⟨a3, c3, rfl, _, J3⟩
              have KM := J3.trans (kept_al V3 (.cells #[.int .i64 1, .int .i64 0, .int .i64 1, .int .i64 (e + 2), .int .i64 cut, .int .i64 q, .slice a3 0 c3, .slice none 0 0, .int .i64 0] 36))
              have h17 := Lib.hid (heap_alloc_new V3 (.cells #[.int .i64 1, .int .i64 0, .int .i64 1, .int .i64 (e + 2), .int .i64 cut, .int .i64 q, .slice a3 0 c3, .slice none 0 0, .int .i64 0] 36))
              have K17 := K15.trans KM
              have r2 := KM.cel s2
              clear s0 s1 s2 s3 x0 x1 y0 y1
              obtain ⟨m0, m1, m2, m3, m4, m5, m6, m7, m8⟩ := nine_cells h17.out
              obtain ⟨⟨x0, x1⟩, ⟨y0, y1⟩⟩ := HC.out _ K17
              unfold MV.cs
              dsimp only
              have tcc : (cut != cut) = false := by simp
              go_wp2_with fail
              refine (HAt.out _ K17).mono ?_
              rintro E V4 ⟨rfl, J4⟩
              have n5 := J4.cel m5
              have KZ := (Kx.trans K17).trans J4
              clear m0 m1 m2 m3 m4 m5 m6 m7 m8 x0 x1 y0 y1 r2 tcc
              by_cases hc : 0 < cut
              · have d0 : decide (0 < cut) = true := decide_eq_true hc
                obtain rfl : th = true := by rw [HTh.out]; exact d0
                obtain rfl : p = q := HPq.out rfl
                have tpp : (p == p) = true := by simp
                clear HTh HPq hc
                go_wp2_with fail
                exact bodyPost_ret (v := .bool true) (by simp [results, Try.results6, go_sem]) rfl ⟨rfl, KZ⟩
              · have d0 : decide (0 < cut) = false := decide_eq_false hc
                obtain rfl : th = false := by rw [HTh.out]; exact d0
                clear HTh HPq hc
                go_wp2_with fail
                exact bodyPost_ret (v := .bool true) (by simp [results, Try.results6, go_sem]) rfl ⟨rfl, KZ⟩
end Go.Proofs.Ytmkoabalakfehaa
