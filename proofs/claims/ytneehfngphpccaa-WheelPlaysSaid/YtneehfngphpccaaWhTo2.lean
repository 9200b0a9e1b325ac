/- The wheel: To, where it goes on. -/
import Derived.Test.YtneehfngphpccaaWhTo
set_option linter.unusedVariables false
set_option linter.unusedSimpArgs false
namespace Go.Proofs.Ytneehfngphpccaa
open Go.RowKit
open Go.ChangeMaps (setBlock)
theorem dropD_head (x : Du) (l : List Du) : dropD x.1 x.2.1 (x :: l) = l := by unfold dropD; rw [if_pos ⟨rfl, rfl⟩]
theorem take_min (L : List Du) (j K : Nat) (x : Du) (hx : L[j]? = some x) (hj : j < K) : L.take (min (j + 1) K) = L.take (min j K) ++ [x] := by
  rw [show min (j + 1) K = j + 1 from by omega, show min j K = j from by omega, List.take_add_one, hx]; rfl
theorem drop_min (L : List Du) (j K : Nat) (x : Du) (hx : L[j]? = some x) (hj : j < K) : dropD x.1 x.2.1 (L.drop (min j K)) = L.drop (min (j + 1) K) := by
  rw [show min (j + 1) K = j + 1 from by omega, show min j K = j from by omega]
  obtain ⟨h1, h2⟩ := List.getElem?_eq_some_iff.1 hx
  rw [List.drop_eq_getElem_cons h1, h2, dropD_head]
set_option maxRecDepth 100000 in
set_option maxHeartbeats 4000000 in
theorem wl_to (hsort : SortSays) {w : World} {p q : Nat} {now : Int} {L : List Du} (h : WhL w p q now L) (hn : L.length ≤ 1000) (t : Int) (h1 : now ≤ t) (h2 : t ≤ 1099511627776) :
    Calls Try.prog 9 #[.pointer (some ⟨p, 0, none⟩), .int .i64 t] w fun e w' => ∃ (a : Option Addr) (c : Nat), e = .returned (.tuple #[.slice a (dueK t L) c, .int .i64 0]) ∧ SlD w' a (dueK t L) c (L.take (dueK t L)) ∧ WhL w' p q t (L.drop (dueK t L)) ∧ Only [p, q] w w' ∧ (∀ y, a = some y → w.heap.size ≤ y.block) := by
  obtain ⟨M, ck, hM, hW⟩ := h
  have hne := hM.ne
  have hpq : p < w.heap.size ∧ q < w.heap.size := ⟨lt_heap hM.box, lt_heap hM.map⟩
  have c0 : w.cell? ⟨p, 0, none⟩ = some (.int .i64 now) := at_cell hM.box 0 _ rfl
  have f0 := one_free hM.box 0
  have hT : WhL (w.setCell ⟨p, 0, none⟩ (.int .i64 t)) p q t L := ⟨M, ck, hM.turn t, hW⟩
  have O1 : Only [p, q] w (w.setCell ⟨p, 0, none⟩ (.int .i64 t)) := (Only.refl _ _).setCell (fun _ => by simp) _
  have HO1 := Lib.hid O1
  have hs1 : (w.setCell ⟨p, 0, none⟩ (.int .i64 t)).heap.size = w.heap.size := by simp [World.setCell]
  have HSt := Lib.hid hW.srt
  have HAll := Lib.hid (wl_all hsort hT hn)
  have HT := Lib.hid hT
  have hd1 : ¬ t < now := by omega
  have hd2 : ¬ 1099511627776 < t := by omega
  clear hM hW hT O1
  go_enter Try.func9, Try.ntmps9
  go_wp2_with fail
  generalize World.setCell w _ _ = X at *
  clear c0 f0
  refine HAll.out.mono ?_
  rintro E V ⟨s, c, rfl, hS, hK, hnew⟩
  have hKs := hK.size
  have HT2 := Lib.hid (HT.out.keep hK)
  have HO2 := Lib.hid (HO1.out.trans (hK.only.mono (T := [p, q]) (by simp)))
  have HS := Lib.hid hS
  have HN := Lib.hid hnew
  have hcm := hS.2.2.1
  have hnc := hS.2.1
  unfold maxLen at hcm
  clear hS hK hnew HAll HT HO1
  go_wp2_with fail
  obtain ⟨K, hKK⟩ : ∃ K, dueK t L = K := ⟨_, rfl⟩
  have hKL : K ≤ L.length := by rw [← hKK]; exact dueK_le t L
  obtain ⟨N, hN⟩ : ∃ N, L.length = N := ⟨_, rfl⟩
  rw [hN] at hKL hn hnc HS
  rw [hN]
  go_loopw [6, 26] (fun v i wr => ∃ (j : Nat) (a' : Option Addr) (c' : Nat) (g : Option Nat), v = .slice a' (min j K) c' ∧ i = .int .i64 (j : Nat) ∧ j ≤ N ∧ Hid (App wr 32 3 (.slice a' (min j K) c') (min j K) g (duVs (L.take (min j K)))) ∧ Hid (WhL wr p q t (L.drop (min j K))) ∧ Hid (SlD wr s N c L) ∧ Hid (Only [p, q] w wr) ∧ Hid (∀ k ∈ g.toList, V.heap.size ≤ k) ∧ V.heap.size ≤ wr.heap.size) (fun _ i _ => N - (intOf i).toNat)
  case atStart => exact ⟨0, none, 0, none, by simp, rfl, by omega, (by rw [Nat.zero_min]; exact app_nil _ _ _), (by rw [Nat.zero_min]; exact HT2.out), HS, HO2, (by intro k hk; simp at hk), Nat.le_refl _⟩
  case round =>
    obtain ⟨j, a', c', g, rfl, rfl, hj, HA, HW, HSr, HO, HG, hsz⟩ := hrel
    by_cases hlt : j < N
    · have hlt' : (j : Int) < N := by omega
      obtain ⟨x, hx⟩ : ∃ x, L[j]? = some x := ⟨_, List.getElem?_eq_getElem (by omega)⟩
      have hdk := dueK_iff t L j x HSt.out hx
      rw [hKK] at hdk
      obtain ⟨bb, o, hsa, q0, q1, q2⟩ := HSr.out.at hx
      subst hsa
      have HX := Lib.hid hx
      obtain ⟨xa, xb, xc⟩ := x
      dsimp only at q0 q1 q2 hdk
      have K1 := kept_al wr (.cells #[.int .i64 xa, .int .i64 xb, .int .i64 xc] 32)
      by_cases hle : xc ≤ t
      · have hjK : j < K := hdk.1 hle
        have K2 := K1.trans (kept_al _ (.cells #[.int .i64 xa, .int .i64 xb, .int .i64 xc] 32))
        have HAX := Lib.hid (K2.only.app HA.out (by simp))
        have hB : ((wr.alloc (.cells #[.int .i64 xa, .int .i64 xb, .int .i64 xc] 32)).alloc (.cells #[.int .i64 xa, .int .i64 xb, .int .i64 xc] 32)).heap[wr.heap.size + 1]? = some (.cells #[.int .i64 xa, .int .i64 xb, .int .i64 xc] 32 (0, 0)) := by
          have := heap_alloc_new (wr.alloc (.cells #[.int .i64 xa, .int .i64 xb, .int .i64 xc] 32)) (.cells #[.int .i64 xa, .int .i64 xb, .int .i64 xc] 32)
          simpa using this
        have hBox := heap_keep (heap_alloc_new wr (.cells #[.int .i64 xa, .int .i64 xb, .int .i64 xc] 32)) (.cells #[.int .i64 xa, .int .i64 xb, .int .i64 xc] 32)
        have HBox := Lib.hid hBox
        have HSrc := Lib.hid (src_block (P := Try.prog) (size := 3) Try.underlying22 hB 1 1 rfl (by simp [Value.oneCell']))
        have HK2 := Lib.hid K2
        have hK2s := K2.size
        have HE : Hid (duVs (L.take (min (j + 1) K)) = duVs (L.take (min j K)) ++ [.int .i64 xa, .int .i64 xb, .int .i64 xc]) := by
          unfold Hid; rw [take_min L j K _ HX.out hjK, duVs_app]; rfl
        have HDr := Lib.hid (drop_min L j K _ HX.out hjK)
        have hmj : min j K = j := by omega
        have hmj1 : min (j + 1) K = j + 1 := by omega
        have hmj : min j K + 1 = min (j + 1) K := by omega
        clear hx hB hBox hdk K1 K2
        obtain ⟨Y, hY⟩ : ∃ Y, (wr.alloc (.cells #[.int .i64 xa, .int .i64 xb, .int .i64 xc] 32)).alloc (.cells #[.int .i64 xa, .int .i64 xb, .int .i64 xc] 32) = Y := ⟨_, rfl⟩
        rw [hY] at HAX HBox HSrc HK2 hK2s
        have hbb : bb < V.heap.size ∧ X.heap.size ≤ bb := by
          refine ⟨?_, HN.out _ rfl⟩
          obtain ⟨b', o', e1, e2, _⟩ := HS.out.2.2.2 (by omega)
          injection e1 with e1
          injection e1 with e1
          omega
        go_upto_region 10 with (at_builtin; (try rw [hY]); refine wpList_app rfl (.tmp 34) (.tmp 36) 22 22 rfl elemW _ (min j K) _ _ rfl HAX.out _ 1 _ rfl HSrc.out (by omega) (by unfold maxLen; omega) ?_; intro a5 c5 g5 w5 hA5 hO5 hG5; rw [← HE.out] at hA5; have HA5 := Lib.hid hA5; have HO5 := Lib.hid hO5; have HG5 := Lib.hid hG5; clear hA5 hO5 hG5)
        have hg1 : ∀ i ∈ g5.toList, V.heap.size ≤ i := by
          intro i hi
          rcases HG5.out with h | h
          · rw [h] at hi; exact HG.out i hi
          · rw [h] at hi; simp at hi; omega
        have hgn : ∀ i, i < V.heap.size → i ∉ g.toList := fun i hi hm => by have := HG.out i hm; omega
        obtain ⟨M', ck', hM, hWk⟩ := (HW.out.keep HK2.out).only HO5.out (hgn p (by omega)) (hgn q (by omega))
        have c1 : w5.cell? ⟨p, 1, none⟩ = some (.map (some q)) := at_cell hM.box 1 _ rfl
        have hbx := HO5.out.heap HBox.out (fun hm => by have := HA.out.lt wr.heap.size (by simpa using hm); omega)
        have k0 : w5.cell? ⟨wr.heap.size, 0, none⟩ = some (.int .i64 xa) := at_cell hbx 0 _ rfl
        have k1 : w5.cell? ⟨wr.heap.size, 1, none⟩ = some (.int .i64 xb) := at_cell hbx 1 _ rfl
        have hd := fun t2 ty => run_del keyM xa xb (w := w5.drew) (hM.keep ((Kept.refl w5).dr ⟨1, rfl⟩)).map t2 ty
        have hF0 : WhL (setBlock w5.drew q (.map ((delM xa xb M').map ent).toArray ck')) p q t (L.drop (min (j + 1) K)) := ⟨_, _, (hM.keep ((Kept.refl w5).dr ⟨1, rfl⟩)).put (delM xa xb M') ck', by rw [← HDr.out]; exact hWk.drop xa xb⟩
        have hF := Lib.hid hF0
        have OQ : Only [q] w5 (setBlock w5.drew q (.map ((delM xa xb M').map ent).toArray ck')) := ((Only.refl [q] w5).drew).trans (only_setBlock w5.drew q _)
        have HOQ := Lib.hid OQ
        unfold kv at hd
        have hqg : q ∉ g5.toList := fun hm => by have := hg1 q hm; omega
        clear hM hWk hbx hF0 OQ
        go_region
        all_goals (
          generalize setBlock w5.drew q _ = W6 at *
          have hO6 : Only [p, q] w W6 := by
            refine (((HO.out.trans (HK2.out.only.mono (by simp))).then (HO5.out) ?_)).trans (HOQ.out.mono (by intro k _ hk; simp at hk; simp [hk]))
            intro i hi hm
            have := HG.out i hm
            omega
          have hS6 : SlD W6 (some ⟨bb, o, none⟩) N c L := by
            refine ((HSr.out.kept HK2.out).only HO5.out (fun _ y hy => ?_)).only HOQ.out (fun _ y hy => ?_)
            · injection hy with hy; subst hy; exact hgn bb hbb.1
            · injection hy with hy; subst hy; simp; omega
          have hA5 := HA5.out
          rw [hmj] at hA5
          have hA6 := HOQ.out.app hA5 (fun k hk hm => hqg (by simp at hm; rw [hk, hm]; simp))
          have hz6 := HOQ.out.size
          have hz5 := HO5.out.size
          go_wp2
          go_roundw
          case rel => exact ⟨j + 1, a5, c5, g5, by rw [hmj1], by go_num, by omega, hA6, hF.out, hS6, hO6, hg1, by omega⟩
          case measure => simp [intOf]; omega)
      · have hjK : ¬ j < K := fun h => hle (hdk.2 h)
        have hmj : min j K = min (j + 1) K := by omega
        have hW2 := Lib.hid (HW.out.keep K1)
        have hA2 := Lib.hid (K1.only.app HA.out (by simp))
        have hS2 := Lib.hid (HSr.out.kept K1)
        have hO2 := Lib.hid (HO.out.trans (K1.only.mono (T := [p, q]) (by simp)))
        have hz := K1.size
        clear hx hdk K1
        go_wp2_with fail
        rw [hmj] at hA2 hW2 ⊢
        go_roundw
        case rel => exact ⟨j + 1, a', c', g, rfl, by go_num, by omega, hA2, hW2, hS2, hO2, HG, by omega⟩
        case measure => simp [intOf]; omega
    · have hge : (N : Int) ≤ j := by omega
      obtain rfl : j = N := by omega
      have hm : min j K = K := by omega
      rw [hm] at HA HW ⊢
      go_wp2_with fail
      go_ret2
      rw [hKK]
      refine ⟨a', c', rfl, slD_app HA.out, HW.out, HO.out, fun y hy => ?_⟩
      subst hy
      have := HG.out y.block (by rw [app_blk HA.out]; simp)
      omega
end Go.Proofs.Ytneehfngphpccaa
