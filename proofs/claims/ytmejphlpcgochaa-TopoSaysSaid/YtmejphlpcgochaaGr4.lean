/- Graphs: Ahead, Behind: the walk. -/
import Derived.Test.YtmejphlpcgochaaGr3
set_option linter.unusedVariables false
set_option linter.unusedSimpArgs false
namespace Go.Proofs.Ytmejphlpcgochaa
open Go.RowKit
theorem besA_no (E : List Ed) (n d : Int) (j : Nat) (x : Ed) (hx : E[j]? = some x) (h : endOf x d ≠ n) : besA (E.take (j + 1)) n d = besA (E.take j) n d := by
  unfold besA
  rw [List.take_add_one, hx, List.filter_append]
  simp [h]
theorem besA_yes (E : List Ed) (n d : Int) (j : Nat) (x : Ed) (hx : E[j]? = some x) (h : endOf x d = n) : besA (E.take (j + 1)) n d = besA (E.take j) n d ++ [endOf x (1 - d)] := by
  unfold besA
  rw [List.take_add_one, hx, List.filter_append]
  simp [h]
set_option maxRecDepth 100000 in
set_option maxHeartbeats 4000000 in
theorem g_beside {w : World} {s : Option Addr} {m c : Nat} {E : List Ed} (N n d : Int) (hE : SlE w s m c E) (hm : m ≤ 900) (hd : d = 0 ∨ d = 1) :
    Calls Try.prog 27 #[.agg #[.int .i64 N, .slice s m c], .int .i64 n, .int .i64 d] w fun e w' => ∃ (a : Option Addr) (k c' : Nat), e = .returned (.slice a k c') ∧ Sl .i64 w' a k c' (besL N E n d) ∧ Kept w w' ∧ k ≤ m ∧ (∀ y, a = some y → w.heap.size ≤ y.block) := by
  have hl := hE.1
  have hnc := hE.2.1
  have hB := heap_alloc_new w (.cells #[.int .i64 N, .slice s m c] 24)
  have K1 := kept_al w (.cells #[.int .i64 N, .slice s m c] 24)
  have b0 := at_cell hB 0 _ rfl
  have b1 := at_cell hB 1 _ rfl
  have HGd := Lib.hid (g_good N (hE.kept K1) (by omega))
  have HK1 := Lib.hid K1
  have HE := Lib.hid hE
  have hsz : w.heap.size < (w.alloc (.cells #[.int .i64 N, .slice s m c] 24)).heap.size := by simp
  generalize hV : World.alloc w _ = V at *
  generalize hbx : w.heap.size = bx at *
  have HB := Lib.hid hB
  clear hE K1 hB
  go_enter Try.func27, Try.ntmps27
  go_wp2_with fail
  (try rw [hV])
  (try rw [hbx])
  clear hV
  refine HGd.out.mono ?_
  rintro E1 V1 ⟨rfl, hK1⟩
  have HKV := Lib.hid hK1
  have HW1 := Lib.hid (HK1.out.trans hK1)
  replace b0 := hK1.cel b0
  replace b1 := hK1.cel b1
  have hV1 := hK1.size
  clear hK1 HGd
  cases hg : goodG N E with
  | false =>
    have HR : Hid (besL N E n d = []) := by unfold Hid besL; rw [hg]; rfl
    clear hg
    go_wp2_with fail
    go_ret
    exact ⟨none, 0, 0, rfl, by rw [HR.out]; exact sl_nil _ _, HW1.out, Nat.zero_le _, fun y hy => by cases hy⟩
  | true =>
    have HR : Hid (besL N E n d = sortI (besA E n d)) := by unfold Hid besL; rw [hg]; rfl
    clear hg
    go_wp2_with fail
    go_loopw [7, 16] (fun v i wr => ∃ (j r : Nat) (a' : Option Addr) (c' : Nat) (g : Option Nat), v = .slice a' r c' ∧ i = .int .i64 (j : Nat) ∧ j ≤ m ∧ r ≤ j ∧ Hid (App wr 3 1 (.slice a' r c') r g (ivs (besA (E.take j) n d))) ∧ Hid (Kept V1 wr) ∧ Hid (∀ k ∈ g.toList, V1.heap.size ≤ k)) (fun _ i _ => m - (intOf i).toNat)
    case atStart => exact ⟨0, 0, none, 0, none, rfl, rfl, by omega, by omega, app_nil _ _ _, Kept.refl _, by intro k hk; simp at hk⟩
    case round =>
      obtain ⟨j, r, a', c', g, rfl, rfl, hj, hr, HA, HK, HG⟩ := hrel
      by_cases hlt : j < m
      · have hlt' : (j : Int) < m := by omega
        obtain ⟨⟨xa, xb⟩, hx⟩ : ∃ x, E[j]? = some x := ⟨_, List.getElem?_eq_getElem (by omega)⟩
        obtain ⟨bs, o, rfl, q0, q1⟩ := (HE.out.kept (HW1.out.trans HK.out)).at hx
        dsimp only at q0 q1
        have KE := kept_al wr (.cells #[.int .i64 xa, .int .i64 xb] 33)
        have hEd := heap_alloc_new wr (.cells #[.int .i64 xa, .int .i64 xb] 33)
        have y0 := at_cell hEd 0 _ rfl
        have y1 := at_cell hEd 1 _ rfl
        have HX := Lib.hid hx
        have HAE := Lib.hid (KE.only.app HA.out (by simp))
        have HKE := Lib.hid (HK.out.trans KE)
        clear hx hEd KE b0 b1
        by_cases hen : endOf (xa, xb) d = n
        · have HB1 : Hid (besA (E.take (j + 1)) n d = besA (E.take j) n d ++ [endOf (xa, xb) (1 - d)]) := besA_yes E n d j _ HX.out hen
          obtain ⟨KB, HKB⟩ : ∃ KB, Hid (Kept ((wr.alloc (.cells #[.int .i64 xa, .int .i64 xb] 33))) KB) ∧ KB = ((wr.alloc (.cells #[.int .i64 xa, .int .i64 xb] 33)).alloc (.cells #[.int .i64 (endOf (xa, xb) (1 - d))] 3)) := ⟨_, kept_al _ _, rfl⟩
          have HAB := Lib.hid (HKB.1.out.only.app HAE.out (by simp))
          have hBl : KB.heap[wr.heap.size + 1]? = some (.cells #[.int .i64 (endOf (xa, xb) (1 - d))] 3 (0, 0)) := by
            rw [HKB.2]
            have := heap_alloc_new (wr.alloc (.cells #[.int .i64 xa, .int .i64 xb] 33)) (.cells #[.int .i64 (endOf (xa, xb) (1 - d))] 3)
            simpa using this
          have HSrc := Lib.hid (src_block (P := Try.prog) (size := 1) Try.underlying29 hBl 1 1 rfl (by simp [Value.oneCell']))
          have HKW := Lib.hid (HKE.out.trans HKB.1.out)
          have HKBe := Lib.hid HKB.2
          clear HKB hBl
          rcases hd with rfl | rfl
          · have hn : (xa == n) = true := by unfold endOf at hen; simpa using hen
            have hbb : endOf (xa, xb) (1 - 0) = xb := by simp [endOf]
            rw [hbb] at HKBe HB1 HSrc
            clear hen hbb
            go_wp2_with (at_builtin; rw [← HKBe.out]; refine wpList_app rfl (.tmp 25) (.tmp 30) 29 29 rfl elemI _ r _ _ rfl HAB.out _ 1 _ rfl HSrc.out (by omega) (by unfold maxLen; omega) ?_; intro a5 c5 g5 w5 hA5 hO5 hG5; have HA5 := Lib.hid hA5; have HO5 := Lib.hid hO5; have HG5 := Lib.hid hG5; clear hA5 hO5 hG5)
            have hg1 : ∀ i ∈ g5.toList, V1.heap.size ≤ i := by
              intro i hi
              rcases HG5.out with h | h
              · rw [h] at hi; exact HG.out i hi
              · rw [h] at hi; simp at hi; have := HKW.out.size; omega
            have hK5 : Kept V1 w5 := HKW.out.onl HO5.out HG.out
            go_roundw
            case rel => exact ⟨j + 1, r + 1, a5, c5, g5, rfl, by go_num, by omega, by omega, by rw [HB1.out, ivs_app]; exact HA5.out, hK5, hg1⟩
            case measure => simp [intOf]; omega
          · have hn : (xb == n) = true := by unfold endOf at hen; simpa using hen
            have hbb : endOf (xa, xb) (1 - 1) = xa := by simp [endOf]
            rw [hbb] at HKBe HB1 HSrc
            clear hen hbb
            go_wp2_with (at_builtin; rw [← HKBe.out]; refine wpList_app rfl (.tmp 25) (.tmp 30) 29 29 rfl elemI _ r _ _ rfl HAB.out _ 1 _ rfl HSrc.out (by omega) (by unfold maxLen; omega) ?_; intro a5 c5 g5 w5 hA5 hO5 hG5; have HA5 := Lib.hid hA5; have HO5 := Lib.hid hO5; have HG5 := Lib.hid hG5; clear hA5 hO5 hG5)
            have hg1 : ∀ i ∈ g5.toList, V1.heap.size ≤ i := by
              intro i hi
              rcases HG5.out with h | h
              · rw [h] at hi; exact HG.out i hi
              · rw [h] at hi; simp at hi; have := HKW.out.size; omega
            have hK5 : Kept V1 w5 := HKW.out.onl HO5.out HG.out
            go_roundw
            case rel => exact ⟨j + 1, r + 1, a5, c5, g5, rfl, by go_num, by omega, by omega, by rw [HB1.out, ivs_app]; exact HA5.out, hK5, hg1⟩
            case measure => simp [intOf]; omega
        · have HB1 : Hid (besA (E.take (j + 1)) n d = besA (E.take j) n d) := besA_no E n d j _ HX.out hen
          rcases hd with rfl | rfl
          · have hn : (xa == n) = false := by unfold endOf at hen; simpa using hen
            clear hen
            go_wp2_with fail
            go_roundw
            case rel => exact ⟨j + 1, r, a', c', g, rfl, by go_num, by omega, by omega, by rw [HB1.out]; exact HAE, HKE, HG⟩
            case measure => simp [intOf]; omega
          · have hn : (xb == n) = false := by unfold endOf at hen; simpa using hen
            clear hen
            go_wp2_with fail
            go_roundw
            case rel => exact ⟨j + 1, r, a', c', g, rfl, by go_num, by omega, by omega, by rw [HB1.out]; exact HAE, HKE, HG⟩
            case measure => simp [intOf]; omega
      · have hge : (m : Int) ≤ j := by omega
        obtain rfl : j = m := by omega
        rw [List.take_of_length_le (by omega)] at HA
        have HSt := Lib.hid (g_sort HA.out (by omega))
        have HNew : Hid (∀ y, a' = some y → bx ≤ y.block) := fun y hy => by
          subst hy
          have h1 := HG.out y.block (by rw [app_blkI HA.out]; simp)
          have h2 := HW1.out.size
          omega
        go_wp2_with fail
        refine HSt.out.mono ?_
        rintro E2 V2 ⟨rfl, hS2, hO2⟩
        have HS2 := Lib.hid hS2
        have HK2 := Lib.hid (HW1.out.trans (HK.out.onl hO2 HG.out))
        clear hS2 hO2 HSt
        go_wp2_with fail
        go_ret
        exact ⟨a', r, c', rfl, by rw [HR.out]; exact HS2.out, HK2.out, by omega, HNew.out⟩
end Go.Proofs.Ytmejphlpcgochaa
