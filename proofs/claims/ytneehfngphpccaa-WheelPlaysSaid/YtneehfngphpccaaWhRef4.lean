/- The document's wheel: To, where it goes on. -/
import Derived.Test.YtneehfngphpccaaWhRef3
set_option linter.unusedVariables false
set_option linter.unusedSimpArgs false
namespace Go.Proofs.Ytneehfngphpccaa
open Go.RowKit
theorem RfAt.turn {w : World} {p : Nat} {now : Int} {s : Option Addr} {n c : Nat} {L : List Du} (h : RfAt w p now s n c L) (t : Int) : RfAt (w.setCell ⟨p, 0, none⟩ (.int .i64 t)) p t s n c L ∧ Only [p] w (w.setCell ⟨p, 0, none⟩ (.int .i64 t)) := by
  have O : Only [p] w (w.setCell ⟨p, 0, none⟩ (.int .i64 t)) := (Only.refl _ _).setCell (fun _ => by simp) _
  exact ⟨⟨at_set h.box 0 _, h.row.only O h.off, h.off⟩, O⟩
theorem slD_cut {w : World} {a : Option Addr} {n c : Nat} {L : List Du} (h : SlD w a n c L) (i : Nat) (hi : i ≤ n) : SlD w (cutA a c i 3) (n - i) (c - i) (L.drop i) := by
  obtain ⟨hl, hnc, hcm, hc⟩ := h
  refine ⟨by rw [List.length_drop, hl], by omega, by omega, fun h0 => ?_⟩
  obtain ⟨b, o, rfl, hlt, hcell⟩ := hc (by omega)
  refine ⟨b, o + i * 3, by unfold cutA; rw [if_neg (by omega)]; simp [add_one], hlt, fun j u hu => ?_⟩
  rw [Nat.add_assoc]
  refine hcell _ u ?_
  have hsp : duVs L = duVs (L.take i) ++ duVs (L.drop i) := by rw [← duVs_app, List.take_append_drop]
  have hlt2 : (duVs (L.take i)).length = i * 3 := by rw [duVs_len, List.length_take, Nat.min_eq_left (by omega)]
  rw [hsp, List.getElem?_append_right (by rw [hlt2]; omega), hlt2, Nat.add_sub_cancel_left]
  exact hu
theorem dueK_le (t : Int) : ∀ L : List Du, dueK t L ≤ L.length
  | [] => Nat.le_refl _
  | x :: l => by
    have := dueK_le t l
    unfold dueK
    split <;> simp <;> omega
theorem dueK_at (t : Int) : ∀ (L : List Du) (j : Nat), (∀ q x, q < j → L[q]? = some x → x.2.2 ≤ t) → j ≤ L.length → (∀ x, L[j]? = some x → ¬ x.2.2 ≤ t) → dueK t L = j
  | [], j, h1, h2, h3 => by simp at h2; subst h2; rfl
  | x :: l, 0, h1, h2, h3 => by unfold dueK; rw [if_neg (h3 x rfl)]
  | x :: l, j + 1, h1, h2, h3 => by
    unfold dueK
    rw [if_pos (h1 0 x (by omega) rfl), dueK_at t l j (fun q y hq hy => h1 (q + 1) y (by omega) (by simpa using hy)) (by simpa using h2) (fun y hy => h3 y (by simpa using hy))]
set_option maxRecDepth 100000 in
set_option maxHeartbeats 4000000 in
theorem rf_to {w : World} {p : Nat} {now : Int} {s : Option Addr} {n c : Nat} {L : List Du} (h : RfAt w p now s n c L) (hn : n ≤ 1000) (t : Int) (h1 : now ≤ t) (h2 : t ≤ 1099511627776) : Calls Try.prog 17 #[.pointer (some ⟨p, 0, none⟩), .int .i64 t] w fun e w' => ∃ a5 c5 s' c', e = .returned (.tuple #[.slice a5 (dueK t L) c5, .int .i64 0]) ∧ SlD w' a5 (dueK t L) c5 (L.take (dueK t L)) ∧ RfAt w' p t s' (n - dueK t L) c' (L.drop (dueK t L)) ∧ Only [p] w w' := by
  have hl := h.row.1
  have hnc := h.row.2.1
  have hcm := h.row.2.2.1
  have hpl := lt_heap h.box
  unfold maxLen at hcm
  obtain ⟨c0, c1⟩ := h.cells
  have f0 := one_free h.box 0
  obtain ⟨ht, O1⟩ := h.turn t
  have hd1 : ¬ t < now := by omega
  have hd2 : ¬ 1099511627776 < t := by omega
  go_enter Try.func17, Try.ntmps17
  go_upto_region 4 with fail
  have HH := Lib.hid ht
  have hs1 : (w.setCell ⟨p, 0, none⟩ (.int .i64 t)).heap.size = w.heap.size := by simp [World.setCell]
  clear c0 c1 f0 h ht
  generalize World.setCell w _ _ = X at *
  rw [← hs1] at hpl
  clear hs1
  go_wp2_with fail
  go_loopw [6] (fun i wr => ∃ j : Nat, i = .int .i64 (j : Nat) ∧ j ≤ n ∧ X = wr ∧ Hid (∀ q x, q < j → L[q]? = some x → x.2.2 ≤ t)) (fun i _ => n - (intOf i).toNat)
  case atStart => exact ⟨0, rfl, by omega, rfl, fun q x hq => by omega⟩
  case round =>
    obtain ⟨j, rfl, hj, rfl, HE⟩ := hrel
    obtain ⟨c0, c1⟩ := HH.out.cells
    by_cases hlt : j < n
    · have hlt' : (j : Int) < n := by omega
      obtain ⟨⟨xa, xb, xc⟩, hx⟩ : ∃ x, L[j]? = some x := ⟨_, List.getElem?_eq_getElem (by omega)⟩
      obtain ⟨bb, o, hsa, q0, q1, q2⟩ := HH.out.row.at hx
      subst hsa
      dsimp only at q0 q1 q2
      by_cases hle : xc ≤ t
      · have HE2 : Hid (∀ q x, q < j + 1 → L[q]? = some x → x.2.2 ≤ t) := fun q x hq hqx => by
          rcases Nat.lt_or_ge q j with h' | h'
          · exact HE.out q x h' hqx
          · obtain rfl : q = j := by omega
            rw [hx] at hqx
            injection hqx with hqx
            rw [← hqx]; exact hle
        clear hx HE
        go_wp2
        go_roundw
        case rel => exact ⟨j + 1, by go_num, by omega, by first | exact rfl | trivial, HE2.out⟩
        case measure => simp [intOf]; omega
      · have hk : dueK t L = j := dueK_at t L j HE.out (by omega) (fun x hxx => by rw [hx] at hxx; injection hxx with hxx; rw [← hxx]; exact hle)
        clear hx HE
        have hs2 : ∀ W, (Instr.slice 44 (.slice (some ⟨bb, o, none⟩) n c) none (some (.int .i64 (j : Int))) none).run Try.prog W = .ok (.slice (some ⟨bb, o, none⟩) j c) W := fun W => run_cut_h elemD _ _ _ .i64 j _ rfl (by omega) W
        have hs3 : ∀ W, (Instr.slice 44 (.slice (some ⟨bb, o, none⟩) n c) (some (.int .i64 (j : Int))) none none).run Try.prog W = .ok (.slice (cutA (some ⟨bb, o, none⟩) c j 3) (n - j) (c - j)) W := fun W => run_cut_l elemD (some ⟨bb, o, none⟩) n c .i64 j _ rfl (by omega) W
        have HS1 := Lib.hid (fun V (kk : Kept X V) => srcD_take (P := Try.prog) (tx := 44) Try.underlying44 (HH.out.row.kept kk) j (by omega))
        have hA0 := heap_alloc_new X (.cells #[] 43)
        have K0 := kept_al X (.cells #[] 43)
        obtain ⟨_, c1'⟩ := (HH.out.keep K0).cells
        have HCx : Hid (∀ V, Kept X V → V.cell? ⟨p, 1, none⟩ = some (.slice (some ⟨bb, o, none⟩) n c) ∧ V.frozen? ⟨p, 1, none⟩ = false) := fun V kk => ⟨(HH.out.keep kk).cells.2, one_free (HH.out.keep kk).box 1⟩
        obtain ⟨AC, hAC⟩ : ∃ AC, cutA (some ⟨bb, o, none⟩) c j 3 = AC := ⟨_, rfl⟩
        rw [hAC] at hs3
        have hAC := Lib.hid hAC
        go_wp2_with (at_builtin; refine wpList_app rfl (.tmp 43) (.tmp 49) 44 44 rfl elemD _ 0 _ _ rfl (app0 hA0) _ j _ rfl (HS1.out _ K0) (by omega) (by unfold maxLen; omega) ?_; intro a5 c5 g5 w5 hA5 hO5 hG5; rw [Nat.zero_add, List.nil_append] at hA5; rw [Nat.zero_add]; have KE : Kept X w5 := K0.onl hO5 (by intro i hi; simp at hi; omega); have HA5 := Lib.hid hA5; have HG5 : Hid (∀ i ∈ g5.toList, X.heap.size ≤ i) := (by intro i hi; rcases hG5 with rfl | rfl <;> simp at hi <;> omega); obtain ⟨c5', f5⟩ := HCx.out _ KE; clear hA5 hO5 hG5)
        go_ret2
        have O5 : Only [p] w5 (w5.setCell ⟨p, 1, none⟩ (.slice AC (n - j) (c - j))) := (Only.refl _ _).setCell (fun _ => by simp) _
        have hoff5 : 0 < j → inB a5 [p] := fun _ y hy hm => by
          subst hy
          have := HG5.out y.block (by rw [app_blk HA5.out]; simp)
          simp at hm
          omega
        have hcut := slD_cut (HH.out.row.kept KE) j (by omega)
        rw [hAC.out] at hcut
        have hoffc : 0 < n - j → inB AC [p] := fun h0 => by rw [← hAC.out]; exact cutA_inB (HH.out.off (by omega)) _ _ _
        have hU := (slD_app HA5.out).only O5 hoff5
        have hR : RfAt (w5.setCell ⟨p, 1, none⟩ (.slice AC (n - j) (c - j))) p t AC (n - j) (c - j) (L.drop j) := ⟨at_set (KE.only.heap HH.out.box (by simp)) 1 _, hcut.only O5 hoffc, hoffc⟩
        have hO : Only [p] w _ := O1.trans ((KE.only.mono (by simp)).trans O5)
        first | exact ⟨a5, c5, rfl, hU, ⟨AC, c - j, hR⟩, hO⟩ | exact ⟨a5, c5, AC, c - j, (by rw [hk]; rfl), by rw [hk]; exact hU, by rw [hk]; exact hR, hO⟩
    · have hge : (n : Int) ≤ j := by omega
      have hk : dueK t L = j := dueK_at t L j HE.out (by omega) (fun x hxx => by have := (List.getElem?_eq_some_iff.1 hxx).1; omega)
      clear HE
      have hs2 : ∀ W, (Instr.slice 44 (.slice s n c) none (some (.int .i64 (j : Int))) none).run Try.prog W = .ok (.slice s j c) W := fun W => run_cut_h elemD _ _ _ .i64 j _ rfl (by omega) W
      have hs3 : ∀ W, (Instr.slice 44 (.slice s n c) (some (.int .i64 (j : Int))) none none).run Try.prog W = .ok (.slice (cutA s c j 3) (n - j) (c - j)) W := fun W => run_cut_l elemD s n c .i64 j _ rfl (by omega) W
      have HS1 := Lib.hid (fun V (kk : Kept X V) => srcD_take (P := Try.prog) (tx := 44) Try.underlying44 (HH.out.row.kept kk) j (by omega))
      have hA0 := heap_alloc_new X (.cells #[] 43)
      have K0 := kept_al X (.cells #[] 43)
      obtain ⟨_, c1'⟩ := (HH.out.keep K0).cells
      have HCx : Hid (∀ V, Kept X V → V.cell? ⟨p, 1, none⟩ = some (.slice s n c) ∧ V.frozen? ⟨p, 1, none⟩ = false) := fun V kk => ⟨(HH.out.keep kk).cells.2, one_free (HH.out.keep kk).box 1⟩
      obtain ⟨AC, hAC⟩ : ∃ AC, cutA s c j 3 = AC := ⟨_, rfl⟩
      rw [hAC] at hs3
      have hAC := Lib.hid hAC
      go_wp2_with (at_builtin; refine wpList_app rfl (.tmp 43) (.tmp 49) 44 44 rfl elemD _ 0 _ _ rfl (app0 hA0) _ j _ rfl (HS1.out _ K0) (by omega) (by unfold maxLen; omega) ?_; intro a5 c5 g5 w5 hA5 hO5 hG5; rw [Nat.zero_add, List.nil_append] at hA5; rw [Nat.zero_add]; have KE : Kept X w5 := K0.onl hO5 (by intro i hi; simp at hi; omega); have HA5 := Lib.hid hA5; have HG5 : Hid (∀ i ∈ g5.toList, X.heap.size ≤ i) := (by intro i hi; rcases hG5 with rfl | rfl <;> simp at hi <;> omega); obtain ⟨c5', f5⟩ := HCx.out _ KE; clear hA5 hO5 hG5)
      go_ret2
      have O5 : Only [p] w5 (w5.setCell ⟨p, 1, none⟩ (.slice AC (n - j) (c - j))) := (Only.refl _ _).setCell (fun _ => by simp) _
      have hoff5 : 0 < j → inB a5 [p] := fun _ y hy hm => by
        subst hy
        have := HG5.out y.block (by rw [app_blk HA5.out]; simp)
        simp at hm
        omega
      have hcut := slD_cut (HH.out.row.kept KE) j (by omega)
      rw [hAC.out] at hcut
      have hoffc : 0 < n - j → inB AC [p] := fun h0 => by rw [← hAC.out]; exact cutA_inB (HH.out.off (by omega)) _ _ _
      have hU := (slD_app HA5.out).only O5 hoff5
      have hR : RfAt (w5.setCell ⟨p, 1, none⟩ (.slice AC (n - j) (c - j))) p t AC (n - j) (c - j) (L.drop j) := ⟨at_set (KE.only.heap HH.out.box (by simp)) 1 _, hcut.only O5 hoffc, hoffc⟩
      have hO : Only [p] w _ := O1.trans ((KE.only.mono (by simp)).trans O5)
      first | exact ⟨a5, c5, rfl, hU, ⟨AC, c - j, hR⟩, hO⟩ | exact ⟨a5, c5, AC, c - j, (by rw [hk]; rfl), by rw [hk]; exact hU, by rw [hk]; exact hR, hO⟩
end Go.Proofs.Ytneehfngphpccaa
