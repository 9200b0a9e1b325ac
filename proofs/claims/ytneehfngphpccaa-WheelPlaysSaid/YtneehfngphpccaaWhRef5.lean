/- The document's wheel: Set. -/
import Derived.Test.YtneehfngphpccaaWhMath
import Derived.Test.YtneehfngphpccaaHeldT
import Derived.Deep.CutBlock
set_option linter.unusedVariables false
set_option linter.unusedSimpArgs false
namespace Go.Proofs.Ytneehfngphpccaa
open Go.RowKit
theorem two_at' (w : World) (x y : Obj) : ((w.alloc x).alloc y).heap[w.heap.size + 1]? = some y := by
  have := heap_alloc_new (w.alloc x) y
  simpa using this
theorem rf_set_no {w : World} {p : Nat} {now : Int} {s : Option Addr} {n c : Nat} {L : List Du} (h : RfAt w p now s n c L) (a b t : Int) (ht : 1099511627776 < t ∨ t ≤ now) : Calls Try.prog 15 #[.pointer (some ⟨p, 0, none⟩), .int .i64 a, .int .i64 b, .int .i64 t] w fun e w' => e = .returned (.int .i64 1) ∧ w = w' := by
  obtain ⟨c0, c1⟩ := h.cells
  clear h
  by_cases h1 : 1099511627776 < t
  · go_enter Try.func15, Try.ntmps15
    go_wp2
    go_ret
    exact ⟨rfl, rfl⟩
  · have h2 : t ≤ now := by omega
    go_enter Try.func15, Try.ntmps15
    go_wp2
    go_ret
    exact ⟨rfl, rfl⟩
set_option maxRecDepth 100000 in
set_option maxHeartbeats 16000000 in
theorem rf_set {w : World} {p : Nat} {now : Int} {s : Option Addr} {n c : Nat} {L : List Du} (h : RfAt w p now s n c L) (hn : n ≤ 1000) (a b t : Int) (h1 : t ≤ 1099511627776) (h2 : now < t) : Calls Try.prog 15 #[.pointer (some ⟨p, 0, none⟩), .int .i64 a, .int .i64 b, .int .i64 t] w fun e w' => e = .returned (.int .i64 0) ∧ Only [p] w w' ∧ ∃ s' n' c', RfAt w' p now s' n' c' (insD (a, b, t) (dropD a b L)) := by
  have hd1 : ¬ 1099511627776 < t := by omega
  have hd2 : ¬ t ≤ now := by omega
  have HDr := Lib.hid (rf_drop h hn a b)
  have hLd : (dropD a b L).length ≤ 1000 := by
    rcases fndD_spec a b L 0 with ⟨_, e, _⟩ | ⟨k, x, _, hk, _, _, e⟩
    · rw [e, h.row.1]; exact hn
    · rw [e, List.length_append, List.length_take, List.length_drop, h.row.1]; omega
  obtain ⟨c0, c1⟩ := h.cells
  have hpw := lt_heap h.box
  clear h
  go_enter Try.func15, Try.ntmps15
  go_wp2_with fail
  refine HDr.out.mono ?_
  rintro E X ⟨rfl, O1, s1, n1, k1, hX⟩
  have hO1 := Lib.hid O1
  have hsX := O1.size
  obtain ⟨L1, HL1⟩ : ∃ L1, Hid (dropD a b L = L1) := ⟨_, rfl⟩
  have hq1 := HL1.out
  rw [hq1] at hX hLd
  clear hq1
  clear c0 c1 HDr O1
  go_upto_region 5 with fail
  have HX := Lib.hid (hX.keep (kept_al X (.cells #[.int .i64 a, .int .i64 b, .int .i64 t] 43)))
  have hdq := heap_alloc_new X (.cells #[.int .i64 a, .int .i64 b, .int .i64 t] 43)
  have KX := Lib.hid (kept_al X (.cells #[.int .i64 a, .int .i64 b, .int .i64 t] 43))
  have hl := hX.row.1
  have hnc := hX.row.2.1
  have hcm := hX.row.2.2.1
  unfold maxLen at hcm
  obtain ⟨qd, hqd⟩ : ∃ q, X.heap.size = q := ⟨_, rfl⟩
  have hpq : p < qd := by omega
  rw [hqd] at hdq ⊢
  clear hX hqd hsX
  generalize World.alloc X _ = Y at *
  have HC : Hid (∀ Z, Kept Y Z → Z.cell? ⟨p, 1, none⟩ = some (.slice s1 n1 k1) ∧ Z.cell? ⟨qd, 0, none⟩ = some (.int .i64 a) ∧ Z.cell? ⟨qd, 1, none⟩ = some (.int .i64 b) ∧ Z.cell? ⟨qd, 2, none⟩ = some (.int .i64 t)) := fun Z kk => by
    have e := kk.only.heap hdq (by simp)
    exact ⟨(HX.out.keep kk).cells.2, at_cell e 0 _ rfl, at_cell e 1 _ rfl, at_cell e 2 _ rfl⟩
  have HFz : Hid (∀ Z, Kept Y Z → Z.frozen? ⟨p, 1, none⟩ = false) := fun Z kk => one_free (HX.out.keep kk).box 1
  clear hdq
  obtain ⟨c1, e0, e1, e2⟩ := HC.out _ (Kept.refl _)
  go_upto_block 0 with fail
  go_cut [10] from 29 to 48 (fun iv wx => iv = .int .i64 (insK (a, b, t) L1 : Nat) ∧ Kept Y wx)
  case first =>
    clear c1 e0 e1 e2
    go_wp2_with fail
    go_loopw [10] (fun i wr => ∃ j : Nat, i = .int .i64 (j : Nat) ∧ j ≤ n1 ∧ Kept Y wr ∧ Hid (∀ q y, q < j → L1[q]? = some y → lessD y (a, b, t) = true)) (fun i _ => n1 - (intOf i).toNat)
    case atStart => exact ⟨0, rfl, by omega, Kept.refl _, fun q x hq => by omega⟩
    case round =>
      obtain ⟨j, rfl, hj, KW, HE⟩ := hrel
      obtain ⟨c1, e0, e1, e2⟩ := HC.out _ KW
      by_cases hlt : j < n1
      · have hlt' : (j : Int) < n1 := by omega
        obtain ⟨⟨ya, yb, yc⟩, hy⟩ : ∃ x, L1[j]? = some x := ⟨_, List.getElem?_eq_getElem (by omega)⟩
        have hrow := fun Z (kk : Kept Y Z) => (HX.out.keep kk).row.at hy
        obtain ⟨bb, o, hsa, _, _, _⟩ := hrow _ (Kept.refl _)
        subst hsa
        have HS : Hid (∀ Z, Kept Y Z → (Z.cell? ⟨p, 1, none⟩ = some (.slice (some ⟨bb, o, none⟩) n1 k1) ∧ Z.cell? ⟨qd, 0, none⟩ = some (.int .i64 a) ∧ Z.cell? ⟨qd, 1, none⟩ = some (.int .i64 b) ∧ Z.cell? ⟨qd, 2, none⟩ = some (.int .i64 t)) ∧ Z.cell? ⟨bb, o + j * 3, none⟩ = some (.int .i64 ya) ∧ Z.cell? ⟨bb, o + j * 3 + 1, none⟩ = some (.int .i64 yb) ∧ Z.cell? ⟨bb, o + j * 3 + 2, none⟩ = some (.int .i64 yc)) := fun Z kk => by
          obtain ⟨b', o', hs', q0, q1, q2⟩ := hrow Z kk
          injection hs' with hs'
          injection hs' with hb' ho'
          subst hb' ho'
          exact ⟨HC.out Z kk, q0, q1, q2⟩
        have HLs := Lib.hid (fun V => rf_less (ya, yb, yc) (a, b, t) V)
        unfold duV at HLs
        dsimp only at HLs
        have HK1 : Hid (lessD (ya, yb, yc) (a, b, t) = true → ∀ q y, q < j + 1 → L1[q]? = some y → lessD y (a, b, t) = true) := fun hq q y hqj hyy => by
          rcases Nat.lt_or_ge q j with h' | h'
          · exact HE.out q y h' hyy
          · obtain rfl : q = j := by omega
            rw [hy] at hyy
            injection hyy with hyy
            rw [← hyy]; exact hq
        have HK2 : Hid (lessD (ya, yb, yc) (a, b, t) = false → insK (a, b, t) L1 = j) := fun hq => insK_at (a, b, t) L1 j HE.out (by omega) (fun y hyy => by rw [hy] at hyy; injection hyy with hyy; rw [← hyy, hq]; decide)
        generalize lessD (ya, yb, yc) (a, b, t) = lt at HLs HK1 HK2
        clear hrow hy HE
        go_upto_region 6 with fail
        clear c1 e0 e1 e2
        have KD : Kept Y wr.drew := KW.dr ⟨1, rfl⟩
        first | (go_region_held3 (fun Z => (Z.cell? ⟨p, 1, none⟩ = some (.slice (some ⟨bb, o, none⟩) n1 k1) ∧ Z.cell? ⟨qd, 0, none⟩ = some (.int .i64 a) ∧ Z.cell? ⟨qd, 1, none⟩ = some (.int .i64 b) ∧ Z.cell? ⟨qd, 2, none⟩ = some (.int .i64 t)) ∧ Z.cell? ⟨bb, o + j * 3, none⟩ = some (.int .i64 ya) ∧ Z.cell? ⟨bb, o + j * 3 + 1, none⟩ = some (.int .i64 yb) ∧ Z.cell? ⟨bb, o + j * 3 + 2, none⟩ = some (.int .i64 yc)) (exact HS.out _ KD) ((go_at_call 23; refine (HLs.out _).mono ?_; rintro E V ⟨rfl, J⟩; replace KD := KD.trans J; clear J))) | fail
        all_goals (
          cases lt
          · have hk := HK2.out rfl
            go_wp2_with fail
            go_meet
            case rel => exact ⟨by rw [hk], KD⟩
          · go_wp2_with fail
            go_roundw
            case rel => exact ⟨j + 1, by go_num, by omega, KD, HK1.out rfl⟩
            case measure => simp [intOf]; omega)
      · have hge : (n1 : Int) ≤ j := by omega
        have hk : Hid (insK (a, b, t) L1 = j) := insK_at (a, b, t) L1 j HE.out (by omega) (fun y hyy => by have := (List.getElem?_eq_some_iff.1 hyy).1; omega)
        go_upto_region 6 with fail
        go_quiet (fail)
        go_wp2_with fail
        go_meet
        case rel => exact ⟨by rw [hk.out], KW.dr ((Dr.refl wr).drewN _)⟩
  case rest =>
    obtain ⟨rfl, KW⟩ := hcut
    obtain ⟨k, hkk⟩ : ∃ k, insK (a, b, t) L1 = k := ⟨_, rfl⟩
    have hkn : k ≤ n1 := by rw [← hkk, ← hl]; exact insK_le _ _
    have hID : Hid (insD (a, b, t) L1 = L1.take k ++ [(a, b, t)] ++ L1.drop k) := by unfold Hid insD; rw [hkk]
    rw [hkk]
    clear hkk c1 e0 e1 e2
    have hs2 : ∀ W, (Instr.slice 44 (.slice s1 n1 k1) none (some (.int .i64 (k : Int))) none).run Try.prog W = .ok (.slice s1 k k1) W := fun W => run_cut_h elemD _ _ _ .i64 k _ rfl (by omega) W
    have hs3 : ∀ W, (Instr.slice 44 (.slice s1 n1 k1) (some (.int .i64 (k : Int))) none none).run Try.prog W = .ok (.slice (cutA s1 k1 k 3) (n1 - k) (k1 - k)) W := fun W => run_cut_l elemD s1 n1 k1 .i64 k _ rfl (by omega) W
    have HS1 := Lib.hid (fun V (kk : Kept Y V) => srcD_take (P := Try.prog) (tx := 44) Try.underlying44 (HX.out.row.kept kk) k hkn)
    have HS2 := Lib.hid (fun V (kk : Kept Y V) => srcD_drop (P := Try.prog) (tx := 44) Try.underlying44 (HX.out.row.kept kk) k hkn)
    obtain ⟨AC, hAC⟩ : ∃ AC, cutA s1 k1 k 3 = AC := ⟨_, rfl⟩
    rw [hAC] at hs3 HS2
    clear hAC
    have hYW := KW.size
    have kD : Kept Y wc.drew := KW.dr ⟨1, rfl⟩
    have hYW2 : Y.heap.size ≤ wc.heap.size := hYW
    go_upto_region 8 with fail
    refine wp_region_T (S := (fun Z => Z.cell? ⟨p, 1, none⟩ = some (.slice s1 n1 k1) ∧ Z.cell? ⟨qd, 0, none⟩ = some (.int .i64 a) ∧ Z.cell? ⟨qd, 1, none⟩ = some (.int .i64 b) ∧ Z.cell? ⟨qd, 2, none⟩ = some (.int .i64 t))) 21 (by kernel_rfl) (HC.out _ kD) (fun hHeld => ?_)
    try simp only [Act.put, List.setIfInBounds_toArray, List.set_cons_zero, List.set_cons_succ]
    apply anyT_take (i := 0) (ch := [19, 20, 21])
    case hi => (simp only [List.getElem?_toArray, List.getElem?_cons_succ, List.getElem?_cons_zero]; rfl)
    case hs => kernel_rfl
    case hf => kernel_rfl
    case hr => kernel_rfl
    case hch => kernel_rfl
    case hQ => exact fun _ _ _ h => h
    case hy => (refine Or.inl ⟨by rfl, ?_⟩; (intro w' hSw; (try dsimp only at hSw); go_simp) <;> with_reducible rfl)
    case hS => assumption
    try simp only [Act.put, List.setIfInBounds_toArray, List.set_cons_zero, List.set_cons_succ]
    apply anyT_take (i := 2) (ch := [3, 4, 5, 7, 8, 11, 18, 21])
    case hi => (simp only [List.getElem?_toArray, List.getElem?_cons_succ, List.getElem?_cons_zero]; rfl)
    case hs => kernel_rfl
    case hf => kernel_rfl
    case hr => kernel_rfl
    case hch => kernel_rfl
    case hQ => exact fun _ _ _ h => h
    case hy => (refine Or.inl ⟨by rfl, ?_⟩; (intro w' hSw; (try dsimp only at hSw); go_simp) <;> with_reducible rfl)
    case hS => assumption
    try simp only [Act.put, List.setIfInBounds_toArray, List.set_cons_zero, List.set_cons_succ]
    apply anyT_take (i := 3) (ch := [4, 5, 7, 8, 11, 18, 21])
    case hi => (simp only [List.getElem?_toArray, List.getElem?_cons_succ, List.getElem?_cons_zero]; rfl)
    case hs => kernel_rfl
    case hf => kernel_rfl
    case hr => kernel_rfl
    case hch => kernel_rfl
    case hQ => exact fun _ _ _ h => h
    case hy => (refine Or.inl ⟨by rfl, ?_⟩; (intro w' hSw; (try dsimp only at hSw); go_simp) <;> with_reducible rfl)
    case hS => assumption
    try simp only [Act.put, List.setIfInBounds_toArray, List.set_cons_zero, List.set_cons_succ]
    apply anyT_take (i := 4) (ch := [5, 7, 8, 11, 18, 21])
    case hi => (simp only [List.getElem?_toArray, List.getElem?_cons_succ, List.getElem?_cons_zero]; rfl)
    case hs => kernel_rfl
    case hf => kernel_rfl
    case hr => kernel_rfl
    case hch => kernel_rfl
    case hQ => exact fun _ _ _ h => h
    case hy => (refine Or.inl ⟨by rfl, ?_⟩; (intro w' hSw; (try dsimp only at hSw); go_simp) <;> with_reducible rfl)
    case hS => assumption
    try simp only [Act.put, List.setIfInBounds_toArray, List.set_cons_zero, List.set_cons_succ]
    apply anyT_take (i := 5) (ch := [7, 8, 11, 18, 21])
    case hi => (simp only [List.getElem?_toArray, List.getElem?_cons_succ, List.getElem?_cons_zero]; rfl)
    case hs => kernel_rfl
    case hf => kernel_rfl
    case hr => kernel_rfl
    case hch => kernel_rfl
    case hQ => exact fun _ _ _ h => h
    case hy => (refine Or.inl ⟨by rfl, ?_⟩; (intro w' hSw; (try dsimp only at hSw); go_simp) <;> with_reducible rfl)
    case hS => assumption
    try simp only [Act.put, List.setIfInBounds_toArray, List.set_cons_zero, List.set_cons_succ]
    apply anyT_take (i := 6) (ch := [7, 8, 11, 18, 21])
    case hi => (simp only [List.getElem?_toArray, List.getElem?_cons_succ, List.getElem?_cons_zero]; rfl)
    case hs => kernel_rfl
    case hf => kernel_rfl
    case hr => kernel_rfl
    case hch => kernel_rfl
    case hQ => exact fun _ _ _ h => h
    case hy => (refine Or.inl ⟨by rfl, ?_⟩; (intro w' hSw; (try dsimp only at hSw); go_simp) <;> with_reducible rfl)
    case hS => assumption
    try simp only [Act.put, List.setIfInBounds_toArray, List.set_cons_zero, List.set_cons_succ]
    apply anyT_take (i := 7) (ch := [8, 11, 18, 21])
    case hi => (simp only [List.getElem?_toArray, List.getElem?_cons_succ, List.getElem?_cons_zero]; rfl)
    case hs => kernel_rfl
    case hf => kernel_rfl
    case hr => kernel_rfl
    case hch => kernel_rfl
    case hQ => exact fun _ _ _ h => h
    case hy => (refine Or.inl ⟨by rfl, ?_⟩; (intro w' hSw; (try dsimp only at hSw); go_simp) <;> with_reducible rfl)
    case hS => assumption
    try simp only [Act.put, List.setIfInBounds_toArray, List.set_cons_zero, List.set_cons_succ]
    apply anyT_take (i := 9) (ch := [10, 11, 18, 21])
    case hi => (simp only [List.getElem?_toArray, List.getElem?_cons_succ, List.getElem?_cons_zero]; rfl)
    case hs => kernel_rfl
    case hf => kernel_rfl
    case hr => kernel_rfl
    case hch => kernel_rfl
    case hQ => exact fun _ _ _ h => h
    case hy => (refine Or.inl ⟨by rfl, ?_⟩; (intro w' hSw; (try dsimp only at hSw); go_simp) <;> with_reducible rfl)
    case hS => assumption
    try simp only [Act.put, List.setIfInBounds_toArray, List.set_cons_zero, List.set_cons_succ]
    apply anyT_take (i := 12) (ch := [13, 14, 15, 17, 18, 21])
    case hi => (simp only [List.getElem?_toArray, List.getElem?_cons_succ, List.getElem?_cons_zero]; rfl)
    case hs => kernel_rfl
    case hf => kernel_rfl
    case hr => kernel_rfl
    case hch => kernel_rfl
    case hQ => exact fun _ _ _ h => h
    case hy => (refine Or.inl ⟨by rfl, ?_⟩; (intro w' hSw; (try dsimp only at hSw); go_simp) <;> with_reducible rfl)
    case hS => assumption
    try simp only [Act.put, List.setIfInBounds_toArray, List.set_cons_zero, List.set_cons_succ]
    apply anyT_take (i := 13) (ch := [14, 15, 17, 18, 21])
    case hi => (simp only [List.getElem?_toArray, List.getElem?_cons_succ, List.getElem?_cons_zero]; rfl)
    case hs => kernel_rfl
    case hf => kernel_rfl
    case hr => kernel_rfl
    case hch => kernel_rfl
    case hQ => exact fun _ _ _ h => h
    case hy => (refine Or.inl ⟨by rfl, ?_⟩; (intro w' hSw; (try dsimp only at hSw); go_simp) <;> with_reducible rfl)
    case hS => assumption
    try simp only [Act.put, List.setIfInBounds_toArray, List.set_cons_zero, List.set_cons_succ]
    apply anyT_take (i := 14) (ch := [15, 17, 18, 21])
    case hi => (simp only [List.getElem?_toArray, List.getElem?_cons_succ, List.getElem?_cons_zero]; rfl)
    case hs => kernel_rfl
    case hf => kernel_rfl
    case hr => kernel_rfl
    case hch => kernel_rfl
    case hQ => exact fun _ _ _ h => h
    case hy => (refine Or.inl ⟨by rfl, ?_⟩; (intro w' hSw; (try dsimp only at hSw); go_simp) <;> with_reducible rfl)
    case hS => assumption
    try simp only [Act.put, List.setIfInBounds_toArray, List.set_cons_zero, List.set_cons_succ]
    apply anyT_take (i := 15) (ch := [17, 18, 21])
    case hi => (simp only [List.getElem?_toArray, List.getElem?_cons_succ, List.getElem?_cons_zero]; rfl)
    case hs => kernel_rfl
    case hf => kernel_rfl
    case hr => kernel_rfl
    case hch => kernel_rfl
    case hQ => exact fun _ _ _ h => h
    case hy => (refine Or.inl ⟨by rfl, ?_⟩; (intro w' hSw; (try dsimp only at hSw); go_simp) <;> with_reducible rfl)
    case hS => assumption
    try simp only [Act.put, List.setIfInBounds_toArray, List.set_cons_zero, List.set_cons_succ]
    apply anyT_take (i := 16) (ch := [17, 18, 21])
    case hi => (simp only [List.getElem?_toArray, List.getElem?_cons_succ, List.getElem?_cons_zero]; rfl)
    case hs => kernel_rfl
    case hf => kernel_rfl
    case hr => kernel_rfl
    case hch => kernel_rfl
    case hQ => exact fun _ _ _ h => h
    case hy => (refine Or.inl ⟨by rfl, ?_⟩; (intro w' hSw; (try dsimp only at hSw); go_simp) <;> with_reducible rfl)
    case hS => assumption
    try simp only [Act.put, List.setIfInBounds_toArray, List.set_cons_zero, List.set_cons_succ]
    apply anyT_take (i := 17) (ch := [18, 21])
    case hi => (simp only [List.getElem?_toArray, List.getElem?_cons_succ, List.getElem?_cons_zero]; rfl)
    case hs => kernel_rfl
    case hf => kernel_rfl
    case hr => kernel_rfl
    case hch => kernel_rfl
    case hQ => exact fun _ _ _ h => h
    case hy => (refine Or.inl ⟨by rfl, ?_⟩; (intro w' hSw; (try dsimp only at hSw); go_simp) <;> with_reducible rfl)
    case hS => assumption
    try simp only [Act.put, List.setIfInBounds_toArray, List.set_cons_zero, List.set_cons_succ]
    refine anyT_ready (rs := [1, 10]) (by kernel_rfl) (by simp) ?_
    apply AllReadyT.cons
    case ho => (simp only [List.getElem?_toArray, List.getElem?_cons_succ, List.getElem?_cons_zero]; rfl)
    case h =>
      intro K hK
      go_simp
      have kq1 : Kept Y (wc.drew.alloc (.cells #[] 43)) := kD.trans (kept_al _ _)
      have HL : Hid ((wc.drew.alloc (.cells #[] 43)).heap[wc.heap.size]? = some (.cells #[] 43 (0, 0))) := heap_alloc_new wc.drew (.cells #[] 43)
      refine hK.out _ _ (fun _ => HC.out _ kq1) (fun hHeld => ?_)
      replace hHeld := hHeld (by decide)
      clear hK K
      try simp only [Act.put, List.setIfInBounds_toArray, List.set_cons_zero, List.set_cons_succ]
      refine anyT_ready (rs := [8, 10]) (by kernel_rfl) (by simp) ?_
      apply AllReadyT.cons
      case ho => (simp only [List.getElem?_toArray, List.getElem?_cons_succ, List.getElem?_cons_zero]; rfl)
      case h =>
        intro K hK
        refine step_app rfl (.tmp 50) (.tmp 56) 44 44 rfl elemD _ (0) _ _ rfl (app0 HL.out) _ (k) _ rfl (HS1.out _ kq1) (by omega) (by unfold maxLen; omega) ?_
        intro a5 c5 g5 w5 hA5 hO hG
        have Kw5 : Kept Y w5 := kq1.onl hO (by intro i hi; simp at hi; omega)
        rw [Nat.zero_add, List.nil_append] at hA5
        rw [Nat.zero_add]
        have HG5 : Hid (∀ i ∈ g5.toList, Y.heap.size ≤ i) := fun i hi => hG.elim (fun h => by rw [h] at hi; simp at hi; omega) (fun h => by rw [h] at hi; simp at hi; have hz := kq1.size; (try simp at hz); omega)
        have HA5 := Lib.hid hA5
        clear hA5 hO hG
        refine hK.out _ _ (fun _ => HC.out _ Kw5) (fun hHeld => ?_)
        replace hHeld := hHeld (by decide)
        clear hK K
        try simp only [Act.put, List.setIfInBounds_toArray, List.set_cons_zero, List.set_cons_succ]
        refine anyT_ready (rs := [10]) (by kernel_rfl) (by simp) ?_
        apply AllReadyT.cons
        case ho => (simp only [List.getElem?_toArray, List.getElem?_cons_succ, List.getElem?_cons_zero]; rfl)
        case hs => exact AllReadyT.nil
        intro K hK
        go_simp
        have k2 : Kept Y (w5.alloc (.cells #[.int .i64 a, .int .i64 b, .int .i64 t] 43)) := Kw5.trans (kept_al _ _)
        have HB : Hid ((w5.alloc (.cells #[.int .i64 a, .int .i64 b, .int .i64 t] 43)).heap[w5.heap.size]? = some (.cells #[.int .i64 a, .int .i64 b, .int .i64 t] 43 (0, 0))) := heap_alloc_new w5 (.cells #[.int .i64 a, .int .i64 b, .int .i64 t] 43)
        have HA5b := Lib.hid ((kept_al w5 (.cells #[.int .i64 a, .int .i64 b, .int .i64 t] 43)).only.app HA5.out (by simp))
        refine hK.out _ _ (fun _ => HC.out _ k2) (fun hHeld => ?_)
        replace hHeld := hHeld (by decide)
        clear hK K
        try simp only [Act.put, List.setIfInBounds_toArray, List.set_cons_zero, List.set_cons_succ]
        refine anyT_ready (rs := [11]) (by kernel_rfl) (by simp) ?_
        apply AllReadyT.cons
        case ho => (simp only [List.getElem?_toArray, List.getElem?_cons_succ, List.getElem?_cons_zero]; rfl)
        case hs => exact AllReadyT.nil
        intro K hK
        refine step_app rfl (.tmp 57) (.tmp 59) 44 44 rfl elemD _ (k) _ _ rfl (HA5b.out) _ (1) _ rfl (src_block Try.underlying44 HB.out 1 1 rfl (by simp [Value.oneCell'])) (by omega) (by unfold maxLen; omega) ?_
        intro a6 c6 g6 w6 hA6 hO hG
        have Kw6 : Kept Y w6 := k2.onl hO (by intro i hi; exact HG5.out i hi)
        have HG6 : Hid (∀ i ∈ g6.toList, Y.heap.size ≤ i) := fun i hi => hG.elim (fun h => by rw [h] at hi; exact HG5.out i hi) (fun h => by rw [h] at hi; simp at hi; have hz := k2.size; (try simp at hz); omega)
        have HA6 := Lib.hid hA6
        clear hA6 hO hG
        refine hK.out _ _ (fun _ => HC.out _ Kw6) (fun hHeld => ?_)
        replace hHeld := hHeld (by decide)
        clear hK K
        try simp only [Act.put, List.setIfInBounds_toArray, List.set_cons_zero, List.set_cons_succ]
        refine anyT_ready (rs := [18]) (by kernel_rfl) (by simp) ?_
        apply AllReadyT.cons
        case ho => (simp only [List.getElem?_toArray, List.getElem?_cons_succ, List.getElem?_cons_zero]; rfl)
        case hs => exact AllReadyT.nil
        intro K hK
        refine step_app rfl (.tmp 60) (.tmp 66) 44 44 rfl elemD _ (k + 1) _ _ rfl (HA6.out) _ (n1 - k) _ rfl (HS2.out _ Kw6) (by omega) (by unfold maxLen; omega) ?_
        intro a7 c7 g7 w7 hA7 hO hG
        have Kw7 : Kept Y w7 := Kw6.onl hO (by intro i hi; exact HG6.out i hi)
        have HG7 : Hid (∀ i ∈ g7.toList, Y.heap.size ≤ i) := fun i hi => hG.elim (fun h => by rw [h] at hi; exact HG6.out i hi) (fun h => by rw [h] at hi; simp at hi; have hz := Kw6.size; (try simp at hz); omega)
        have HA7 := Lib.hid hA7
        clear hA7 hO hG
        refine hK.out _ _ (fun _ => HC.out _ Kw7) (fun hHeld => ?_)
        replace hHeld := hHeld (by decide)
        clear hK K
        try simp only [Act.put, List.setIfInBounds_toArray, List.set_cons_zero, List.set_cons_succ]
        apply anyT_take (i := 19) (ch := [20, 21])
        case hi => (simp only [List.getElem?_toArray, List.getElem?_cons_succ, List.getElem?_cons_zero]; rfl)
        case hs => kernel_rfl
        case hf => kernel_rfl
        case hr => kernel_rfl
        case hch => kernel_rfl
        case hQ => exact fun _ _ _ h => h
        case hy => (refine Or.inl ⟨by rfl, ?_⟩; (intro w' hSw; (try dsimp only at hSw); go_simp) <;> with_reducible rfl)
        case hS => assumption
        try simp only [Act.put, List.setIfInBounds_toArray, List.set_cons_zero, List.set_cons_succ]
        apply anyT_take (i := 20) (ch := [21])
        case hi => (simp only [List.getElem?_toArray, List.getElem?_cons_succ, List.getElem?_cons_zero]; rfl)
        case hs => kernel_rfl
        case hf => kernel_rfl
        case hr => kernel_rfl
        case hch => kernel_rfl
        case hQ => exact fun _ _ _ h => h
        case hy => (refine Or.inl ⟨by rfl, ?_⟩; (intro w' hSw; (try dsimp only at hSw); go_simp) <;> with_reducible rfl)
        case hS => assumption
        try simp only [Act.put, List.setIfInBounds_toArray, List.set_cons_zero, List.set_cons_succ]
        refine anyT_ready (rs := [21]) (by kernel_rfl) (by simp) ?_
        apply AllReadyT.cons
        case ho => (simp only [List.getElem?_toArray, List.getElem?_cons_succ, List.getElem?_cons_zero]; rfl)
        case hs => exact AllReadyT.nil
        have fE := HFz.out _ Kw7
        have cE := (HC.out _ Kw7).1
        intro K hK
        go_simp
        refine hK.out _ _ (fun h => absurd rfl h) (fun _ => ?_)
        clear hK K
        try simp only [Act.put, List.setIfInBounds_toArray, List.set_cons_zero, List.set_cons_succ]
        refine anyT_done (by kernel_rfl) ?_ _
        have hF := HX.out.store Kw7 (L6 := L1.take k ++ [(a, b, t)] ++ L1.drop k) (by rw [duVs_app, duVs_app]; exact HA7.out) HG7.out
        have hO := hO1.out.trans ((KX.out.only.mono (by simp)).trans hF.2)
        go_wp2
        go_ret
        exact ⟨rfl, hO, _, _, _, by rw [HL1.out, hID.out]; exact hF.1⟩
      case hs =>
        apply AllReadyT.cons
        case ho => (simp only [List.getElem?_toArray, List.getElem?_cons_succ, List.getElem?_cons_zero]; rfl)
        case hs => exact AllReadyT.nil
        intro K hK
        go_simp
        have k2 : Kept Y ((wc.drew.alloc (.cells #[] 43)).alloc (.cells #[.int .i64 a, .int .i64 b, .int .i64 t] 43)) := kq1.trans (kept_al _ _)
        have HL2 : Hid (((wc.drew.alloc (.cells #[] 43)).alloc (.cells #[.int .i64 a, .int .i64 b, .int .i64 t] 43)).heap[wc.heap.size]? = some (.cells #[] 43 (0, 0))) := heap_keep HL.out (.cells #[.int .i64 a, .int .i64 b, .int .i64 t] 43)
        have HB : Hid (((wc.drew.alloc (.cells #[] 43)).alloc (.cells #[.int .i64 a, .int .i64 b, .int .i64 t] 43)).heap[wc.heap.size + 1]? = some (.cells #[.int .i64 a, .int .i64 b, .int .i64 t] 43 (0, 0))) := two_at' wc.drew (.cells #[] 43) (.cells #[.int .i64 a, .int .i64 b, .int .i64 t] 43)
        refine hK.out _ _ (fun _ => HC.out _ k2) (fun hHeld => ?_)
        replace hHeld := hHeld (by decide)
        clear hK K
        try simp only [Act.put, List.setIfInBounds_toArray, List.set_cons_zero, List.set_cons_succ]
        refine anyT_ready (rs := [8]) (by kernel_rfl) (by simp) ?_
        apply AllReadyT.cons
        case ho => (simp only [List.getElem?_toArray, List.getElem?_cons_succ, List.getElem?_cons_zero]; rfl)
        case hs => exact AllReadyT.nil
        intro K hK
        refine step_app rfl (.tmp 50) (.tmp 56) 44 44 rfl elemD _ (0) _ _ rfl (app0 HL2.out) _ (k) _ rfl (HS1.out _ k2) (by omega) (by unfold maxLen; omega) ?_
        intro a5 c5 g5 w5 hA5 hO hG
        have Kw5 : Kept Y w5 := k2.onl hO (by intro i hi; simp at hi; omega)
        rw [Nat.zero_add, List.nil_append] at hA5
        rw [Nat.zero_add]
        have HG5 : Hid (∀ i ∈ g5.toList, Y.heap.size ≤ i) := fun i hi => hG.elim (fun h => by rw [h] at hi; simp at hi; omega) (fun h => by rw [h] at hi; simp at hi; have hz := k2.size; (try simp at hz); omega)
        have HA5 := Lib.hid hA5
        have HB5 := Lib.hid (hO.heap HB.out (by simp))
        clear hA5 hO hG
        refine hK.out _ _ (fun _ => HC.out _ Kw5) (fun hHeld => ?_)
        replace hHeld := hHeld (by decide)
        clear hK K
        try simp only [Act.put, List.setIfInBounds_toArray, List.set_cons_zero, List.set_cons_succ]
        refine anyT_ready (rs := [11]) (by kernel_rfl) (by simp) ?_
        apply AllReadyT.cons
        case ho => (simp only [List.getElem?_toArray, List.getElem?_cons_succ, List.getElem?_cons_zero]; rfl)
        case hs => exact AllReadyT.nil
        intro K hK
        refine step_app rfl (.tmp 57) (.tmp 59) 44 44 rfl elemD _ (k) _ _ rfl (HA5.out) _ (1) _ rfl (src_block Try.underlying44 HB5.out 1 1 rfl (by simp [Value.oneCell'])) (by omega) (by unfold maxLen; omega) ?_
        intro a6 c6 g6 w6 hA6 hO hG
        have Kw6 : Kept Y w6 := Kw5.onl hO (by intro i hi; exact HG5.out i hi)
        have HG6 : Hid (∀ i ∈ g6.toList, Y.heap.size ≤ i) := fun i hi => hG.elim (fun h => by rw [h] at hi; exact HG5.out i hi) (fun h => by rw [h] at hi; simp at hi; have hz := Kw5.size; (try simp at hz); omega)
        have HA6 := Lib.hid hA6
        clear hA6 hO hG
        refine hK.out _ _ (fun _ => HC.out _ Kw6) (fun hHeld => ?_)
        replace hHeld := hHeld (by decide)
        clear hK K
        try simp only [Act.put, List.setIfInBounds_toArray, List.set_cons_zero, List.set_cons_succ]
        refine anyT_ready (rs := [18]) (by kernel_rfl) (by simp) ?_
        apply AllReadyT.cons
        case ho => (simp only [List.getElem?_toArray, List.getElem?_cons_succ, List.getElem?_cons_zero]; rfl)
        case hs => exact AllReadyT.nil
        intro K hK
        refine step_app rfl (.tmp 60) (.tmp 66) 44 44 rfl elemD _ (k + 1) _ _ rfl (HA6.out) _ (n1 - k) _ rfl (HS2.out _ Kw6) (by omega) (by unfold maxLen; omega) ?_
        intro a7 c7 g7 w7 hA7 hO hG
        have Kw7 : Kept Y w7 := Kw6.onl hO (by intro i hi; exact HG6.out i hi)
        have HG7 : Hid (∀ i ∈ g7.toList, Y.heap.size ≤ i) := fun i hi => hG.elim (fun h => by rw [h] at hi; exact HG6.out i hi) (fun h => by rw [h] at hi; simp at hi; have hz := Kw6.size; (try simp at hz); omega)
        have HA7 := Lib.hid hA7
        clear hA7 hO hG
        refine hK.out _ _ (fun _ => HC.out _ Kw7) (fun hHeld => ?_)
        replace hHeld := hHeld (by decide)
        clear hK K
        try simp only [Act.put, List.setIfInBounds_toArray, List.set_cons_zero, List.set_cons_succ]
        apply anyT_take (i := 19) (ch := [20, 21])
        case hi => (simp only [List.getElem?_toArray, List.getElem?_cons_succ, List.getElem?_cons_zero]; rfl)
        case hs => kernel_rfl
        case hf => kernel_rfl
        case hr => kernel_rfl
        case hch => kernel_rfl
        case hQ => exact fun _ _ _ h => h
        case hy => (refine Or.inl ⟨by rfl, ?_⟩; (intro w' hSw; (try dsimp only at hSw); go_simp) <;> with_reducible rfl)
        case hS => assumption
        try simp only [Act.put, List.setIfInBounds_toArray, List.set_cons_zero, List.set_cons_succ]
        apply anyT_take (i := 20) (ch := [21])
        case hi => (simp only [List.getElem?_toArray, List.getElem?_cons_succ, List.getElem?_cons_zero]; rfl)
        case hs => kernel_rfl
        case hf => kernel_rfl
        case hr => kernel_rfl
        case hch => kernel_rfl
        case hQ => exact fun _ _ _ h => h
        case hy => (refine Or.inl ⟨by rfl, ?_⟩; (intro w' hSw; (try dsimp only at hSw); go_simp) <;> with_reducible rfl)
        case hS => assumption
        try simp only [Act.put, List.setIfInBounds_toArray, List.set_cons_zero, List.set_cons_succ]
        refine anyT_ready (rs := [21]) (by kernel_rfl) (by simp) ?_
        apply AllReadyT.cons
        case ho => (simp only [List.getElem?_toArray, List.getElem?_cons_succ, List.getElem?_cons_zero]; rfl)
        case hs => exact AllReadyT.nil
        have fE := HFz.out _ Kw7
        have cE := (HC.out _ Kw7).1
        intro K hK
        go_simp
        refine hK.out _ _ (fun h => absurd rfl h) (fun _ => ?_)
        clear hK K
        try simp only [Act.put, List.setIfInBounds_toArray, List.set_cons_zero, List.set_cons_succ]
        refine anyT_done (by kernel_rfl) ?_ _
        have hF := HX.out.store Kw7 (L6 := L1.take k ++ [(a, b, t)] ++ L1.drop k) (by rw [duVs_app, duVs_app]; exact HA7.out) HG7.out
        have hO := hO1.out.trans ((KX.out.only.mono (by simp)).trans hF.2)
        go_wp2
        go_ret
        exact ⟨rfl, hO, _, _, _, by rw [HL1.out, hID.out]; exact hF.1⟩
    case hs =>
      apply AllReadyT.cons
      case ho => (simp only [List.getElem?_toArray, List.getElem?_cons_succ, List.getElem?_cons_zero]; rfl)
      case hs => exact AllReadyT.nil
      intro K hK
      go_simp
      have kq1 : Kept Y (wc.drew.alloc (.cells #[.int .i64 a, .int .i64 b, .int .i64 t] 43)) := kD.trans (kept_al _ _)
      refine hK.out _ _ (fun _ => HC.out _ kq1) (fun hHeld => ?_)
      replace hHeld := hHeld (by decide)
      clear hK K
      try simp only [Act.put, List.setIfInBounds_toArray, List.set_cons_zero, List.set_cons_succ]
      refine anyT_ready (rs := [1]) (by kernel_rfl) (by simp) ?_
      apply AllReadyT.cons
      case ho => (simp only [List.getElem?_toArray, List.getElem?_cons_succ, List.getElem?_cons_zero]; rfl)
      case hs => exact AllReadyT.nil
      intro K hK
      go_simp
      have k2 : Kept Y ((wc.drew.alloc (.cells #[.int .i64 a, .int .i64 b, .int .i64 t] 43)).alloc (.cells #[] 43)) := kq1.trans (kept_al _ _)
      have HB : Hid (((wc.drew.alloc (.cells #[.int .i64 a, .int .i64 b, .int .i64 t] 43)).alloc (.cells #[] 43)).heap[wc.heap.size]? = some (.cells #[.int .i64 a, .int .i64 b, .int .i64 t] 43 (0, 0))) := heap_keep (heap_alloc_new wc.drew (.cells #[.int .i64 a, .int .i64 b, .int .i64 t] 43)) (.cells #[] 43)
      have HL2 : Hid (((wc.drew.alloc (.cells #[.int .i64 a, .int .i64 b, .int .i64 t] 43)).alloc (.cells #[] 43)).heap[wc.heap.size + 1]? = some (.cells #[] 43 (0, 0))) := two_at' wc.drew (.cells #[.int .i64 a, .int .i64 b, .int .i64 t] 43) (.cells #[] 43)
      refine hK.out _ _ (fun _ => HC.out _ k2) (fun hHeld => ?_)
      replace hHeld := hHeld (by decide)
      clear hK K
      try simp only [Act.put, List.setIfInBounds_toArray, List.set_cons_zero, List.set_cons_succ]
      refine anyT_ready (rs := [8]) (by kernel_rfl) (by simp) ?_
      apply AllReadyT.cons
      case ho => (simp only [List.getElem?_toArray, List.getElem?_cons_succ, List.getElem?_cons_zero]; rfl)
      case hs => exact AllReadyT.nil
      intro K hK
      refine step_app rfl (.tmp 50) (.tmp 56) 44 44 rfl elemD _ (0) _ _ rfl (app0 HL2.out) _ (k) _ rfl (HS1.out _ k2) (by omega) (by unfold maxLen; omega) ?_
      intro a5 c5 g5 w5 hA5 hO hG
      have Kw5 : Kept Y w5 := k2.onl hO (by intro i hi; simp at hi; omega)
      rw [Nat.zero_add, List.nil_append] at hA5
      rw [Nat.zero_add]
      have HG5 : Hid (∀ i ∈ g5.toList, Y.heap.size ≤ i) := fun i hi => hG.elim (fun h => by rw [h] at hi; simp at hi; omega) (fun h => by rw [h] at hi; simp at hi; have hz := k2.size; (try simp at hz); omega)
      have HA5 := Lib.hid hA5
      have HB5 := Lib.hid (hO.heap HB.out (by simp))
      clear hA5 hO hG
      refine hK.out _ _ (fun _ => HC.out _ Kw5) (fun hHeld => ?_)
      replace hHeld := hHeld (by decide)
      clear hK K
      try simp only [Act.put, List.setIfInBounds_toArray, List.set_cons_zero, List.set_cons_succ]
      refine anyT_ready (rs := [11]) (by kernel_rfl) (by simp) ?_
      apply AllReadyT.cons
      case ho => (simp only [List.getElem?_toArray, List.getElem?_cons_succ, List.getElem?_cons_zero]; rfl)
      case hs => exact AllReadyT.nil
      intro K hK
      refine step_app rfl (.tmp 57) (.tmp 59) 44 44 rfl elemD _ (k) _ _ rfl (HA5.out) _ (1) _ rfl (src_block Try.underlying44 HB5.out 1 1 rfl (by simp [Value.oneCell'])) (by omega) (by unfold maxLen; omega) ?_
      intro a6 c6 g6 w6 hA6 hO hG
      have Kw6 : Kept Y w6 := Kw5.onl hO (by intro i hi; exact HG5.out i hi)
      have HG6 : Hid (∀ i ∈ g6.toList, Y.heap.size ≤ i) := fun i hi => hG.elim (fun h => by rw [h] at hi; exact HG5.out i hi) (fun h => by rw [h] at hi; simp at hi; have hz := Kw5.size; (try simp at hz); omega)
      have HA6 := Lib.hid hA6
      clear hA6 hO hG
      refine hK.out _ _ (fun _ => HC.out _ Kw6) (fun hHeld => ?_)
      replace hHeld := hHeld (by decide)
      clear hK K
      try simp only [Act.put, List.setIfInBounds_toArray, List.set_cons_zero, List.set_cons_succ]
      refine anyT_ready (rs := [18]) (by kernel_rfl) (by simp) ?_
      apply AllReadyT.cons
      case ho => (simp only [List.getElem?_toArray, List.getElem?_cons_succ, List.getElem?_cons_zero]; rfl)
      case hs => exact AllReadyT.nil
      intro K hK
      refine step_app rfl (.tmp 60) (.tmp 66) 44 44 rfl elemD _ (k + 1) _ _ rfl (HA6.out) _ (n1 - k) _ rfl (HS2.out _ Kw6) (by omega) (by unfold maxLen; omega) ?_
      intro a7 c7 g7 w7 hA7 hO hG
      have Kw7 : Kept Y w7 := Kw6.onl hO (by intro i hi; exact HG6.out i hi)
      have HG7 : Hid (∀ i ∈ g7.toList, Y.heap.size ≤ i) := fun i hi => hG.elim (fun h => by rw [h] at hi; exact HG6.out i hi) (fun h => by rw [h] at hi; simp at hi; have hz := Kw6.size; (try simp at hz); omega)
      have HA7 := Lib.hid hA7
      clear hA7 hO hG
      refine hK.out _ _ (fun _ => HC.out _ Kw7) (fun hHeld => ?_)
      replace hHeld := hHeld (by decide)
      clear hK K
      try simp only [Act.put, List.setIfInBounds_toArray, List.set_cons_zero, List.set_cons_succ]
      apply anyT_take (i := 19) (ch := [20, 21])
      case hi => (simp only [List.getElem?_toArray, List.getElem?_cons_succ, List.getElem?_cons_zero]; rfl)
      case hs => kernel_rfl
      case hf => kernel_rfl
      case hr => kernel_rfl
      case hch => kernel_rfl
      case hQ => exact fun _ _ _ h => h
      case hy => (refine Or.inl ⟨by rfl, ?_⟩; (intro w' hSw; (try dsimp only at hSw); go_simp) <;> with_reducible rfl)
      case hS => assumption
      try simp only [Act.put, List.setIfInBounds_toArray, List.set_cons_zero, List.set_cons_succ]
      apply anyT_take (i := 20) (ch := [21])
      case hi => (simp only [List.getElem?_toArray, List.getElem?_cons_succ, List.getElem?_cons_zero]; rfl)
      case hs => kernel_rfl
      case hf => kernel_rfl
      case hr => kernel_rfl
      case hch => kernel_rfl
      case hQ => exact fun _ _ _ h => h
      case hy => (refine Or.inl ⟨by rfl, ?_⟩; (intro w' hSw; (try dsimp only at hSw); go_simp) <;> with_reducible rfl)
      case hS => assumption
      try simp only [Act.put, List.setIfInBounds_toArray, List.set_cons_zero, List.set_cons_succ]
      refine anyT_ready (rs := [21]) (by kernel_rfl) (by simp) ?_
      apply AllReadyT.cons
      case ho => (simp only [List.getElem?_toArray, List.getElem?_cons_succ, List.getElem?_cons_zero]; rfl)
      case hs => exact AllReadyT.nil
      have fE := HFz.out _ Kw7
      have cE := (HC.out _ Kw7).1
      intro K hK
      go_simp
      refine hK.out _ _ (fun h => absurd rfl h) (fun _ => ?_)
      clear hK K
      try simp only [Act.put, List.setIfInBounds_toArray, List.set_cons_zero, List.set_cons_succ]
      refine anyT_done (by kernel_rfl) ?_ _
      have hF := HX.out.store Kw7 (L6 := L1.take k ++ [(a, b, t)] ++ L1.drop k) (by rw [duVs_app, duVs_app]; exact HA7.out) HG7.out
      have hO := hO1.out.trans ((KX.out.only.mono (by simp)).trans hF.2)
      go_wp2
      go_ret
      exact ⟨rfl, hO, _, _, _, by rw [HL1.out, hID.out]; exact hF.1⟩
end Go.Proofs.Ytneehfngphpccaa
