/- The bag: See and Drop. -/
import Derived.Test.YtnnjflljlooifaaBag2
set_option linter.unusedVariables false
set_option linter.unusedSimpArgs false
namespace Go.Proofs.Ytnnjflljlooifaa
open Go.RowKit
def zMsg : Value := .agg #[.int .i64 0, .int .i64 0, .int .i64 0, .int .i64 0, .int .i64 0, .int .i64 0, .slice none 0 0, .slice none 0 0, .int .i64 0]
set_option maxRecDepth 100000 in
set_option maxHeartbeats 2000000 in
theorem bag_see_no {X : World} (p : Nat) (g : Option Nat) (A : List (Int × Int)) (i : Int) (w : World) (hB : BagW X w p g A) (hi : ¬ (0 ≤ i ∧ i < A.length)) :
    Calls Try.prog 15 #[.pointer (some ⟨p, 0, none⟩), .int .i64 i] w fun e w' => e = .returned (.tuple #[zMsg, .bool false]) ∧ Kept w w' := by
  unfold zMsg
  obtain ⟨⟨a, c, R, ⟨hBx, hBa, hBr⟩⟩, hBo, hpX, hgw, hok, hfew⟩ := hB
  have h0 := heap_alloc_new w (.cells #[.int .i64 0, .int .i64 0, .int .i64 0, .int .i64 0, .int .i64 0, .int .i64 0, .slice none 0 0, .slice none 0 0, .int .i64 0] 33)
  have K1 := (kept_al w (.cells #[.int .i64 0, .int .i64 0, .int .i64 0, .int .i64 0, .int .i64 0, .int .i64 0, .slice none 0 0, .slice none 0 0, .int .i64 0] 33))
  have c0 : World.cell? _ ⟨p, 0, none⟩ = some (.slice a A.length c) := at_cell (K1.only.heap hBx (by simp)) 0 _ rfl
  obtain ⟨q0, q1, q2, q3, q4, q5, q6, q7, q8⟩ := nine_cells h0
  have z := one_free h0
  clear hBx hBa hBr hBo h0
  by_cases hneg : i < 0
  · go_enter Try.func15, Try.ntmps15
    go_wp2
    exact bodyPost_ret (v := .tuple #[.agg #[.int .i64 0, .int .i64 0, .int .i64 0, .int .i64 0, .int .i64 0, .int .i64 0, .slice none 0 0, .slice none 0 0, .int .i64 0], .bool false]) (by simp [results, Try.results15, go_sem, q0, q1, q2, q3, q4, q5, q6, q7, q8]) rfl ⟨rfl, K1⟩
  · have hge : (A.length : Int) ≤ i := by omega
    go_enter Try.func15, Try.ntmps15
    go_wp2
    exact bodyPost_ret (v := .tuple #[.agg #[.int .i64 0, .int .i64 0, .int .i64 0, .int .i64 0, .int .i64 0, .int .i64 0, .slice none 0 0, .slice none 0 0, .int .i64 0], .bool false]) (by simp [results, Try.results15, go_sem, q0, q1, q2, q3, q4, q5, q6, q7, q8]) rfl ⟨rfl, K1⟩
/-- a message without rows lies nowhere -/
theorem msg0_any {w w' : World} {la ta : Option Addr} {lc tc : Nat} (h : MsgAt w la 0 lc ta 0 tc [] []) : MsgAt w' la 0 lc ta 0 tc [] [] := by
  obtain ⟨R, h1, h2, h3⟩ := h
  have hR : R = [] := List.eq_nil_of_length_eq_zero h1.1
  subst hR
  exact ⟨[], ⟨rfl, h1.2.1, h1.2.2.1, fun i r hi => by cases hi⟩, ⟨rfl, fun i r l h1 h2 => by cases h1⟩, ⟨rfl, h3.2.1, h3.2.2.1, fun i hi => by omega⟩⟩
theorem ack_okM (n d : Int) (hn : ackOk (n, d) = true) (hd : d = 0 ∨ d = 1) : goodM ⟨2, 1 - d, d, 1, n, 0, none, 0, 0, none, 0, 0, 0⟩ (lens []) [] = true := by rw [ack_good n d hd]; exact hn
set_option maxRecDepth 100000 in
set_option maxHeartbeats 4000000 in
theorem bag_see {X : World} (p : Nat) (g : Option Nat) (A : List (Int × Int)) (j : Nat) (n d : Int) (w : World) (hB : BagW X w p g A) (hj : A[j]? = some (n, d)) :
    Calls Try.prog 15 #[.pointer (some ⟨p, 0, none⟩), .int .i64 j] w fun e w' => ∃ la lc ta tc, e = .returned (.tuple #[.agg #[.int .i64 2, .int .i64 (1 - d), .int .i64 d, .int .i64 1, .int .i64 n, .int .i64 0, .slice la 0 lc, .slice ta 0 tc, .int .i64 0], .bool true]) ∧ MsgAt w' la 0 lc ta 0 tc [] [] ∧ Kept w w' := by
  obtain ⟨⟨a, c, R, ⟨hBx, hBa, hBr⟩⟩, hBo, hpX, hgw, hok, hfew⟩ := hB
  obtain ⟨ho1, ho2⟩ := hok _ (List.mem_of_getElem? hj)
  have hjl : j < A.length := by
    rcases Nat.lt_or_ge j A.length with h' | h'
    · exact h'
    · rw [List.getElem?_eq_none h'] at hj; cases hj
  have hRl : R.length = A.length := by have := hBa.len; unfold bvs at this; rw [List.length_map] at this; omega
  obtain ⟨r, hr⟩ : ∃ r, R[j]? = some r := ⟨_, List.getElem?_eq_getElem (by omega)⟩
  have hs := (hBr j r _ hr hj).1
  obtain ⟨ra, rn, rc⟩ := r
  dsimp only at hs
  unfold ackB at hs
  dsimp only at hs
  obtain ⟨b, o, rfl, hcj⟩ : ∃ b o, a = some ⟨b, o, none⟩ ∧ w.cell? ⟨b, o + j, none⟩ = some (.slice ra rn rc) := by
    cases g with
    | none =>
      have := hBa.2
      rcases hBa.1.2 with ⟨h1, h2⟩ | ⟨b, cap, cur, h1, _⟩
      · omega
      · rw [h1] at this; cases this
    | some b =>
      obtain ⟨cur, c', hc, hcs, ht, hv, _⟩ := hBa.heapAt
      injection hv with e1 e2 e3
      refine ⟨b, 0, e1, ?_⟩
      rw [cell_of_row w b _ cur _ _ hc, Nat.zero_add]
      have h3 : (bvs R)[j]? = some (.slice ra rn rc) := by unfold bvs; rw [List.getElem?_map, hr]; rfl
      rw [← ht, List.getElem?_take, Nat.mul_one, if_pos hjl] at h3
      rw [← Array.getElem?_toList]; exact h3
  have hlt' : (j : Int) < A.length := by omega
  have HGt := Lib.hid (fun V (kk : Kept w V) => cGet (V := V) (k := 2) (f := 1 - d) (t := d) (e := 1) (o := n) (p := 0) (te := 0) (L := []) (T := []) (kk.sl hs) (ack_okM n d ho1 ho2) rfl rfl (by simp) isW_nil)
  have h0 := heap_alloc_new w (.cells #[.int .i64 0, .int .i64 0, .int .i64 0, .int .i64 0, .int .i64 0, .int .i64 0, .slice none 0 0, .slice none 0 0, .int .i64 0] 33)
  have K1 := (kept_al w (.cells #[.int .i64 0, .int .i64 0, .int .i64 0, .int .i64 0, .int .i64 0, .int .i64 0, .slice none 0 0, .slice none 0 0, .int .i64 0] 33))
  have c0 : World.cell? _ ⟨p, 0, none⟩ = some (.slice (some ⟨b, o, none⟩) A.length c) := at_cell (K1.only.heap hBx (by simp)) 0 _ rfl
  have cj := K1.cel hcj
  clear hcj hs hBx hBa hBr hBo hr hok
  go_enter Try.func15, Try.ntmps15
  go_wp2_with fail
  generalize World.alloc w _ = Y at *
  obtain ⟨qs, hqs⟩ : ∃ q, w.heap.size = q := ⟨_, rfl⟩
  rw [hqs] at h0 ⊢
  have hqw : w.heap.size ≤ qs := by omega
  clear c0 cj hqs
  refine (HGt.out _ K1).mono ?_
  rintro E V ⟨la, lc, ta, tc, rfl, hM, J⟩
  have hY := lt_heap h0
  have h1 := heap_keep (J.only.heap h0 (by simp)) (.cells #[.int .i64 2, .int .i64 (1 - d), .int .i64 d, .int .i64 1, .int .i64 n, .int .i64 0, .slice la 0 lc, .slice ta 0 tc, .int .i64 0] 33)
  obtain ⟨q0, q1, q2, q3, q4, q5, q6, q7, q8⟩ := nine_cells h1
  have z := one_free h1
  have h6 := heap_alloc_new V (.cells #[.int .i64 2, .int .i64 (1 - d), .int .i64 d, .int .i64 1, .int .i64 n, .int .i64 0, .slice la 0 lc, .slice ta 0 tc, .int .i64 0] 33)
  have h2 := nine_set h1 (.int .i64 2) (.int .i64 (1 - d)) (.int .i64 d) (.int .i64 1) (.int .i64 n) (.int .i64 0) (.slice la 0 lc) (.slice ta 0 tc) (.int .i64 0)
  obtain ⟨d0, d1, d2, d3, d4, d5, d6, d7, d8⟩ := nine_cells h2
  have K2 := (K1.trans J).trans (kept_al V (.cells #[.int .i64 2, .int .i64 (1 - d), .int .i64 d, .int .i64 1, .int .i64 n, .int .i64 0, .slice la 0 lc, .slice ta 0 tc, .int .i64 0] 33))
  have K3 := K2.onl (only_set9 _ qs (.int .i64 2) (.int .i64 (1 - d)) (.int .i64 d) (.int .i64 1) (.int .i64 n) (.int .i64 0) (.slice la 0 lc) (.slice ta 0 tc) (.int .i64 0)) (by intro j hj; simp at hj; omega)
  have hM2 := hM.kept (kept_al V (.cells #[.int .i64 2, .int .i64 (1 - d), .int .i64 d, .int .i64 1, .int .i64 n, .int .i64 0, .slice la 0 lc, .slice ta 0 tc, .int .i64 0] 33))
  obtain ⟨e0, e1, e2, e3, e4, e5, e6, e7, e8⟩ := nine_cells h6
  have HH := Lib.hid h1
  clear h1 h2 h6 h0 K2 hM J
  go_wp2
  exact bodyPost_ret (v := .tuple #[.agg #[.int .i64 2, .int .i64 (1 - d), .int .i64 d, .int .i64 1, .int .i64 n, .int .i64 0, .slice la 0 lc, .slice ta 0 tc, .int .i64 0], .bool true]) (by simp [results, Try.results15, go_sem, d0, d1, d2, d3, d4, d5, d6, d7, d8]) rfl ⟨la, lc, ta, tc, rfl, msg0_any hM2, K3⟩
/-- a bag that has lost one -/
theorem bagW_drop {X w w1 : World} {p : Nat} {g : Option Nat} {a : Option Addr} {c : Nat} {R : List BV} {A : List (Int × Int)} {j : Nat} (h : BagW X w p g A) (hb : BagAt w p g a c R A) (hj : j < A.length)
    (hA : App w1 53 1 (.slice a (A.length - 1) c) (A.length - 1) g ((bvs R).eraseIdx j)) (o : Only g.toList w w1) : BagW X (w1.setCell ⟨p, 0, none⟩ (.slice a (A.length - 1) c)) p g (A.eraseIdx j) ∧ Only (p :: g.toList) w (w1.setCell ⟨p, 0, none⟩ (.slice a (A.length - 1) c)) := by
  have hRl : R.length = A.length := by have := hb.app.len; unfold bvs at this; rw [List.length_map] at this; omega
  have hpg : ∀ b, g = some b → p ≠ b := fun b hbb => by have := h.went b hbb; have := h.pX; omega
  have hpgl : p ∉ g.toList := by
    intro hm
    cases g with
    | none => simp at hm
    | some b => simp at hm; exact hpg b rfl hm
  have O2 : Only [p] w1 (w1.setCell ⟨p, 0, none⟩ (.slice a (A.length - 1) c)) := (Only.refl _ _).setCell (fun _ => by simp) _
  have OT : Only (p :: g.toList) w (w1.setCell ⟨p, 0, none⟩ (.slice a (A.length - 1) c)) := (o.mono (by intro i _ hm; exact List.mem_cons_of_mem _ hm)).then O2 (by intro i _ hm; simp at hm; simp [hm])
  have hel : (A.eraseIdx j).length = A.length - 1 := by rw [List.length_eraseIdx, if_pos hj]
  have hre : ∀ (i : Nat) (r : BV) (x : Int × Int), (R.eraseIdx j)[i]? = some r → (A.eraseIdx j)[i]? = some x → ∃ k, R[k]? = some r ∧ A[k]? = some x := fun i r x h1 h2 => by
    rw [List.getElem?_eraseIdx] at h1 h2
    split at h1
    · rename_i hlt; rw [if_pos hlt] at h2; exact ⟨i, h1, h2⟩
    · rename_i hlt; rw [if_neg hlt] at h2; exact ⟨i + 1, h1, h2⟩
  refine ⟨⟨⟨a, c, R.eraseIdx j, ?_, ?_, ?_⟩, ?_, h.pX, h.went, ?_, ?_⟩, OT⟩
  · rw [hel]
    exact one_set (o.heap hb.box hpgl) _
  · rw [hel]
    have := O2.app hA (by intro b hbb; simp; rintro rfl; exact hpg b hbb rfl)
    unfold bvs at this ⊢
    rw [List.eraseIdx_eq_take_drop_succ, ← List.map_take, ← List.map_drop, ← List.map_append, ← List.eraseIdx_eq_take_drop_succ] at this
    exact this
  · intro i r x h1 h2
    obtain ⟨k, h3, h4⟩ := hre i r x h1 h2
    exact (hb.row.only OT (fun j _ hm => hm)) k r x h3 h4
  · exact h.only.then OT (by
      intro i hi hm
      rcases List.mem_cons.1 hm with rfl | hm
      · simp
      · cases g with
        | none => simp at hm
        | some b => have := h.went b rfl; simp at hm; omega)
  · intro y hy
    exact h.ok y (List.mem_of_mem_eraseIdx hy)
  · rw [hel]; have := h.few; omega
set_option maxRecDepth 100000 in
set_option maxHeartbeats 2000000 in
theorem bag_drop_no {X : World} (p : Nat) (g : Option Nat) (A : List (Int × Int)) (i : Int) (w : World) (hB : BagW X w p g A) (hi : ¬ (0 ≤ i ∧ i < A.length)) :
    Calls Try.prog 14 #[.pointer (some ⟨p, 0, none⟩), .int .i64 i] w fun e w' => e = .returned (.bool false) ∧ w = w' := by
  obtain ⟨⟨a, c, R, ⟨hBx, hBa, hBr⟩⟩, hBo, hpX, hgw, hok, hfew⟩ := hB
  have c0 : World.cell? _ ⟨p, 0, none⟩ = some (.slice a A.length c) := at_cell hBx 0 _ rfl
  clear hBx hBa hBr hBo
  by_cases hneg : i < 0
  · go_enter Try.func14, Try.ntmps14
    go_wp2
    go_ret
    exact ⟨rfl, rfl⟩
  · have hge : (A.length : Int) ≤ i := by omega
    go_enter Try.func14, Try.ntmps14
    go_wp2
    go_ret
    exact ⟨rfl, rfl⟩
set_option maxRecDepth 100000 in
set_option maxHeartbeats 2000000 in
theorem bag_drop {X : World} (p : Nat) (g : Option Nat) (A : List (Int × Int)) (j : Nat) (w : World) (hB : BagW X w p g A) (hj : j < A.length) :
    Calls Try.prog 14 #[.pointer (some ⟨p, 0, none⟩), .int .i64 j] w fun e w' => e = .returned (.bool true) ∧ (BagW X w' p g (A.eraseIdx j) ∧ Only (p :: g.toList) w w') := by
  have HB := Lib.hid hB
  obtain ⟨⟨a, c, R, hbat⟩, hBo, hpX, hgw, hok, hfew⟩ := hB
  have HD := Lib.hid (bytes_delete a c A.length j g (bvs R) w hj (by omega) (bvs_one R) hbat.app)
  have c0 : World.cell? _ ⟨p, 0, none⟩ = some (.slice a A.length c) := at_cell hbat.box 0 _ rfl
  have hpg : p ∉ g.toList := by
    intro hm
    cases g with
    | none => simp at hm
    | some b => have := hgw b rfl; simp at hm; omega
  have HX := Lib.hid (fun V (o : Only g.toList w V) => o.heap hbat.box hpg)
  have hlt : (j : Int) < A.length := by omega
  have hw : IntKind.i64.wrap ((j : Int) + 1) = j + 1 := by rw [IntKind.wrap_i64]; omega
  go_enter Try.func14, Try.ntmps14
  go_wp2_with fail
  refine HD.out.mono ?_
  rintro E V ⟨rfl, hA, hO⟩
  have hx := HX.out _ hO
  have c1 : World.cell? _ ⟨p, 0, none⟩ = some (.slice a A.length c) := at_cell hx 0 _ rfl
  have z := one_free hx
  have hh := bagW_drop HB.out hbat hj hA hO
  clear hx hO hA hbat
  go_wp2
  go_ret
  exact ⟨rfl, hh⟩
end Go.Proofs.Ytnnjflljlooifaa
