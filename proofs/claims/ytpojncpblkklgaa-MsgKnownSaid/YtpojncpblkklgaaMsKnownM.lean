/- Rows of messages in one block; fourteen messages of which none may be. -/
import Derived.Test.YtpojncpblkklgaaMsAw2
import Derived.Test.YtpojncpblkklgaaMsNil
set_option linter.unusedVariables false
set_option linter.unusedSimpArgs false
namespace Go.Proofs.Ytpojncpblkklgaa
open Go.RowKit
def mvs (L : List MV) : List Value := L.flatMap fun m => m.cs.toList
theorem mvs_len (L : List MV) : (mvs L).length = L.length * 9 := by induction L with | nil => rfl | cons x l ih => simp [mvs, MV.cs] at ih ⊢; omega
theorem mvs_at : ∀ (L : List MV) (i j : Nat) (m : MV), L[i]? = some m → j < 9 → (mvs L)[i * 9 + j]? = m.cs[j]?
  | [], i, j, m, h, _ => by cases h
  | y :: l, 0, j, m, h, hj => by
    obtain rfl : y = m := by simpa using h
    simp only [mvs, List.flatMap_cons, Nat.zero_mul, Nat.zero_add]
    rw [List.getElem?_append_left (by simp [MV.cs]; omega), Array.getElem?_toList]
  | y :: l, i + 1, j, m, h, hj => by
    have := mvs_at l i j m (by simpa using h) hj
    simp only [mvs, List.flatMap_cons] at this ⊢
    rw [List.getElem?_append_right (by simp [MV.cs]; omega)]
    rw [← this]
    congr 1
    simp [MV.cs]
    omega
theorem mvs_set : ∀ (L : List MV) (i j : Nat) (m m' : MV) (u : Value), L[i]? = some m → j < 9 → m'.cs = m.cs.setIfInBounds j u → (mvs L).set (i * 9 + j) u = mvs (L.set i m')
  | [], i, j, m, m', u, h, _, _ => by cases h
  | y :: l, 0, j, m, m', u, h, hj, hm => by
    obtain rfl : y = m := by simpa using h
    simp only [mvs, List.flatMap_cons, Nat.zero_mul, Nat.zero_add, List.set_cons_zero]
    rw [List.set_append_left _ _ (by simp [MV.cs]; omega), hm]
    simp
  | y :: l, i + 1, j, m, m', u, h, hj, hm => by
    have := mvs_set l i j m m' u (by simpa using h) hj hm
    simp only [mvs, List.flatMap_cons, List.set_cons_succ] at this ⊢
    rw [List.set_append_right _ _ (by simp [MV.cs]; omega), ← this]
    congr 2
    simp [MV.cs]
    omega
/-- a block that holds a row of messages -/
def MRow (V : World) (b : Nat) (L : List MV) : Prop := V.heap[b]? = some (.cells (mvs L).toArray 29 (0, 0))
theorem MRow.kept {V V' : World} {b : Nat} {L : List MV} (h : MRow V b L) (k : Kept V V') : MRow V' b L := k.only.heap h (by simp)
theorem MRow.cell {V : World} {b : Nat} {L : List MV} (h : MRow V b L) {i : Nat} {m : MV} (hm : L[i]? = some m) (j : Nat) (hj : j < 9) (x : Nat) (hx : x = i * 9 + j) (u : Value) (hu : m.cs[j]? = some u) : V.cell? ⟨b, x, none⟩ = some u := by
  subst hx
  refine at_cell h _ _ ?_
  rw [List.getElem?_toArray, mvs_at L i j m hm hj, hu]
theorem MRow.free {V : World} {b : Nat} {L : List MV} (h : MRow V b L) (j : Nat) : V.frozen? ⟨b, j, none⟩ = false := one_free h j
theorem MRow.set {V : World} {b : Nat} {L : List MV} (h : MRow V b L) {i : Nat} {m : MV} (hm : L[i]? = some m) (j : Nat) (hj : j < 9) (x : Nat) (hx : x = i * 9 + j) (u : Value) (m' : MV) (hu : m'.cs = m.cs.setIfInBounds j u) : MRow (V.setCell ⟨b, x, none⟩ u) b (L.set i m') := by
  subst hx
  have := at_set h (i * 9 + j) u
  unfold MRow
  rw [this, ← mvs_set L i j m m' u hm hj hu]
  simp
theorem MRow.cells {V : World} {b : Nat} {L : List MV} (h : MRow V b L) {i : Nat} {m : MV} (hm : L[i]? = some m) (x : Nat) (hx : x = i * 9) :
    V.cell? ⟨b, x, none⟩ = some (.int .i64 m.k) ∧ V.cell? ⟨b, x + 1, none⟩ = some (.int .i64 m.f) ∧ V.cell? ⟨b, x + 2, none⟩ = some (.int .i64 m.t) ∧ V.cell? ⟨b, x + 3, none⟩ = some (.int .i64 m.e) ∧ V.cell? ⟨b, x + 4, none⟩ = some (.int .i64 m.o) ∧ V.cell? ⟨b, x + 5, none⟩ = some (.int .i64 m.p) ∧ V.cell? ⟨b, x + 6, none⟩ = some (.slice m.la m.ln m.lc) ∧ V.cell? ⟨b, x + 7, none⟩ = some (.slice m.ta m.tn m.tc) ∧ V.cell? ⟨b, x + 8, none⟩ = some (.int .i64 m.te) :=
  ⟨h.cell hm 0 (by omega) _ (by omega) _ rfl, h.cell hm 1 (by omega) _ (by omega) _ rfl, h.cell hm 2 (by omega) _ (by omega) _ rfl, h.cell hm 3 (by omega) _ (by omega) _ rfl, h.cell hm 4 (by omega) _ (by omega) _ rfl, h.cell hm 5 (by omega) _ (by omega) _ rfl, h.cell hm 6 (by omega) _ (by omega) _ rfl, h.cell hm 7 (by omega) _ (by omega) _ rfl, h.cell hm 8 (by omega) _ (by omega) _ rfl⟩
theorem MRow.set9 {V : World} {b : Nat} {L : List MV} (h : MRow V b L) {i : Nat} {m : MV} (hm : L[i]? = some m) (x : Nat) (hx : x = i * 9) (m' : MV) :
    MRow (((((((((V.setCell ⟨b, x, none⟩ (.int .i64 m'.k)).setCell ⟨b, x + 1, none⟩ (.int .i64 m'.f)).setCell ⟨b, x + 2, none⟩ (.int .i64 m'.t)).setCell ⟨b, x + 3, none⟩ (.int .i64 m'.e)).setCell ⟨b, x + 4, none⟩ (.int .i64 m'.o)).setCell ⟨b, x + 5, none⟩ (.int .i64 m'.p)).setCell ⟨b, x + 6, none⟩ (.slice m'.la m'.ln m'.lc)).setCell ⟨b, x + 7, none⟩ (.slice m'.ta m'.tn m'.tc)).setCell ⟨b, x + 8, none⟩ (.int .i64 m'.te)) b (L.set i m') := by
  have hi : i < L.length := by
    rcases Nat.lt_or_ge i L.length with h' | h'
    · exact h'
    · rw [List.getElem?_eq_none h'] at hm; cases hm
  have g : ∀ y : MV, (L.set i y)[i]? = some y := fun y => by rw [List.getElem?_set_self hi]
  obtain ⟨k, f, t, e, o, p, la, ln, lc, ta, tn, tc, te⟩ := m
  obtain ⟨k', f', t', e', o', p', la', ln', lc', ta', tn', tc', te'⟩ := m'
  have h1 := h.set hm 0 (by omega) x (by omega) (.int .i64 k') ⟨k', f, t, e, o, p, la, ln, lc, ta, tn, tc, te⟩ rfl
  have h2 := h1.set (g _) 1 (by omega) (x + 1) (by omega) (.int .i64 f') ⟨k', f', t, e, o, p, la, ln, lc, ta, tn, tc, te⟩ rfl
  rw [List.set_set] at h2
  have h3 := h2.set (g _) 2 (by omega) (x + 2) (by omega) (.int .i64 t') ⟨k', f', t', e, o, p, la, ln, lc, ta, tn, tc, te⟩ rfl
  rw [List.set_set] at h3
  have h4 := h3.set (g _) 3 (by omega) (x + 3) (by omega) (.int .i64 e') ⟨k', f', t', e', o, p, la, ln, lc, ta, tn, tc, te⟩ rfl
  rw [List.set_set] at h4
  have h5 := h4.set (g _) 4 (by omega) (x + 4) (by omega) (.int .i64 o') ⟨k', f', t', e', o', p, la, ln, lc, ta, tn, tc, te⟩ rfl
  rw [List.set_set] at h5
  have h6 := h5.set (g _) 5 (by omega) (x + 5) (by omega) (.int .i64 p') ⟨k', f', t', e', o', p', la, ln, lc, ta, tn, tc, te⟩ rfl
  rw [List.set_set] at h6
  have h7 := h6.set (g _) 6 (by omega) (x + 6) (by omega) (.slice la' ln' lc') ⟨k', f', t', e', o', p', la', ln', lc', ta, tn, tc, te⟩ rfl
  rw [List.set_set] at h7
  have h8 := h7.set (g _) 7 (by omega) (x + 7) (by omega) (.slice ta' tn' tc') ⟨k', f', t', e', o', p', la', ln', lc', ta', tn', tc', te⟩ rfl
  rw [List.set_set] at h8
  have h9 := h8.set (g _) 8 (by omega) (x + 8) (by omega) (.int .i64 te') ⟨k', f', t', e', o', p', la', ln', lc', ta', tn', tc', te'⟩ rfl
  rw [List.set_set] at h9
  exact h9
theorem only9 (w : World) (p x0 x1 x2 x3 x4 x5 x6 x7 x8 : Nat) (u0 u1 u2 u3 u4 u5 u6 u7 u8 : Value) : Only [p] w (((((((((w.setCell ⟨p, x0, none⟩ u0).setCell ⟨p, x1, none⟩ u1).setCell ⟨p, x2, none⟩ u2).setCell ⟨p, x3, none⟩ u3).setCell ⟨p, x4, none⟩ u4).setCell ⟨p, x5, none⟩ u5).setCell ⟨p, x6, none⟩ u6).setCell ⟨p, x7, none⟩ u7).setCell ⟨p, x8, none⟩ u8) := ((((((((((Only.refl [p] w).setCell (fun _ => by simp) u0).setCell (fun _ => by simp) u1).setCell (fun _ => by simp) u2).setCell (fun _ => by simp) u3).setCell (fun _ => by simp) u4).setCell (fun _ => by simp) u5).setCell (fun _ => by simp) u6).setCell (fun _ => by simp) u7).setCell (fun _ => by simp) u8)
/-- no entry of a row of messages is of another kind -/
theorem mvs_kind (k : IntKind) (hk : k ≠ .i64) : ∀ (L : List MV), ∀ x ∈ mvs L, ∀ v, x ≠ .int k v
  | [], x, hx, v => by cases hx
  | m :: L, x, hx, v => by
    simp only [mvs, List.flatMap_cons, List.mem_append] at hx
    rcases hx with hx | hx
    · simp only [MV.cs, List.mem_cons, List.not_mem_nil, or_false] at hx
      rcases hx with rfl | rfl | rfl | rfl | rfl | rfl | rfl | rfl | rfl <;> intro h <;> first | (injection h with h h'; exact hk h.symm) | (exfalso; cases h)
    · exact mvs_kind k hk L x hx v
theorem MsgAt.apart {V V' : World} {la : Option Addr} {ln lc : Nat} {ta : Option Addr} {tn tc : Nat} {L : List (Int × List Int)} {T : List Int} {b : Nat} {M : List MV} (h : MsgAt V la ln lc ta tn tc L T) (k : Only [b] V V') (hm : MRow V b M) : MsgAt V' la ln lc ta tn tc L T := by
  obtain ⟨R, h1, h2, h3⟩ := h
  have hc := fun (kk : IntKind) (hk : kk ≠ .i64) => fun x (hx : x ∈ (mvs M).toArray.toList) v => mvs_kind kk hk M x hx v
  refine ⟨R, ⟨h1.1, h1.2.1, h1.2.2.1, fun i r hi => ?_⟩, ⟨h2.1, fun i r l hr hl => ⟨(h2.2 i r l hr hl).1, sl_apart k (h2.2 i r l hr hl).2 hm (hc .u8 (by decide))⟩⟩, sl_apart k h3 hm (hc .u64 (by decide))⟩
  obtain ⟨hb, b', o, h4, h5, h6⟩ := h1.2.2.2 i r hi
  have hne : b' ≠ b := by
    rintro rfl
    rw [cell_of_row V b' _ _ _ _ hm] at h5
    have : (mvs M)[o + i * 2]? = some (.int .u64 r.at') := by simpa using h5
    exact mvs_kind .u64 (by decide) M _ (List.mem_of_getElem? this) _ rfl
  exact ⟨hb, b', o, h4, (k.cell (p := ⟨b', _, none⟩) (World.block_lt_of_cell? _ _ h5) (by simpa using hne)).trans h5, (k.cell (p := ⟨b', _, none⟩) (World.block_lt_of_cell? _ _ h6) (by simpa using hne)).trans h6⟩
/-- one that may not be -/
def Bad (V : World) (m : MV) : Prop := ∃ L T, MsgAt V m.la m.ln m.lc m.ta m.tn m.tc L T ∧ (∀ l ∈ L, IsB l.2) ∧ IsW T ∧ m.ln ≤ 100 ∧ goodM m (lens L) T = false
theorem Bad.kept {V V' : World} {m : MV} (h : Bad V m) (k : Kept V V') : Bad V' m := by
  obtain ⟨L, T, h1, h2⟩ := h
  exact ⟨L, T, h1.kept k, h2⟩
/-- the law's own message -/
def Some' (V : World) (m : MV) : Prop := ∃ la lc, m = ⟨1, 0, 1, 3, 5, 2, la, 2, lc, none, 0, 0, 0⟩ ∧ MsgAt V la 2 lc none 0 0 someL []
theorem Some'.kept {V V' : World} {m : MV} (h : Some' V m) (k : Kept V V') : Some' V' m := by
  obtain ⟨la, lc, h1, h2⟩ := h
  exact ⟨la, lc, h1, h2.kept k⟩
theorem Some'.apart {V V' : World} {m : MV} {b : Nat} {M : List MV} (h : Some' V m) (k : Only [b] V V') (hm : MRow V b M) : Some' V' m := by
  obtain ⟨la, lc, h1, h2⟩ := h
  exact ⟨la, lc, h1, h2.apart k hm⟩
def mZ : MV := ⟨0, 0, 0, 0, 0, 0, none, 0, 0, none, 0, 0, 0⟩
theorem elemMs : Elem Try.prog 23 29 (.agg mZ.cs) 9 104 :=
  ⟨Try.underlying23, info_parts (by kernel_rfl), rfl, by omega⟩
theorem make14 (w : World) : (Instr.makeSlice 23 (.int .i64 14) (.int .i64 14)).run Try.prog w = .ok (.slice (some ⟨w.heap.size, 0, none⟩) 14 14) (w.alloc (.cells (mvs (List.replicate 14 mZ)).toArray 29)) := by
  obtain ⟨ht, ⟨i, hi, hz, hs1, hb1⟩, hzs, hsz⟩ := elemMs
  have h := run_make (P := Try.prog) w 23 29 i (.agg mZ.cs) ht hi hz .i64 .i64 14 14 (by omega) (by omega) (by rw [hb1]; omega) (by omega)
  rw [hs1] at h
  rw [h, show madeCells (Value.agg mZ.cs).cells (Int.toNat 14 * 9) = (mvs (List.replicate 14 mZ)).toArray from by kernel_rfl]
  rfl
def rZ : RV := ⟨0, none, 0, 0⟩
theorem make9 (w : World) : (Instr.makeSlice 24 (.int .i64 9) (.int .i64 9)).run Try.prog w = .ok (.slice (some ⟨w.heap.size, 0, none⟩) 9 9) (w.alloc (.cells (rvs (List.replicate 9 rZ)).toArray 50)) := by
  obtain ⟨ht, ⟨i, hi, hz, hs1, hb1⟩, hzs, hsz⟩ := elemR
  have h := run_make (P := Try.prog) w 24 50 i (.agg #[.int .u64 0, .slice none 0 0]) ht hi hz .i64 .i64 9 9 (by omega) (by omega) (by rw [hb1]; omega) (by omega)
  rw [hs1] at h
  rw [h, show madeCells (Value.agg #[.int .u64 0, .slice none 0 0]).cells (Int.toNat 9 * 2) = (rvs (List.replicate 9 rZ)).toArray from by kernel_rfl]
  rfl
theorem badOf {V : World} {k f t e o p te : Int} {la : Option Addr} {lc : Nat} (h : MsgAt V la 2 lc none 0 0 someL []) (hg : goodM ⟨k, f, t, e, o, p, none, 2, 0, none, 0, 0, te⟩ (lens someL) [] = false) : Bad V ⟨k, f, t, e, o, p, la, 2, lc, none, 0, 0, te⟩ := ⟨someL, [], h, someL_isB, isW_nil, by show 2 ≤ 100; omega, hg⟩
theorem msgAt_nil (V : World) : MsgAt V none 0 0 none 0 0 [] [] := ⟨[], ⟨rfl, Nat.le_refl _, by unfold maxLen; omega, fun i r hi => by cases hi⟩, ⟨rfl, fun i r l h1 h2 => by cases h1⟩, sl_nil _ _⟩
theorem badNil {V : World} {k f t e o p te : Int} (hg : goodM ⟨k, f, t, e, o, p, none, 0, 0, none, 0, 0, te⟩ (lens []) [] = false) : Bad V ⟨k, f, t, e, o, p, none, 0, 0, none, 0, 0, te⟩ := ⟨[], [], msgAt_nil V, by simp, isW_nil, by show 0 ≤ 100; omega, hg⟩
theorem msgAt_nine {w : World} {p : Nat} {t : TypeId} {m : Nat × Nat} (h : w.heap[p]? = some (.cells (rvs (List.replicate 9 rZ)).toArray t m)) : MsgAt w (some ⟨p, 0, none⟩) 9 9 none 0 0 (List.replicate 9 (0, [])) [] := by
  refine ⟨List.replicate 9 rZ, ⟨by simp, Nat.le_refl _, by unfold maxLen; omega, fun i r hi => ?_⟩, ⟨by simp, fun i r l h1 h2 => ?_⟩, sl_nil _ _⟩
  · have hc := rvs_at _ i r hi
    have hr := List.eq_of_mem_replicate (List.mem_of_getElem? hi)
    subst hr
    refine ⟨by unfold rvOk rZ maxLen; dsimp only; omega, _, _, rfl, ?_, ?_⟩
    · exact at_cell h _ _ (by rw [Nat.zero_add, List.getElem?_toArray]; exact hc.1)
    · exact at_cell h _ _ (by rw [Nat.zero_add, List.getElem?_toArray]; exact hc.2)
  · have hr := List.eq_of_mem_replicate (List.mem_of_getElem? h1)
    have hl := List.eq_of_mem_replicate (List.mem_of_getElem? h2)
    subst hr hl
    exact ⟨rfl, sl_nil _ _⟩
theorem uncons {α : Type} {L : List α} {n : Nat} (h : L.length = n + 1) : ∃ a t, L = a :: t ∧ t.length = n := by
  cases L with
  | nil => simp at h
  | cons a t => exact ⟨a, t, rfl, by simpa using h⟩
theorem list14 (L : List MV) (h : L.length = 14) : ∃ m0 m1 m2 m3 m4 m5 m6 m7 m8 m9 m10 m11 m12 m13, L = [m0, m1, m2, m3, m4, m5, m6, m7, m8, m9, m10, m11, m12, m13] := by
  obtain ⟨m0, t0, e0, h0⟩ := uncons h
  obtain ⟨m1, t1, e1, h1⟩ := uncons h0
  obtain ⟨m2, t2, e2, h2⟩ := uncons h1
  obtain ⟨m3, t3, e3, h3⟩ := uncons h2
  obtain ⟨m4, t4, e4, h4⟩ := uncons h3
  obtain ⟨m5, t5, e5, h5⟩ := uncons h4
  obtain ⟨m6, t6, e6, h6⟩ := uncons h5
  obtain ⟨m7, t7, e7, h7⟩ := uncons h6
  obtain ⟨m8, t8, e8, h8⟩ := uncons h7
  obtain ⟨m9, t9, e9, h9⟩ := uncons h8
  obtain ⟨m10, t10, e10, h10⟩ := uncons h9
  obtain ⟨m11, t11, e11, h11⟩ := uncons h10
  obtain ⟨m12, t12, e12, h12⟩ := uncons h11
  obtain ⟨m13, t13, e13, h13⟩ := uncons h12
  have e14 := List.eq_nil_of_length_eq_zero h13
  refine ⟨m0, m1, m2, m3, m4, m5, m6, m7, m8, m9, m10, m11, m12, m13, ?_⟩
  rw [e0, e1, e2, e3, e4, e5, e6, e7, e8, e9, e10, e11, e12, e13, e14]
end Go.Proofs.Ytpojncpblkklgaa
