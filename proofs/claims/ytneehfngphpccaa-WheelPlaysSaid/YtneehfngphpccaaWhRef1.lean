/- The document's wheel: its row; less, find, At, Next, Len. -/
import Derived.Test.YtneehfngphpccaaWh2
set_option linter.unusedVariables false
set_option linter.unusedSimpArgs false
namespace Go.Proofs.Ytneehfngphpccaa
open Go.RowKit
def duVs (L : List Du) : List Value := L.flatMap fun x => [.int .i64 x.1, .int .i64 x.2.1, .int .i64 x.2.2]
theorem duVs_len (L : List Du) : (duVs L).length = L.length * 3 := by induction L with | nil => rfl | cons x l ih => simp [duVs] at ih ⊢; omega
theorem duVs_app (A B : List Du) : duVs (A ++ B) = duVs A ++ duVs B := by simp [duVs]
theorem duVs_one (L : List Du) : ∀ u ∈ duVs L, u.oneCell' = true := by
  intro u hu
  unfold duVs at hu
  obtain ⟨m, _, hu⟩ := List.mem_flatMap.1 hu
  simp at hu
  rcases hu with rfl | rfl | rfl <;> rfl
theorem duVs_at : ∀ (L : List Du) (i : Nat) (x : Du), L[i]? = some x → (duVs L)[i * 3]? = some (.int .i64 x.1) ∧ (duVs L)[i * 3 + 1]? = some (.int .i64 x.2.1) ∧ (duVs L)[i * 3 + 2]? = some (.int .i64 x.2.2)
  | [], i, x, h => by cases h
  | y :: l, 0, x, h => by
    obtain rfl : y = x := by simpa using h
    exact ⟨rfl, rfl, rfl⟩
  | y :: l, i + 1, x, h => by
    have := duVs_at l i x (by simpa using h)
    simpa [duVs, Nat.add_mul] using this
/-- a slice that reads as dues -/
def SlD (w : World) (a : Option Addr) (n c : Nat) (L : List Du) : Prop :=
  L.length = n ∧ n ≤ c ∧ c ≤ maxLen ∧ (0 < n → ∃ b o, a = some ⟨b, o, none⟩ ∧ b < w.heap.size ∧ ∀ j u, (duVs L)[j]? = some u → w.cell? ⟨b, o + j, none⟩ = some u)
theorem SlD.kept {w w' : World} {a : Option Addr} {n c : Nat} {L : List Du} (h : SlD w a n c L) (k : Kept w w') : SlD w' a n c L :=
  ⟨h.1, h.2.1, h.2.2.1, fun h0 => by obtain ⟨b, o, h1, h2, h3⟩ := h.2.2.2 h0; exact ⟨b, o, h1, Nat.lt_of_lt_of_le h2 k.size, fun j u hu => k.cel (h3 j u hu)⟩⟩
theorem SlD.only {S : List Nat} {w w' : World} {a : Option Addr} {n c : Nat} {L : List Du} (h : SlD w a n c L) (k : Only S w w') (ha : 0 < n → inB a S) : SlD w' a n c L :=
  ⟨h.1, h.2.1, h.2.2.1, fun h0 => by
    obtain ⟨b, o, h1, h2, h3⟩ := h.2.2.2 h0
    exact ⟨b, o, h1, Nat.lt_of_lt_of_le h2 k.size, fun j u hu => (k.cell (p := ⟨b, o + j, none⟩) h2 (ha h0 ⟨b, o, none⟩ h1)).trans (h3 j u hu)⟩⟩
theorem SlD.at {w : World} {a : Option Addr} {n c : Nat} {L : List Du} (h : SlD w a n c L) {i : Nat} {x : Du} (hx : L[i]? = some x) : ∃ b o, a = some ⟨b, o, none⟩ ∧ w.cell? ⟨b, o + i * 3, none⟩ = some (.int .i64 x.1) ∧ w.cell? ⟨b, o + i * 3 + 1, none⟩ = some (.int .i64 x.2.1) ∧ w.cell? ⟨b, o + i * 3 + 2, none⟩ = some (.int .i64 x.2.2) := by
  have hi : i < L.length := (List.getElem?_eq_some_iff.1 hx).1
  obtain ⟨b, o, h1, h2, h3⟩ := h.2.2.2 (by rw [← h.1]; omega)
  obtain ⟨g0, g1, g2⟩ := duVs_at L i x hx
  exact ⟨b, o, h1, h3 _ _ g0, h3 _ _ g1, h3 _ _ g2⟩
/-- the document's wheel -/
structure RfAt (w : World) (p : Nat) (now : Int) (a : Option Addr) (n c : Nat) (L : List Du) : Prop where
  box : w.heap[p]? = some (.cells #[.int .i64 now, .slice a n c] 48 (0, 0))
  row : SlD w a n c L
  off : 0 < n → inB a [p]
theorem RfAt.keep {w w' : World} {p : Nat} {now : Int} {a : Option Addr} {n c : Nat} {L : List Du} (h : RfAt w p now a n c L) (k : Kept w w') : RfAt w' p now a n c L := ⟨k.only.heap h.box (by simp), h.row.kept k, h.off⟩
theorem RfAt.cells {w : World} {p : Nat} {now : Int} {a : Option Addr} {n c : Nat} {L : List Du} (h : RfAt w p now a n c L) : w.cell? ⟨p, 0, none⟩ = some (.int .i64 now) ∧ w.cell? ⟨p, 1, none⟩ = some (.slice a n c) := ⟨at_cell h.box 0 _ rfl, at_cell h.box 1 _ rfl⟩
theorem rf_len {w : World} {p : Nat} {now : Int} {a : Option Addr} {n c : Nat} {L : List Du} (h : RfAt w p now a n c L) : Calls Try.prog 21 #[.pointer (some ⟨p, 0, none⟩)] w fun e w' => e = .returned (.int .i64 n) ∧ w = w' := by
  obtain ⟨c0, c1⟩ := h.cells
  clear h
  go_enter Try.func21, Try.ntmps21
  go_wp2
  go_ret
  exact ⟨rfl, rfl⟩
def fndD (a b : Int) : List Du → Nat → Int
  | [], _ => -1
  | x :: l, i => if x.1 = a ∧ x.2.1 = b then (i : Int) else fndD a b l (i + 1)
set_option maxRecDepth 100000 in
set_option maxHeartbeats 2000000 in
theorem rf_find {w : World} {p : Nat} {now : Int} {s : Option Addr} {n c : Nat} {L : List Du} (h : RfAt w p now s n c L) (hn : n ≤ 1000) (a b : Int) : Calls Try.prog 24 #[.pointer (some ⟨p, 0, none⟩), .int .i64 a, .int .i64 b] w fun e w' => e = .returned (.int .i64 (fndD a b L 0)) ∧ w = w' := by
  obtain ⟨c0, c1⟩ := h.cells
  have hl := h.row.1
  have hnc := h.row.2.1
  have HR := Lib.hid h.row
  clear h
  go_enter Try.func24, Try.ntmps24
  go_wp2_with fail
  go_loopw [7] (fun i wr => ∃ j : Nat, i = .int .i64 (j : Nat) ∧ j ≤ n ∧ w = wr ∧ Hid (fndD a b L 0 = fndD a b (L.drop j) j)) (fun i _ => n - (intOf i).toNat)
  case atStart => exact ⟨0, rfl, by omega, rfl, rfl⟩
  case round =>
    obtain ⟨j, rfl, hj, rfl, HE⟩ := hrel
    by_cases hlt : j < n
    · have hlt' : (j : Int) < n := by omega
      obtain ⟨⟨xa, xb, xc⟩, hx⟩ : ∃ x, L[j]? = some x := ⟨_, List.getElem?_eq_getElem (by omega)⟩
      obtain ⟨bb, o, rfl, q0, q1, q2⟩ := HR.out.at hx
      dsimp only at q0 q1 q2
      have hdr : L.drop j = (xa, xb, xc) :: L.drop (j + 1) := by
        rw [List.getElem?_eq_getElem (by omega)] at hx
        injection hx with hx
        rw [List.drop_eq_getElem_cons (by omega), hx]
      have HE2 := HE.out
      rw [hdr] at HE2
      clear hx hdr HE
      by_cases h1 : xa = a
      · by_cases h2 : xb = b
        · have HE3 : Hid (fndD a b L 0 = j) := by unfold Hid; rw [HE2]; simp [fndD, h1, h2]
          have b1 : (xa == a) = true := by simp [h1]
          have b2 : (xb == b) = true := by simp [h2]
          clear HE2 h1 h2
          go_wp2
          go_ret
          exact ⟨ret_int HE3.out.symm, rfl⟩
        · have HE3 : Hid (fndD a b L 0 = fndD a b (L.drop (j + 1)) (j + 1)) := by unfold Hid; rw [HE2]; simp [fndD, h1, h2]
          have b1 : (xa == a) = true := by simp [h1]
          have b2 : (xb == b) = false := by simp [h2]
          clear HE2 h1 h2
          go_wp2
          go_roundw
          case rel => exact ⟨j + 1, by go_num, by omega, by first | exact rfl | trivial, HE3.out⟩
          case measure => simp [intOf]; omega
      · have HE3 : Hid (fndD a b L 0 = fndD a b (L.drop (j + 1)) (j + 1)) := by unfold Hid; rw [HE2]; simp [fndD, h1]
        have b1 : (xa == a) = false := by simp [h1]
        clear HE2 h1
        go_wp2
        go_roundw
        case rel => exact ⟨j + 1, by go_num, by omega, by first | exact rfl | trivial, HE3.out⟩
        case measure => simp [intOf]; omega
    · have hge : (n : Int) ≤ j := by omega
      obtain rfl : j = n := by omega
      have HE3 : Hid (fndD a b L 0 = -1) := by unfold Hid; rw [HE.out, List.drop_of_length_le (by omega)]; rfl
      go_wp2
      go_ret
      exact ⟨ret_int HE3.out.symm, rfl⟩
def lessD (x y : Du) : Bool := if x.2.2 ≠ y.2.2 then decide (x.2.2 < y.2.2) else if x.1 ≠ y.1 then decide (x.1 < y.1) else decide (x.2.1 < y.2.1)
theorem rf_less (x y : Du) (w : World) : Calls Try.prog 23 #[duV x, duV y] w fun e w' => e = .returned (.bool (lessD x y)) ∧ Kept w w' := by
  obtain ⟨a, b, c⟩ := x
  obtain ⟨a', b', c'⟩ := y
  unfold duV
  dsimp only
  have h0 := heap_keep (heap_alloc_new w (.cells #[.int .i64 a, .int .i64 b, .int .i64 c] 43)) (.cells #[.int .i64 a', .int .i64 b', .int .i64 c'] 43)
  have h1 : ((w.alloc (.cells #[.int .i64 a, .int .i64 b, .int .i64 c] 43)).alloc (.cells #[.int .i64 a', .int .i64 b', .int .i64 c'] 43)).heap[w.heap.size + 1]? = some (.cells #[.int .i64 a', .int .i64 b', .int .i64 c'] 43 (0, 0)) := by
    have := heap_alloc_new (w.alloc (.cells #[.int .i64 a, .int .i64 b, .int .i64 c] 43)) (.cells #[.int .i64 a', .int .i64 b', .int .i64 c'] 43)
    simpa using this
  have a0 : World.cell? _ ⟨w.heap.size, 0, none⟩ = some (.int .i64 a) := at_cell h0 0 _ rfl
  have a1 : World.cell? _ ⟨w.heap.size, 1, none⟩ = some (.int .i64 b) := at_cell h0 1 _ rfl
  have a2 : World.cell? _ ⟨w.heap.size, 2, none⟩ = some (.int .i64 c) := at_cell h0 2 _ rfl
  have b0 : World.cell? _ ⟨w.heap.size + 1, 0, none⟩ = some (.int .i64 a') := at_cell h1 0 _ rfl
  have b1 : World.cell? _ ⟨w.heap.size + 1, 1, none⟩ = some (.int .i64 b') := at_cell h1 1 _ rfl
  have b2 : World.cell? _ ⟨w.heap.size + 1, 2, none⟩ = some (.int .i64 c') := at_cell h1 2 _ rfl
  have KK : Kept w _ := (kept_al w (.cells #[.int .i64 a, .int .i64 b, .int .i64 c] 43)).trans (kept_al _ (.cells #[.int .i64 a', .int .i64 b', .int .i64 c'] 43))
  clear h0 h1
  by_cases hc : c = c'
  · by_cases ha : a = a'
    · have hr : lessD (a, b, c) (a', b', c') = decide (b < b') := by simp [lessD, hc, ha]
      have t1 : (c == c') = true := by simp [hc]
      have t2 : (a == a') = true := by simp [ha]
      clear hc ha
      go_enter Try.func23, Try.ntmps23
      go_wp2
      go_ret
      exact ⟨ret_bool hr.symm, KK⟩
    · have hr : lessD (a, b, c) (a', b', c') = decide (a < a') := by simp [lessD, hc, ha]
      have t1 : (c == c') = true := by simp [hc]
      have t2 : (a == a') = false := by simp [ha]
      clear hc ha
      go_enter Try.func23, Try.ntmps23
      go_wp2
      go_ret
      exact ⟨ret_bool hr.symm, KK⟩
  · have hr : lessD (a, b, c) (a', b', c') = decide (c < c') := by simp [lessD, hc]
    have t1 : (c == c') = false := by simp [hc]
    clear hc
    go_enter Try.func23, Try.ntmps23
    go_wp2
    go_ret
    exact ⟨ret_bool hr.symm, KK⟩
end Go.Proofs.Ytneehfngphpccaa
