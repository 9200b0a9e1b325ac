/- The wheel over its row: Set, Drop, At, Len, Now, Next, To. -/
import Derived.Test.YtneehfngphpccaaWhMath
set_option linter.unusedVariables false
set_option linter.unusedSimpArgs false
namespace Go.Proofs.Ytneehfngphpccaa
open Go.RowKit
open Go.ChangeMaps (setBlock)
def WhL (w : World) (p q : Nat) (now : Int) (L : List Du) : Prop := ∃ M ck, WhAt w p q now M ck ∧ WOk M ck L
theorem WhL.keep {w w' : World} {p q : Nat} {now : Int} {L : List Du} (h : WhL w p q now L) (k : Kept w w') : WhL w' p q now L := by
  obtain ⟨M, ck, h1, h2⟩ := h; exact ⟨M, ck, h1.keep k, h2⟩
theorem WhL.only {S : List Nat} {w w' : World} {p q : Nat} {now : Int} {L : List Du} (h : WhL w p q now L) (k : Only S w w') (hp : p ∉ S) (hq : q ∉ S) : WhL w' p q now L := by
  obtain ⟨M, ck, h1, h2⟩ := h; exact ⟨M, ck, h1.only k hp hq, h2⟩
theorem WhL.lt {w : World} {p q : Nat} {now : Int} {L : List Du} (h : WhL w p q now L) : p < w.heap.size ∧ q < w.heap.size := by
  obtain ⟨M, ck, h1, h2⟩ := h; exact ⟨lt_heap h1.box, lt_heap h1.map⟩
theorem wl_new (w : World) : Calls Try.prog 7 #[] w fun e w' => ∃ p q, e = .returned (.pointer (some ⟨p, 0, none⟩)) ∧ WhL w' p q 0 [] ∧ Kept w w' ∧ w.heap.size ≤ p ∧ w.heap.size ≤ q :=
  (wh_new w).mono fun e w' ⟨p, q, h1, h2, h3⟩ => ⟨p, q, h1, ⟨[], 0, h2, WOk.nil⟩, h3⟩
theorem wl_now {w : World} {p q : Nat} {now : Int} {L : List Du} (h : WhL w p q now L) : Calls Try.prog 20 #[.pointer (some ⟨p, 0, none⟩)] w fun e w' => e = .returned (.int .i64 now) ∧ w = w' := by
  obtain ⟨M, ck, h1, h2⟩ := h; exact wh_now h1
theorem wl_len {w : World} {p q : Nat} {now : Int} {L : List Du} (h : WhL w p q now L) : Calls Try.prog 10 #[.pointer (some ⟨p, 0, none⟩)] w fun e w' => e = .returned (.int .i64 L.length) ∧ w = w' := by
  obtain ⟨M, ck, h1, h2⟩ := h; rw [← h2.len]; exact wh_len h1
theorem wl_at {w : World} {p q : Nat} {now : Int} {L : List Du} (h : WhL w p q now L) (a b : Int) : Calls Try.prog 13 #[.pointer (some ⟨p, 0, none⟩), kv a b] w fun e w' => e = .returned (.tuple #[.int .i64 (atD a b L), .bool (hasD a b L)]) ∧ Kept w w' := by
  obtain ⟨M, ck, h1, h2⟩ := h
  have := h2.look a b
  rw [← this.1, ← this.2]
  exact wh_at h1 a b
theorem wl_drop {w : World} {p q : Nat} {now : Int} {L : List Du} (h : WhL w p q now L) (a b : Int) : Calls Try.prog 11 #[.pointer (some ⟨p, 0, none⟩), kv a b] w fun e w' => e = .returned (.bool (hasD a b L)) ∧ WhL w' p q now (dropD a b L) ∧ Only [q] w w' := by
  obtain ⟨M, ck, h1, h2⟩ := h
  rw [← (h2.look a b).1]
  exact (wh_drop h1 a b).mono fun e w' ⟨e1, e2, e3⟩ => ⟨e1, ⟨_, _, e2, h2.drop a b⟩, e3⟩
theorem wl_set {w : World} {p q : Nat} {now : Int} {L : List Du} (h : WhL w p q now L) (a b t : Int) (ht : t ≤ 1099511627776) (hn : now < t) : Calls Try.prog 8 #[.pointer (some ⟨p, 0, none⟩), kv a b, .int .i64 t] w fun e w' => e = .returned (.int .i64 0) ∧ WhL w' p q now (insD (a, b, t) (dropD a b L)) ∧ Only [q] w w' := by
  obtain ⟨M, ck, h1, h2⟩ := h
  exact (wh_set h1 a b t ht hn).mono fun e w' ⟨e1, e2, e3⟩ => ⟨e1, ⟨_, _, e2, h2.put a b t⟩, e3⟩
theorem wl_set_no {w : World} {p q : Nat} {now : Int} {L : List Du} (h : WhL w p q now L) (a b t : Int) (ht : 1099511627776 < t ∨ t ≤ now) : Calls Try.prog 8 #[.pointer (some ⟨p, 0, none⟩), kv a b, .int .i64 t] w fun e w' => e = .returned (.int .i64 1) ∧ Kept w w' := by
  obtain ⟨M, ck, h1, h2⟩ := h; exact wh_set_no h1 a b t ht
theorem wl_all (hsort : SortSays) {w : World} {p q : Nat} {now : Int} {L : List Du} (h : WhL w p q now L) (hn : L.length ≤ 1000) : Calls Try.prog 22 #[.pointer (some ⟨p, 0, none⟩)] w fun e w' => ∃ (a : Option Addr) (c : Nat), e = .returned (.slice a L.length c) ∧ SlD w' a L.length c L ∧ Kept w w' ∧ (∀ y, a = some y → w.heap.size ≤ y.block) := by
  obtain ⟨M, ck, h1, h2⟩ := h
  have hl := h2.len
  refine (wh_all hsort h1 h2.st h2.iv (by omega)).mono ?_
  rintro e w' ⟨a, c, D, e1, e2, e3, e4⟩
  rw [hl] at e1 e3
  rw [h2.sorted e2] at e3
  exact ⟨a, c, e1, e3, e4⟩
theorem wl_next (hsort : SortSays) {w : World} {p q : Nat} {now : Int} {L : List Du} (h : WhL w p q now L) (hn : L.length ≤ 1000) : Calls Try.prog 12 #[.pointer (some ⟨p, 0, none⟩)] w fun e w' => e = .returned (.tuple #[.int .i64 (nextD L).1, .bool (nextD L).2]) ∧ Kept w w' := by
  have HAll := Lib.hid (wl_all hsort h hn)
  clear h
  cases L with
  | nil =>
    go_enter Try.func12, Try.ntmps12
    go_wp2_with fail
    refine HAll.out.mono ?_
    rintro E V ⟨a, c, rfl, hS, hK, _⟩
    have HK := Lib.hid hK
    clear hS hK
    dsimp only [List.length_nil]
    go_wp2_with fail
    go_loopw [9] (fun i wr => i = .int .i64 0 ∧ V = wr) (fun _ _ => 0)
    case atStart => exact ⟨rfl, rfl⟩
    obtain ⟨rfl, rfl⟩ := hrel
    go_wp2
    go_ret2
    exact ⟨rfl, HK.out⟩
  | cons x l =>
    have hnx : nextD (x :: l) = (x.2.2, true) := rfl
    rw [hnx]
    go_enter Try.func12, Try.ntmps12
    go_wp2_with fail
    refine HAll.out.mono ?_
    rintro E V ⟨a, c, rfl, hS, hK, _⟩
    have HK := Lib.hid hK
    obtain ⟨bb, o, rfl, q0, q1, q2⟩ := hS.at (i := 0) (x := x) rfl
    rw [Nat.zero_mul, Nat.add_zero] at q0 q1 q2
    have hpos : (0 : Int) < ((x :: l).length : Nat) := by simp
    obtain ⟨xa, xb, xc⟩ := x
    dsimp only at q0 q1 q2
    have KB := HK.out.trans (kept_al V (.cells #[.int .i64 xa, .int .i64 xb, .int .i64 xc] 32))
    have HKB := Lib.hid KB
    generalize ((xa, xb, xc) :: l).length = nn at *
    clear hS hK HAll KB
    go_wp2_with fail
    go_loopw [9] (fun i wr => i = .int .i64 0 ∧ V = wr) (fun _ _ => 0)
    case atStart => exact ⟨rfl, rfl⟩
    obtain ⟨rfl, rfl⟩ := hrel
    go_wp2
    go_ret2
    exact ⟨rfl, HKB.out⟩
theorem dueK_iff (t : Int) : ∀ (L : List Du) (j : Nat) (x : Du), SrtD L → L[j]? = some x → (x.2.2 ≤ t ↔ j < dueK t L)
  | [], j, x, _, h => by cases h
  | y :: l, 0, x, hs, h => by
    obtain rfl : y = x := by simpa using h
    unfold dueK
    split <;> simp_all
  | y :: l, j + 1, x, hs, h => by
    obtain ⟨h1, h2⟩ := List.pairwise_cons.1 hs
    have hx : l[j]? = some x := by simpa using h
    have ih := dueK_iff t l j x h2 hx
    have hle := h1 x (List.mem_of_getElem? hx)
    rw [lessD_iff] at hle
    unfold dueK
    split
    · omega
    · omega
theorem wl_to_no (hsort : SortSays) {w : World} {p q : Nat} {now : Int} {L : List Du} (h : WhL w p q now L) (t : Int) (ht : t < now ∨ 1099511627776 < t) : Calls Try.prog 9 #[.pointer (some ⟨p, 0, none⟩), .int .i64 t] w fun e w' => e = .returned (.tuple #[.slice none 0 0, .int .i64 1]) ∧ w = w' := by
  obtain ⟨M, ck, h1, h2⟩ := h
  have c0 : w.cell? ⟨p, 0, none⟩ = some (.int .i64 now) := at_cell h1.box 0 _ rfl
  clear h1 h2
  by_cases h1 : t < now
  · go_enter Try.func9, Try.ntmps9
    go_wp2
    go_ret2
    exact ⟨rfl, rfl⟩
  · have h2 : 1099511627776 < t := by omega
    go_enter Try.func9, Try.ntmps9
    go_wp2
    go_ret2
    exact ⟨rfl, rfl⟩
end Go.Proofs.Ytneehfngphpccaa
