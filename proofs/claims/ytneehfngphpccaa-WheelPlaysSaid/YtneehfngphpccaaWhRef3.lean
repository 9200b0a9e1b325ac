/- The document's wheel: At, Next, To. -/
import Derived.Test.YtneehfngphpccaaWhRef2
set_option linter.unusedVariables false
set_option linter.unusedSimpArgs false
namespace Go.Proofs.Ytneehfngphpccaa
open Go.RowKit
def atD (a b : Int) : List Du → Int
  | [] => 0
  | x :: l => if x.1 = a ∧ x.2.1 = b then x.2.2 else atD a b l
theorem atD_spec (a b : Int) : ∀ (L : List Du) (i : Nat), (fndD a b L i = -1 ∧ atD a b L = 0) ∨ ∃ k x, fndD a b L i = ((i + k : Nat) : Int) ∧ L[k]? = some x ∧ atD a b L = x.2.2
  | [], i => .inl ⟨rfl, rfl⟩
  | x :: l, i => by
    by_cases h : x.1 = a ∧ x.2.1 = b
    · exact .inr ⟨0, x, by simp [fndD, h], rfl, by simp [atD, h]⟩
    · rcases atD_spec a b l (i + 1) with ⟨h1, h2⟩ | ⟨k, y, h1, h2, h3⟩
      · exact .inl ⟨by rw [fndD, if_neg h]; exact h1, by rw [atD, if_neg h, h2]⟩
      · exact .inr ⟨k + 1, y, by rw [fndD, if_neg h, h1]; congr 1; omega, by simpa using h2, by rw [atD, if_neg h, h3]⟩
set_option maxHeartbeats 1000000 in
theorem rf_at {w : World} {p : Nat} {now : Int} {s : Option Addr} {n c : Nat} {L : List Du} (h : RfAt w p now s n c L) (hn : n ≤ 1000) (a b : Int) : Calls Try.prog 18 #[.pointer (some ⟨p, 0, none⟩), .int .i64 a, .int .i64 b] w fun e w' => e = .returned (.tuple #[.int .i64 (atD a b L), .bool (hasD a b L)]) ∧ w = w' := by
  have HF := Lib.hid (rf_find h hn a b)
  have hl := h.row.1
  have hnc := h.row.2.1
  rcases atD_spec a b L 0 with ⟨h1, h2⟩ | ⟨k, x, h1, h2, h3⟩
  · rw [h1] at HF
    have hb : hasD a b L = false := by unfold hasD; rw [h1]; rfl
    rw [h2, hb]
    clear h
    go_enter Try.func18, Try.ntmps18
    go_wp2_with fail
    refine HF.out.mono ?_
    rintro E V ⟨rfl, rfl⟩
    go_wp2
    go_ret2
    exact ⟨rfl, rfl⟩
  · rw [Nat.zero_add] at h1
    rw [h1] at HF
    have hb : hasD a b L = true := by unfold hasD; rw [h1]; exact decide_eq_true (by omega)
    have hk : k < n := by rw [← hl]; exact (List.getElem?_eq_some_iff.1 h2).1
    have hk' : (k : Int) < n := by omega
    obtain ⟨bb, o, rfl, q0, q1, q2⟩ := h.row.at h2
    obtain ⟨c0, c1⟩ := h.cells
    rw [h3, hb]
    obtain ⟨xa, xb, xc⟩ := x
    dsimp only at q0 q1 q2 ⊢
    clear h h1 h2 h3
    go_enter Try.func18, Try.ntmps18
    go_wp2_with fail
    refine HF.out.mono ?_
    rintro E V ⟨rfl, rfl⟩
    go_wp2
    go_ret2
    exact ⟨rfl, rfl⟩
def nextD : List Du → Int × Bool
  | [] => (0, false)
  | x :: _ => (x.2.2, true)
theorem rf_next {w : World} {p : Nat} {now : Int} {s : Option Addr} {n c : Nat} {L : List Du} (h : RfAt w p now s n c L) : Calls Try.prog 19 #[.pointer (some ⟨p, 0, none⟩)] w fun e w' => e = .returned (.tuple #[.int .i64 (nextD L).1, .bool (nextD L).2]) ∧ w = w' := by
  have hl := h.row.1
  have hnc := h.row.2.1
  obtain ⟨c0, c1⟩ := h.cells
  cases L with
  | nil =>
    obtain rfl : n = 0 := hl.symm
    clear h
    go_enter Try.func19, Try.ntmps19
    go_wp2
    go_ret2
    exact ⟨rfl, rfl⟩
  | cons x l =>
    obtain ⟨bb, o, rfl, q0, q1, q2⟩ := h.row.at (i := 0) (x := x) rfl
    rw [Nat.zero_mul, Nat.add_zero] at q0 q1 q2
    have h0 : ((n : Int) == 0) = false := by simp at hl ⊢; omega
    have hpos : (0 : Int) < n := by simp at hl; omega
    obtain ⟨xa, xb, xc⟩ := x
    unfold nextD
    dsimp only at q0 q1 q2 ⊢
    clear h hl
    go_enter Try.func19, Try.ntmps19
    go_wp2
    go_ret2
    exact ⟨rfl, rfl⟩
theorem rf_to_no {w : World} {p : Nat} {now : Int} {s : Option Addr} {n c : Nat} {L : List Du} (h : RfAt w p now s n c L) (t : Int) (ht : t < now ∨ 1099511627776 < t) : Calls Try.prog 17 #[.pointer (some ⟨p, 0, none⟩), .int .i64 t] w fun e w' => e = .returned (.tuple #[.slice none 0 0, .int .i64 1]) ∧ w = w' := by
  obtain ⟨c0, c1⟩ := h.cells
  clear h
  by_cases h1 : t < now
  · go_enter Try.func17, Try.ntmps17
    go_wp2
    go_ret2
    exact ⟨rfl, rfl⟩
  · have h2 : 1099511627776 < t := by omega
    go_enter Try.func17, Try.ntmps17
    go_wp2
    go_ret2
    exact ⟨rfl, rfl⟩
/-- how many come first -/
def dueK (t : Int) : List Du → Nat
  | [] => 0
  | x :: l => if x.2.2 ≤ t then dueK t l + 1 else 0
end Go.Proofs.Ytneehfngphpccaa
