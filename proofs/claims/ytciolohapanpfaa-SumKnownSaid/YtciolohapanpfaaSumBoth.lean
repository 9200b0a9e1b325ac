/- The contracts of On, Join, Turn at every argument: the program's and the reference's compute the same pairs. -/
import Derived.Test.YtciolohapanpfaaSumAwake
set_option linter.unusedVariables false
set_option linter.unusedSimpArgs false
namespace Go.Proofs.Ytciolohapanpfaa
open Go.RowKit
def onR (s : Int) (l : List Int) : Int × Bool := if goodB s = true then (onV s l, true) else (0, false)
def joinR (s t n : Int) : Int × Bool := if goodB s = true ∧ goodB t = true ∧ 0 ≤ n then (joinV s t n, true) else (0, false)
def turnR (s n i f t : Int) : Int × Bool := if goodB s = true ∧ 1 ≤ n ∧ 0 ≤ i ∧ i < n then (turnV s n i f t, true) else (0, false)
theorem sum_on (s : Int) (a : Option Addr) (n c : Nat) (zs : List Int) (w : World) (h0 : 0 ≤ s) (h1 : s ≤ 4294967295) (hS : Sl .u8 w a n c zs) (hB : IsB zs) :
    Calls Try.prog 12 #[.int .u32 s, .slice a n c] w fun e w' => e = .returned (.tuple #[.int .u32 (onR s zs).1, .bool (onR s zs).2]) ∧ w = w' := by
  unfold onR
  split
  · exact sum_on_yes s a n c zs w h0 h1 (by assumption) hS hB
  · exact sum_on_no s a n c w h0 h1 (by rename_i h; simpa using h)
theorem ref_on (s : Int) (a : Option Addr) (n c : Nat) (zs : List Int) (w : World) (h0 : 0 ≤ s) (h1 : s ≤ 4294967295) (hS : Sl .u8 w a n c zs) (hB : IsB zs) :
    Calls Try.prog 14 #[.int .u32 s, .slice a n c] w fun e w' => e = .returned (.tuple #[.int .u32 (onR s zs).1, .bool (onR s zs).2]) ∧ Dr w w' := by
  unfold onR
  split
  · exact ref_on_yes s a n c zs w h0 h1 (by assumption) hS hB
  · exact ref_on_no s a n c w h0 h1 (by rename_i h; simpa using h)
theorem sum_join (s t n : Int) (w : World) (h0 : 0 ≤ s) (h1 : s ≤ 4294967295) (h2 : 0 ≤ t) (h3 : t ≤ 4294967295) (hn1 : n ≤ 9223372036854775807) :
    Calls Try.prog 10 #[.int .u32 s, .int .u32 t, .int .i64 n] w fun e w' => e = .returned (.tuple #[.int .u32 (joinR s t n).1, .bool (joinR s t n).2]) ∧ w = w' := by
  unfold joinR
  split
  · rename_i h; obtain ⟨a, b, c⟩ := h; exact sum_join_yes s t n w h0 h1 h2 h3 c hn1 a b
  · rename_i h; exact sum_join_no s t n w h0 h1 h2 h3 (by cases hs : goodB s <;> cases ht : goodB t <;> simp [hs, ht] at h ⊢; exact h)
theorem ref_join (s t n : Int) (w : World) (h0 : 0 ≤ s) (h1 : s ≤ 4294967295) (h2 : 0 ≤ t) (h3 : t ≤ 4294967295) (hn1 : n ≤ 9223372036854775807) :
    Calls Try.prog 15 #[.int .u32 s, .int .u32 t, .int .i64 n] w fun e w' => e = .returned (.tuple #[.int .u32 (joinR s t n).1, .bool (joinR s t n).2]) ∧ Dr w w' := by
  unfold joinR
  split
  · rename_i h; obtain ⟨a, b, c⟩ := h; exact ref_join_yes s t n w h0 h1 h2 h3 c hn1 a b
  · rename_i h; exact (ref_join_no s t n w h0 h1 h2 h3 (by cases hs : goodB s <;> cases ht : goodB t <;> simp [hs, ht] at h ⊢; exact h)).mono fun e w' ⟨a, b⟩ => ⟨a, b ▸ Dr.refl _⟩
theorem sum_turn (s n i f t : Int) (w : World) (h0 : 0 ≤ s) (h1 : s ≤ 4294967295) (hn1 : n ≤ 9223372036854775807) (hf0 : 0 ≤ f) (hf1 : f ≤ 255) (ht0 : 0 ≤ t) (ht1 : t ≤ 255) :
    Calls Try.prog 11 #[.int .u32 s, .int .i64 n, .int .i64 i, .int .u8 f, .int .u8 t] w fun e w' => e = .returned (.tuple #[.int .u32 (turnR s n i f t).1, .bool (turnR s n i f t).2]) ∧ w = w' := by
  unfold turnR
  split
  · rename_i h; obtain ⟨a, b, c, d⟩ := h; exact sum_turn_yes s n i f t w h0 h1 b hn1 c d hf0 hf1 ht0 ht1 a
  · rename_i h; exact sum_turn_no s n i f t w h0 h1 (by cases hs : goodB s <;> simp [hs] at h ⊢; omega)
theorem ref_turn (s n i f t : Int) (w : World) (h0 : 0 ≤ s) (h1 : s ≤ 4294967295) (hn1 : n ≤ 9223372036854775807) (hf0 : 0 ≤ f) (hf1 : f ≤ 255) (ht0 : 0 ≤ t) (ht1 : t ≤ 255) :
    Calls Try.prog 16 #[.int .u32 s, .int .i64 n, .int .i64 i, .int .u8 f, .int .u8 t] w fun e w' => e = .returned (.tuple #[.int .u32 (turnR s n i f t).1, .bool (turnR s n i f t).2]) ∧ Dr w w' := by
  unfold turnR
  split
  · rename_i h; obtain ⟨a, b, c, d⟩ := h; exact ref_turn_yes s n i f t w h0 h1 b hn1 c d hf0 hf1 ht0 ht1 a
  · rename_i h; exact (ref_turn_no s n i f t w h0 h1 (by cases hs : goodB s <;> simp [hs] at h ⊢; omega)).mono fun e w' ⟨a, b⟩ => ⟨a, b ▸ Dr.refl _⟩
end Go.Proofs.Ytciolohapanpfaa
