/- An Out that a call makes for itself. -/
import Derived.Test.YteaepgbakcifkaaDoorEncOut2
set_option linter.unusedVariables false
set_option linter.unusedSimpArgs false
namespace Go.Proofs.YteaepgbakcifkaaDoor
open Go.RowKit
/-- an Out made in X holds xs now -/
structure OutW (X w : World) (p : Nat) (g : Option Nat) (xs : List Int) (B : Nat) : Prop where
  at' : OutAt w p g xs
  only : Only [p] X w
  went : Went X none g
  len : xs.length ≤ B
theorem OutW.lt {X w : World} {p : Nat} {g : Option Nat} {xs : List Int} {B : Nat} (h : OutW X w p g xs B) : ∀ k, g = some k → k < w.heap.size := by
  obtain ⟨⟨a, c, hp, happ, hg⟩, _, _, _⟩ := h
  exact happ.lt
theorem outW_new (w : World) : OutW (w.alloc (.cells #[.slice none 0 0] 48 (0, 0))) (w.alloc (.cells #[.slice none 0 0] 48 (0, 0))) w.heap.size none [] 0 := ⟨outAt_nil w, Only.refl _ _, .inl rfl, Nat.le_refl _⟩
theorem OutW.keep {X w w' : World} {p : Nat} {g : Option Nat} {xs : List Int} {B : Nat} (h : OutW X w p g xs B) (k : Kept w w') : OutW X w' p g xs B := ⟨k.only.outAt h.at' (by simp) (by simp), h.only.then k.only (by simp), h.went, h.len⟩
theorem outW_U {X : World} (p : Nat) (g : Option Nat) (xs : List Int) (B : Nat) (x : Int) (w : World) (h0 : 0 ≤ x) (h1 : x ≤ 18446744073709551615) (hO : OutW X w p g xs B) (hb : B ≤ 35184372088832) :
    Calls Tryd.prog 22 #[.pointer (some ⟨p, 0, none⟩), .int .u64 x] w fun e w' => e = .returned (.tuple #[]) ∧ ∃ g', OutW X w' p g' (xs ++ encU x) (B + 1034) ∧ Only (p :: g.toList) w w' := by
  have hlen := (lenU_le x).2
  unfold lenU at hlen
  refine (out_U p g xs x w h0 h1 hO.at' (by have := hO.len; omega)).mono ?_
  rintro e w' ⟨rfl, g', hA, ho, hg⟩
  exact ⟨rfl, g', ⟨hA, hO.only.then ho (fun i hi hm => went_sub (g := none) hO.went i hi hm), hO.went.trans hg hO.only.size, by have := hO.len; rw [List.length_append]; omega⟩, ho⟩
theorem outW_S {X : World} (p : Nat) (g : Option Nat) (xs : List Int) (B : Nat) (s : ByteArray) (w : World) (hn : s.size ≤ 1024) (hO : OutW X w p g xs B) (hb : B ≤ 35184372088832) :
    Calls Tryd.prog 23 #[.pointer (some ⟨p, 0, none⟩), .string s] w fun e w' => e = .returned (.tuple #[]) ∧ ∃ g', OutW X w' p g' (xs ++ encS (ofStr s)) (B + 1034) ∧ Only (p :: g.toList) w w' := by
  have hlen := (lenU_le s.size).2
  have hz := ofStr_len s
  unfold lenU at hlen
  refine (out_S p g xs s w hO.at' (by have := hO.len; omega) (by omega)).mono ?_
  rintro e w' ⟨rfl, g', hA, ho, hg⟩
  refine ⟨rfl, g', ⟨hA, hO.only.then ho (fun i hi hm => went_sub (g := none) hO.went i hi hm), hO.went.trans hg hO.only.size, ?_⟩, ho⟩
  have := hO.len
  unfold encS
  rw [List.length_append, List.length_append, hz]
  omega
/-- the block that an Out's bytes lie in holds cells -/
theorem outAt_cells {w : World} {p : Nat} {g : Option Nat} {xs : List Int} (h : OutAt w p g xs) (hx : xs ≠ []) (k : Nat) (hk : g = some k) : ∃ cs t m, w.heap[k]? = some (.cells cs t m) := by
  obtain ⟨a, c, hp, happ, hg⟩ := h
  subst hk
  rcases happ with ⟨h1, h2⟩ | ⟨b, o, hv, hgb, hm, hl, hlt, hc⟩
  · rcases h1.2 with ⟨hv, _⟩ | ⟨b, cap, cur, hv, _, hb, _⟩
    · rw [hv] at h2; cases h2
    · rw [hv] at h2
      have h2 : some b = some k := h2
      injection h2 with h2
      subst h2
      exact ⟨_, _, _, hb⟩
  · injection hgb with hgb
    subst hgb
    cases xs with
    | nil => exact absurd rfl hx
    | cons x xs =>
      have := hc 0 (.int .u8 x) (by simp [bytesV])
      rw [Nat.add_zero] at this
      unfold World.cell? at this
      cases hh : w.heap[k]? with
      | none => rw [hh] at this; simp at this
      | some ob =>
        cases ob with
        | cells cs t m => exact ⟨cs, t, m, rfl⟩
        | _ => rw [hh] at this; simp at this
theorem encU_ne (v : Int) : encU v ≠ [] := by
  have := (lenU_le v).1
  unfold lenU at this
  intro h
  rw [h] at this
  simp at this
theorem wrapU {x : Int} (h0 : 0 ≤ x) (h1 : x ≤ 18446744073709551615) : IntKind.u64.wrap x = x := by rw [IntKind.wrap_u64]; omega
end Go.Proofs.YteaepgbakcifkaaDoor
