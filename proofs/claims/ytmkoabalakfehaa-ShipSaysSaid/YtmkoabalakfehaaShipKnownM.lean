/- ship.New whatever it is given; what is left of cells behind a call. -/
import Derived.Test.YtmkoabalakfehaaShipMake
set_option linter.unusedVariables false
set_option linter.unusedSimpArgs false
namespace Go.Proofs.Ytmkoabalakfehaa
open Go.RowKit
def newS (who ep ed : Int) : SV := if (who = 0 ∨ who = 1) ∧ 1 ≤ ep ∧ ep ≤ 1048575 ∧ 0 ≤ ed ∧ ed ≤ 17592186044415 then ⟨who, ep, ed, 0⟩ else ⟨0, 0, 0, 0⟩
def newE (who ep ed : Int) : Int := if (who = 0 ∨ who = 1) ∧ 1 ≤ ep ∧ ep ≤ 1048575 ∧ 0 ≤ ed ∧ ed ≤ 17592186044415 then 0 else 1
set_option maxHeartbeats 1000000 in
theorem ship_new (who ep ed : Int) (w : World) :
    Calls Try.prog 9 #[.int .i64 who, .int .i64 ep, .int .i64 ed] w fun e w' => e = .returned (.tuple #[(newS who ep ed).v, .int .i64 (newE who ep ed)]) ∧ Kept w w' := by
  by_cases hq : (who = 0 ∨ who = 1) ∧ 1 ≤ ep ∧ ep ≤ 1048575 ∧ 0 ≤ ed ∧ ed ≤ 17592186044415
  · unfold newS newE
    rw [if_pos hq, if_pos hq]
    exact ship_new_yes who ep ed w hq.1 hq.2.1 hq.2.2.1 hq.2.2.2.1 hq.2.2.2.2
  · unfold newS newE
    rw [if_neg hq, if_neg hq]
    have K := kept_al w (.cells #[.int .i64 0, .int .i64 0, .int .i64 0, .int .i64 0] 29)
    unfold SV.v
    have hcs : ((who != 0) = true ∧ (who != 1) = true) ∨ ((who = 0 ∨ who = 1) ∧ ep < 1) ∨ ((who = 0 ∨ who = 1) ∧ 1 ≤ ep ∧ 1048575 < ep) ∨ ((who = 0 ∨ who = 1) ∧ 1 ≤ ep ∧ ep ≤ 1048575 ∧ ed < 0) ∨ ((who = 0 ∨ who = 1) ∧ 1 ≤ ep ∧ ep ≤ 1048575 ∧ 0 ≤ ed ∧ 17592186044415 < ed) := by
      by_cases h0 : who = 0 ∨ who = 1
      · by_cases h1 : 1 ≤ ep
        · by_cases h2 : ep ≤ 1048575
          · by_cases h3 : 0 ≤ ed
            · exact .inr (.inr (.inr (.inr ⟨h0, h1, h2, h3, Int.not_le.1 fun h4 => hq ⟨h0, h1, h2, h3, h4⟩⟩)))
            · exact .inr (.inr (.inr (.inl ⟨h0, h1, h2, by omega⟩)))
          · exact .inr (.inr (.inl ⟨h0, h1, by omega⟩))
        · exact .inr (.inl ⟨h0, by omega⟩)
      · exact .inl ⟨by simp; omega, by simp; omega⟩
    clear hq
    rcases hcs with ⟨h1, h2⟩ | ⟨rfl | rfl, h1⟩ | ⟨rfl | rfl, h1, h2⟩ | ⟨rfl | rfl, h1, h2, h3⟩ | ⟨rfl | rfl, h1, h2, h3, h4⟩
    all_goals
      go_enter Try.func9, Try.ntmps9
      go_wp2
      exact bodyPost_ret (v := .tuple #[.agg #[.int .i64 0, .int .i64 0, .int .i64 0, .int .i64 0], .int .i64 1]) (by simp [results, Try.results9, go_sem]) rfl ⟨rfl, K⟩
theorem Kept.cq {a b : World} (h : Kept a b) (p j : Nat) (hp : p < a.heap.size) : b.cell? ⟨p, j, none⟩ = a.cell? ⟨p, j, none⟩ := Below.cell h hp
theorem Kept.fq {a b : World} (h : Kept a b) (p j : Nat) (hp : p < a.heap.size) : b.frozen? ⟨p, j, none⟩ = a.frozen? ⟨p, j, none⟩ := by
  have hb := h.block p hp
  unfold World.frozen?
  rw [hb]
theorem sl_lit2 {w : World} {p : Nat} {a b : Int} (h0 : w.cell? ⟨p, 0, none⟩ = some (.int .u64 a)) (h1 : w.cell? ⟨p, 1, none⟩ = some (.int .u64 b)) : Sl .u64 w (some ⟨p, 0, none⟩) 2 2 [a, b] :=
  ⟨rfl, Nat.le_refl _, by unfold maxLen; omega, fun i hi => by
    have hp := World.block_lt_of_cell? w _ h0
    have : i = 0 ∨ i = 1 := by omega
    rcases this with rfl | rfl
    · exact ⟨p, 0, rfl, hp, h0⟩
    · exact ⟨p, 0, rfl, hp, h1⟩⟩
/-- a block whose first cells are there: stores into it are to be seen -/
theorem blk_of {w : World} {p j : Nat} {v : Value} (h : w.cell? ⟨p, j, none⟩ = some v) : ∃ cs t m, w.heap[p]? = some (.cells cs t m) ∧ cs[j]? = some v := by
  unfold World.cell? at h
  cases hq : w.heap[p]? with
  | none => rw [hq] at h; cases h
  | some o =>
    rw [hq] at h
    cases o with
    | cells cs t m => exact ⟨cs, t, m, rfl, by simpa using h⟩
    | _ => simp at h
theorem set4_cells {w : World} {p : Nat} {v0 v1 v2 v3 : Value} (h0 : w.cell? ⟨p, 0, none⟩ = some v0) (h1 : w.cell? ⟨p, 1, none⟩ = some v1) (h2 : w.cell? ⟨p, 2, none⟩ = some v2) (h3 : w.cell? ⟨p, 3, none⟩ = some v3) (u0 u1 u2 u3 : Value) :
    ((((w.setCell ⟨p, 0, none⟩ u0).setCell ⟨p, 1, none⟩ u1).setCell ⟨p, 2, none⟩ u2).setCell ⟨p, 3, none⟩ u3).cell? ⟨p, 0, none⟩ = some u0 ∧
    ((((w.setCell ⟨p, 0, none⟩ u0).setCell ⟨p, 1, none⟩ u1).setCell ⟨p, 2, none⟩ u2).setCell ⟨p, 3, none⟩ u3).cell? ⟨p, 1, none⟩ = some u1 ∧
    ((((w.setCell ⟨p, 0, none⟩ u0).setCell ⟨p, 1, none⟩ u1).setCell ⟨p, 2, none⟩ u2).setCell ⟨p, 3, none⟩ u3).cell? ⟨p, 2, none⟩ = some u2 ∧
    ((((w.setCell ⟨p, 0, none⟩ u0).setCell ⟨p, 1, none⟩ u1).setCell ⟨p, 2, none⟩ u2).setCell ⟨p, 3, none⟩ u3).cell? ⟨p, 3, none⟩ = some u3 := by
  obtain ⟨cs, t, m, hb, e3⟩ := blk_of h3
  have hl : 3 < cs.size := by
    rcases Nat.lt_or_ge 3 cs.size with h | h
    · exact h
    · rw [Array.getElem?_eq_none h] at e3; cases e3
  have hs := at_set (at_set (at_set (at_set hb 0 u0) 1 u1) 2 u2) 3 u3
  have l0 : 0 < cs.size := by omega
  have l1 : 1 < cs.size := by omega
  have l2 : 2 < cs.size := by omega
  refine ⟨at_cell hs 0 _ ?_, at_cell hs 1 _ ?_, at_cell hs 2 _ ?_, at_cell hs 3 _ ?_⟩ <;> simp [Array.getElem?_setIfInBounds, l0, l1, l2, hl]
deriving instance DecidableEq for SV
theorem slM_0 (W : World) : SlM W none 0 0 [] := ⟨rfl, Nat.le_refl _, Nat.zero_le _, by simp⟩
theorem slQ_four (w : World) (x0 x1 x2 x3 : Int) (h0 : 0 ≤ x0 ∧ x0 ≤ 18446744073709551615) (h1 : 0 ≤ x1 ∧ x1 ≤ 18446744073709551615) (h2 : 0 ≤ x2 ∧ x2 ≤ 18446744073709551615) (h3 : 0 ≤ x3 ∧ x3 ≤ 18446744073709551615) :
    SlQ (w.alloc (.cells #[.int .u64 x0, .slice none 0 0, .int .u64 x1, .slice none 0 0, .int .u64 x2, .slice none 0 0, .int .u64 x3, .slice none 0 0] 45)) (some ⟨w.heap.size, 0, none⟩) 4 4 [⟨x0, none, 0, 0⟩, ⟨x1, none, 0, 0⟩, ⟨x2, none, 0, 0⟩, ⟨x3, none, 0, 0⟩] := by
  have hb := heap_alloc_new w (.cells #[.int .u64 x0, .slice none 0 0, .int .u64 x1, .slice none 0 0, .int .u64 x2, .slice none 0 0, .int .u64 x3, .slice none 0 0] 45)
  refine ⟨rfl, Nat.le_refl _, by unfold maxLen; omega, fun i r hi => ?_⟩
  rcases i with _ | _ | _ | _ | i
  · simp at hi; subst hi
    exact ⟨⟨h0.1, h0.2, Nat.zero_le _⟩, w.heap.size, 0, rfl, at_cell hb 0 _ rfl, at_cell hb 1 _ rfl⟩
  · simp at hi; subst hi
    exact ⟨⟨h1.1, h1.2, Nat.zero_le _⟩, w.heap.size, 0, rfl, at_cell hb 2 _ rfl, at_cell hb 3 _ rfl⟩
  · simp at hi; subst hi
    exact ⟨⟨h2.1, h2.2, Nat.zero_le _⟩, w.heap.size, 0, rfl, at_cell hb 4 _ rfl, at_cell hb 5 _ rfl⟩
  · simp at hi; subst hi
    exact ⟨⟨h3.1, h3.2, Nat.zero_le _⟩, w.heap.size, 0, rfl, at_cell hb 6 _ rfl, at_cell hb 7 _ rfl⟩
  · simp at hi
theorem sh_take_lit (m : MV) (L : List (Int × Nat)) (T2 : List Int) (S' : SV) (E : Int) (h : takeS ⟨0, 3, 6, 0⟩ (decide (GoodT [17592186044416, 52776558133252] 6)) (goodM m L T2) 6 m (meetI [17592186044416, 52776558133252] 6 T2 m.te) = (S', E)) (V : World) (a : Option Addr) (hS : Sl .u64 V a 2 2 [17592186044416, 52776558133252]) (hL : SlM V m.la m.ln m.lc L) (hT2 : Sl .u64 V m.ta m.tn m.tc T2) (wT2 : IsW T2) (hn : m.ln ≤ 100) :
    Calls Try.prog 11 #[(⟨0, 3, 6, 0⟩ : SV).v, .agg #[.slice a 2 2, .int .i64 6], .agg m.cs] V fun e w' => e = .returned (.tuple #[S'.v, .int .i64 E]) ∧ Kept V w' := by
  have := ship_take ⟨0, 3, 6, 0⟩ a 2 2 [17592186044416, 52776558133252] 6 m L T2 V hS (isW_of_mem (by decide)) hL hT2 wT2 hn
  rw [h] at this
  exact this
theorem ship_solo (s : SV) (safe : Int) (w : World) : Calls Try.prog 15 #[s.v, .int .i64 safe, .bool true] w fun e w' => e = .returned (.int .i64 safe) ∧ Kept w w' := by
  unfold SV.v
  have K := kept_al w (.cells #[.int .i64 s.who, .int .i64 s.ep, .int .i64 s.nx, .int .i64 s.ak] 29)
  go_enter Try.func15, Try.ntmps15
  go_wp2
  go_ret
  exact ⟨rfl, K⟩
theorem sh_make_lit (s : SV) (T : List Int) (E : Int) (a : Option Addr) (n c : Nat) (R : List RV) (off prev : Int) (k : Nat) (h0 : offM s E = off) (h1 : prevM s T E = prev) (h2 : (pickQ off 0 R).length = k) (hg : GoodT T E ∧ okM s T E R = true) (hw : s.who = 0) (la : Option Addr) (ln lc : Nat) (V : World) (hS : Sl .u64 V a n c T) (hW : IsW T) (hR : SlQ V la ln lc R) (hnx : -9223372036854775808 ≤ s.nx) :
    Calls Try.prog 14 #[s.v, .agg #[.slice a n c, .int .i64 E], .slice la ln lc] V fun e w' => ∃ a' c', e = .returned (.tuple #[.agg #[.int .i64 1, .int .i64 0, .int .i64 1, .int .i64 s.ep, .int .i64 off, .int .i64 prev, .slice a' k c', .slice none 0 0, .int .i64 0], .int .i64 0]) ∧ Kept V w' := by
  refine (ship_make s a n c T E la ln lc R V hS hW hR hnx).mono ?_
  rintro e w' ⟨a', c', rfl, _, K⟩
  refine ⟨a', c', ?_, K⟩
  unfold makeM makeE
  rw [if_pos hg, if_pos hg]
  unfold mkM MV.cs
  rw [h0, h1, h2, hw]
  rfl
end Go.Proofs.Ytmkoabalakfehaa
