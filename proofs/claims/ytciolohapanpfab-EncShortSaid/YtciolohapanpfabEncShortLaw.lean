/- EncShort: the law's walk. -/
import Derived.Test.YtciolohapanpfabEncAwake
set_option linter.unusedVariables false
set_option linter.unusedSimpArgs false
namespace Go.Proofs.Ytciolohapanpfab
open Go.RowKit
theorem went_new {w : World} {g : Option Nat} (h : Went w none g) {k : Nat} (hk : g = some k) : w.heap.size ≤ k := by
  rcases h with rfl | ⟨j, rfl, hj⟩
  · cases hk
  · injection hk with hk; omega
theorem lenU_next (u : Int) (h0 : 0 ≤ u) (h1 : u ≤ 18446744073709551615) : lenU u = 1 + (if 0 < u / 128 then lenU (u / 128) else 0) := by
  split
  · rw [lenU_ge u (by omega) h1]; omega
  · rw [lenU_lt u (by omega)]
set_option maxHeartbeats 1000000 in
theorem encShort_walk (x y : Int) (w : World) (x0 : 0 ≤ x) (x1 : x ≤ 18446744073709551615) (y0 : 0 ≤ y) (y1 : y ≤ 18446744073709551615) :
    Calls Try.prog 3 #[.int .u64 x, .int .u64 y] w fun e w' => e = .returned (.bool true) ∧ Below w.heap.size w w' := by
  go_enter Try.func3, Try.ntmps3
  go_wp2_with fail
  refine (awake3 _).mono ?_
  rintro e w1 ⟨rfl, k1⟩
  have K1 : Kept w w1 := k1
  clear k1
  have hX := fun W => Lib.hid (fun (h : OutAt W w1.heap.size none []) => out_U w1.heap.size none [] x W x0 x1 h (by simp))
  have hY := fun W => Lib.hid (fun (h : OutAt W (w1.heap.size + 1) none []) => out_U (w1.heap.size + 1) none [] y W y0 y1 h (by simp))
  have hO : Hid (OutAt ((w1.alloc (.cells #[.slice none 0 0] 27)).alloc (.cells #[.slice none 0 0] 27)) w1.heap.size none []) :=
    ((Only.refl [] _).alloc _).outAt (outAt_nil w1) (by simp) (by simp)
  have hP : Hid (OutAt ((w1.alloc (.cells #[.slice none 0 0] 27)).alloc (.cells #[.slice none 0 0] 27)) (w1.heap.size + 1) none []) := by
    unfold Hid; simpa using outAt_nil (w1.alloc (.cells #[.slice none 0 0] 27))
  have K2 : Kept w ((w1.alloc (.cells #[.slice none 0 0] 27)).alloc (.cells #[.slice none 0 0] 27)) := ((K1.only.alloc _).alloc _).kept
  have hs : ((w1.alloc (.cells #[.slice none 0 0] 27)).alloc (.cells #[.slice none 0 0] 27)).heap.size = w1.heap.size + 2 := by simp
  have HS := Lib.hid hs
  clear hs
  go_wp2_with fail
  generalize World.alloc (World.alloc w1 _) _ = W at *
  refine ((hX W).out hO.out).mono ?_
  clear hX
  rintro e w2 ⟨rfl, gx, oX, oo, wX⟩
  have oX' := Lib.hid oX
  have oP : Hid (OutAt w2 (w1.heap.size + 1) none []) := oo.outAt hP.out (by simp) (by simp)
  have K3 := K2.onl oo (by intro i hi; simp at hi; have := K1.size; omega)
  have hsz := oo.size
  rw [HS.out] at hsz
  clear oX oo hP hO K2
  go_wp2_with fail
  refine ((hY w2).out oP.out).mono ?_
  clear hY
  rintro e w3 ⟨rfl, gy, oY, oo, wY⟩
  have oX2 := oo.outAt oX'.out (by simp) (by intro k hk; have := went_new wX hk; rw [HS.out] at this; simp; omega)
  have K4 := K3.onl oo (by intro i hi; simp at hi; have := K1.size; omega)
  obtain ⟨a, c, hp, hS, hi⟩ := outAt_sl oX2
  obtain ⟨a', c', hp', hS', hi'⟩ := outAt_sl oY
  simp only [List.nil_append] at *
  clear oX2 oY oo oX' oP K3 hi hi' wX wY
  have c1 := one_cell hp
  have c2 := one_cell hp'
  have s1 := run_strN (P := Try.prog) 25 9 5 Try.underlying25 Try.underlying5 Try.underlying9 hS
  have s2 := run_strN (P := Try.prog) 25 9 5 Try.underlying25 Try.underlying5 Try.underlying9 hS'
  clear hp hp' hS hS'
  have bx := lenU_le x
  have by' := lenU_le y
  unfold lenU at bx by'
  have hst := Lib.hid (lenU_next x x0 x1)
  go_wp2_with fail
  go_loop [7, 8] (fun n v => ∃ (m : Nat) (u : Int), n = .int .i64 m ∧ v = .int .u64 u ∧ 0 ≤ u ∧ u ≤ 18446744073709551615 ∧ m ≤ 10 ∧ Hid (lenU x = m + if 0 < u then lenU u else 0))
    (fun _ v => (intOf v).toNat)
  case atStart => exact ⟨1, x / 128, rfl, rfl, by omega, by omega, by omega, hst.out⟩
  case round =>
    obtain ⟨m, u, rfl, rfl, u0, u1, hm, hrel⟩ := hrel
    by_cases hu : 0 < u
    · have hn := lenU_next u u0 u1
      have hr := hrel.out
      rw [if_pos hu, hn] at hr
      have hl := (lenU_le x).2
      have HR := Lib.hid hr
      have hm' : m + 1 ≤ 10 := by omega
      clear hn hr hrel hl
      go_wp2
      go_round
      case rel => exact ⟨m + 1, u / 128, by go_num, rfl, by omega, by omega, hm', by unfold Hid; rw [HR.out]; omega⟩
      case measure => simp [intOf]; omega
    · obtain rfl : u = 0 := by omega
      have hr := hrel.out
      rw [if_neg (by omega), Nat.add_zero] at hr
      unfold lenU at hr
      subst hr
      clear hrel
      have ne : x ≠ y → strOf (encU x) ≠ strOf (encU y) := fun h e => h ((encU_inj x y x0 y0).1 (strOf_inj (isB_of_mem (encU_byte x x0 x1)) (isB_of_mem (encU_byte y y0 y1)) e))
      have NE := Lib.hid ne
      clear ne
      rcases Int.lt_trichotomy x y with hlt | heq | hgt
      · have h1 : decide (y < x) = false := by simp; omega
        have h2 : ((encU x).length : Int) ≤ (encU y).length := by have := lenU_mono x y (by omega); unfold lenU at this; omega
        have h3 : (x == y) = false := by simp; omega
        have h4 := str_ne (NE.out (by omega))
        clear hlt
        go_wp2_with fail
        go_quiet (fail)
        go_wp2
        go_ret
        exact ⟨rfl, below_drewN K4 _⟩
      · subst heq
        go_wp2_with fail
        go_quiet (fail)
        go_wp2
        go_ret
        exact ⟨rfl, below_drewN K4 _⟩
      · have h1 : decide (y < x) = true := by simp; omega
        have h3 : (x == y) = false := by simp; omega
        have h4 := str_ne (NE.out (by omega))
        clear hgt
        go_wp2_with fail
        go_quiet (fail)
        go_wp2
        go_ret
        exact ⟨rfl, below_drewN K4 _⟩
end Go.Proofs.Ytciolohapanpfab
