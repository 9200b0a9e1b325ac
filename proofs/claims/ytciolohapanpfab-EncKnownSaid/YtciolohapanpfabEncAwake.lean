/- The walk of the laws' own 'awake' (layer 3): it answers true, and what was there is as it was. -/
import Derived.Test.YtciolohapanpfabEncOut2
import Derived.Test.YtciolohapanpfabEncIn2
set_option linter.unusedVariables false
set_option linter.unusedSimpArgs false
namespace Go.Proofs.Ytciolohapanpfab
open Go.RowKit
theorem Only.inAt {S : List Nat} {w w' : World} {t : TypeId} {p : Nat} {zs : List Int} {bad : Bool} (h : Only S w w') (hI : InAt w t p zs bad) (hp : p ∉ S) (ha : ∀ a n c, w.heap[p]? = some (.cells #[.slice a n c, .bool bad] t (0, 0)) → inB a S) : InAt w' t p zs bad := by
  obtain ⟨a, n, c, hh, hS, hi, hB⟩ := hI
  exact ⟨a, n, c, h.heap hh hp, h.sl hS (ha a n c hh), hi, hB⟩
/-- an In that was just made over a slice -/
theorem inAt_new {w : World} {t : TypeId} {a : Option Addr} {n c : Nat} {zs : List Int} (hS : Sl .u8 w a n c zs) (hi : inB a [w.heap.size]) (hB : IsB zs) : InAt (w.alloc (.cells #[.slice a n c, .bool false] t (0, 0))) t w.heap.size zs false :=
  ⟨a, n, c, heap_alloc_new w _, ((Only.refl [] w).alloc _).sl hS (by intro x hx; simp), hi, hB⟩
set_option maxHeartbeats 400000 in
theorem awake3 (w : World) : Calls Try.prog 8 #[] w fun e w' => e = .returned (.bool true) ∧ Below w.heap.size w w' := by
  have H1 := fun W => Lib.hid (fun (h : OutAt W w.heap.size none []) => out_U w.heap.size none [] 300 W (by omega) (by omega) h (by simp))
  go_enter Try.func8, Try.ntmps8
  go_wp2_with fail
  refine ((H1 _).out (outAt_nil w)).mono ?_
  clear H1
  rintro e w1 ⟨rfl, g1, hO1, ho1, hg1⟩
  rw [show [] ++ encU 300 = [172, 2] by decide] at hO1
  obtain ⟨a, c, hp, hS, hi⟩ := outAt_sl hO1
  have k1 : Kept w w1 := (((Only.refl [] w).alloc _).then ho1 (by intro i hi hm; simp at hm; omega)).kept
  have hsz : w.heap.size < w1.heap.size := by have := ho1.size; simp at this; omega
  obtain ⟨b, o, v0, rfl, hc0, hv0⟩ := hS.at 0 (by decide)
  obtain ⟨b1, o1, v1, he, hc1, hv1⟩ := hS.at 1 (by decide)
  injection he with he
  injection he with e1 e2
  subst e1 e2
  obtain rfl : v0 = 172 := hv0.out
  obtain rfl : v1 = 2 := hv1.out
  have A := fun x y => ((Only.refl [] w1).alloc x).alloc y
  have q := fun x y => one_cell ((A x y).heap hp (by simp))
  have q0 := fun x y => ((A x y).cell (p := ⟨b, o + 0, none⟩) (World.block_lt_of_cell? w1 _ hc0) (by simp)).trans hc0
  have q1 := fun x y => ((A x y).cell (p := ⟨b, o + 1, none⟩) (World.block_lt_of_cell? w1 _ hc1) (by simp)).trans hc1
  simp only [Nat.add_zero] at q0
  have HI : ∀ W, W = w1.alloc (.cells #[.int .u8 172, .int .u8 2] 5) → Hid (InAt (W.alloc (.cells #[.slice (some ⟨w1.heap.size, 0, none⟩) 2 2, .bool false] 35)) 35 (w1.heap.size + 1) [172, 2] false) := by
    rintro _ rfl
    have := inAt_new (t := 35) (sl_lit .u8 w1 5 (0, 0) [172, 2] 2 rfl (by unfold maxLen; omega)) (by intro x hx; injection hx with hx; subst hx; simp) (isB_of_mem (by simp))
    unfold Hid
    simpa using this
  have HI' := HI _ rfl
  clear HI hO1 A hc0 hc1 hv0 hv1 hS hp hg1
  have ho2 : Kept w ((w1.alloc (.cells #[.int .u8 172, .int .u8 2] 5)).alloc (.cells #[.slice (some ⟨w1.heap.size, 0, none⟩) 2 2, .bool false] 35)) := (k1.only.alloc _).alloc _ |>.kept
  go_wp2_with fail
  refine (in_U_any (w1.heap.size + 1) ([172, 2], false) _ HI'.out).mono ?_
  rintro e w2 ⟨rfl, hI2, hO2, _, _⟩
  rw [show stU ([172, 2], false) = (300, [], false) by decide +kernel] at hI2 ⊢
  have k2 := ho2.onl hO2 (by intro i hi; simp at hi; omega)
  clear ho2 hO2
  go_wp2_with fail
  refine (in_End (w1.heap.size + 1) ([], false) _ hI2).mono ?_
  rintro e w' ⟨rfl, rfl⟩
  go_wp2
  go_ret
  exact ⟨rfl, k2⟩
end Go.Proofs.Ytciolohapanpfab
