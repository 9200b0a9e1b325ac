/- The walks of enc.Out: what is written stands behind what stood there. -/
import Derived.Test.YteaepgbakcifkaaDoorBytes
import Derived.Test.YteaepgbakcifkaaDoorEncMath
set_option linter.unusedVariables false
set_option linter.unusedSimpArgs false
namespace Go.Proofs.YteaepgbakcifkaaDoor
open Go.RowKit
/-- the Out at block p holds a slice of the call's own that reads xs and lies in block g -/
def OutAt (w : World) (p : Nat) (g : Option Nat) (xs : List Int) : Prop :=
  ∃ a c, w.heap[p]? = some (.cells #[.slice a xs.length c] 48 (0, 0)) ∧ AppF w 5 1 (.slice a xs.length c) xs.length g (bytesV xs) ∧ g ≠ some p
theorem outAt_store {w1 : World} {p n c' : Nat} {v : Value} {a' : Option Addr} {g'' : Option Nat} {xs' : List Int} (q0 : w1.heap[p]? = some (.cells #[v] 48 (0, 0))) (hA : AppF w1 5 1 (.slice a' n c') n g'' (bytesV xs')) (hg : g'' ≠ some p) :
    OutAt (w1.setCell ⟨p, 0, none⟩ (.slice a' n c')) p g'' xs' := by
  have hn : xs'.length = n := by have := hA.len; simpa [bytesV] using this
  subst hn
  exact ⟨a', c', one_set q0 _, ((Only.refl [p] w1).setCell (p := ⟨p, 0, none⟩) (by simp) _).appF hA (by rintro k rfl hm; simp at hm; exact hg (by rw [hm])), hg⟩
/-- where the row of the Out went: it stayed, or it is new -/
theorem row_next {g g' g'' : Option Nat} {w wr w1 : World} (hw : w.heap.size ≤ wr.heap.size) (h1 : g' = g ∨ ∃ k, g' = some k ∧ w.heap.size ≤ k) (h2 : g'' = g' ∨ g'' = some w1.heap.size) (hs : wr.heap.size ≤ w1.heap.size) : g'' = g ∨ ∃ k, g'' = some k ∧ w.heap.size ≤ k := by
  rcases h2 with rfl | rfl
  · exact h1
  · exact .inr ⟨_, rfl, Nat.le_trans hw hs⟩
theorem or128 (v : Int) (h0 : 0 ≤ v) : bits BinOp.or IntKind.u8 (v % 256) 128 = v % 128 + 128 := by
  obtain ⟨n, rfl⟩ := Int.eq_ofNat_of_zero_le h0
  have e : ((n : Int) % 256) = ((n % 256 : Nat) : Int) := by omega
  rw [e, show (128 : Int) = ((128 : Nat) : Int) from rfl, u8_or_nat (n % 256) 128 (by omega) (by omega)]
  have h : ∀ m : Nat, m < 256 → m ||| 128 = m % 128 + 128 := by decide +kernel
  rw [h _ (by omega)]
  omega
set_option maxHeartbeats 1000000 in
theorem out_U (p : Nat) (g : Option Nat) (xs : List Int) (x : Int) (w : World) (h0 : 0 ≤ x) (h1 : x ≤ 18446744073709551615) (hO : OutAt w p g xs) (hb : xs.length ≤ 70368744177664) :
    Calls Tryd.prog 22 #[.pointer (some ⟨p, 0, none⟩), .int .u64 x] w fun e w' => e = .returned (.tuple #[]) ∧ ∃ g', OutAt w' p g' (xs ++ encU x) ∧ Only (p :: g.toList) w w' ∧ (g' = g ∨ ∃ k, g' = some k ∧ w.heap.size ≤ k) := by
  have hpw : p < w.heap.size := by obtain ⟨a, c, hp, _⟩ := hO; exact lt_heap hp
  go_enter Tryd.func22, Tryd.ntmps22
  go_wp2_with fail
  go_loopw [1] (fun v wr => ∃ (u : Int) (pre : List Int) (g' : Option Nat), 0 ≤ u ∧ u ≤ 18446744073709551615 ∧ v = .int .u64 u ∧ OutAt wr p g' pre ∧ Hid (pre ++ encU u = xs ++ encU x) ∧ Only (p :: g.toList) w wr ∧ (g' = g ∨ ∃ k, g' = some k ∧ w.heap.size ≤ k))
    (fun v _ => (intOf v).toNat)
  case atStart => exact ⟨x, xs, g, h0, h1, rfl, hO, rfl, Only.refl _ _, .inl rfl⟩
  case round =>
    obtain ⟨u, pre, g', u0, u1, rfl, ⟨a, c, hp, happ, hg⟩, hpre, ho, hg'⟩ := hrel
    have hcell := one_cell hp
    have hpg : p ∉ g'.toList := by intro hm; simp at hm; exact hg hm
    have hl : pre.length + 1 ≤ xs.length + 10 := by
      have e := congrArg List.length hpre.out
      have e1 := (lenU_le u).1
      have e2 := (lenU_le x).2
      unfold lenU at e1 e2
      simp only [List.length_append] at e
      omega
    have hgw : ∀ i, i < w.heap.size → i ∈ g'.toList → i ∈ p :: g.toList := by
      intro i hi hm
      rcases hg' with rfl | ⟨k, rfl, hk⟩
      · exact List.mem_cons_of_mem _ hm
      · simp at hm; omega
    by_cases hu : 128 ≤ u
    · have hor := or128 u u0
      have huw : (128 : Int) ≤ u := hu
      go_wp2_with (at_builtin; refine wpList_appF rfl _ _ 27 27 rfl elemB _ _ g' _ rfl ((Only.alloc (Only.refl [] wr) _).appF happ (by simp)) _ 1 _ rfl (src_block Tryd.underlying27 (heap_alloc_new wr _) 1 1 rfl (by simp [Value.oneCell'])) (by omega) (by unfold maxLen; omega) ?_; intro a' c' g'' w1 hA hO' hG; have q0 := hO'.heap (heap_keep hp _) hpg; have q1 := one_cell q0; have q2 := one_free q0 0)
      have hpn : g'' ≠ some p := by
        rcases hG with rfl | rfl
        · exact hg
        · intro e; simp at e; have := lt_heap hp; omega
      have hA' : AppF w1 5 1 (.slice a' (pre.length + 1) c') (pre.length + 1) g'' (bytesV (pre ++ [u % 128 + 128])) := by rw [bytesV_append]; exact hA
      refine ⟨⟨u / 128, pre ++ [u % 128 + 128], g'', by omega, by omega, rfl, outAt_store q0 hA' hpn, ?_, ?_, row_next ho.size hg' hG (by simp)⟩, by simp [intOf]; omega⟩
      · have e := hpre.out
        rw [encU_ge u hu u1] at e
        unfold Hid
        rw [← e]; simp
      · exact ((ho.alloc _).then hO' hgw).setCell (by simp) _
    · have hu' : u < 128 := by omega
      have hub : u % 256 = u := by omega
      go_wp2_with (at_builtin; refine wpList_appF rfl _ _ 27 27 rfl elemB _ _ g' _ rfl ((Only.alloc (Only.refl [] wr) _).appF happ (by simp)) _ 1 _ rfl (src_block Tryd.underlying27 (heap_alloc_new wr _) 1 1 rfl (by simp [Value.oneCell'])) (by omega) (by unfold maxLen; omega) ?_; intro a' c' g'' w1 hA hO' hG; have q0 := hO'.heap (heap_keep hp _) hpg; have q1 := one_cell q0; have q2 := one_free q0 0)
      go_end0
      have hpn : g'' ≠ some p := by
        rcases hG with rfl | rfl
        · exact hg
        · intro e; simp at e; have := lt_heap hp; omega
      have hA' : AppF w1 5 1 (.slice a' (pre.length + 1) c') (pre.length + 1) g'' (bytesV (pre ++ [u])) := by rw [bytesV_append]; exact hA
      refine ⟨rfl, g'', ?_, ((ho.alloc _).then hO' hgw).setCell (by simp) _, row_next ho.size hg' hG (by simp)⟩
      rw [← hpre.out, encU_lt u hu']
      exact outAt_store q0 hA' hpn
end Go.Proofs.YteaepgbakcifkaaDoor
