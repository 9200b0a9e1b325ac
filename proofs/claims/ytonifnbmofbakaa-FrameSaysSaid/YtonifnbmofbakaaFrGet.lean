/- Get: the first record of bytes. -/
import Derived.Test.YtonifnbmofbakaaFrNum
import Derived.Lib.SliceRun
import Derived.Deep.QuietTactic
set_option linter.unusedVariables false
set_option linter.unusedSimpArgs false
namespace Go.Proofs.Ytonifnbmofbakaa
open Go.RowKit
theorem rdN_bd {zs : List Int} (hB : IsB zs) : ∀ k, k ≤ 8 → 0 ≤ rdN zs k ∧ rdN zs k < 2 ^ (8 * k)
  | 0, _ => ⟨Int.le_refl _, by show (0 : Int) < 2 ^ 0; decide⟩
  | k + 1, hk => by
    obtain ⟨h1, h2⟩ := rdN_bd hB k (by omega)
    have hz := hB k
    obtain ⟨p1, p2, p3⟩ := pow8 k (by omega) (zs.getD k 0) hz.1 hz.2
    have := p3 _ h1 h2
    exact ⟨by rw [rdN]; omega, by rw [rdN]; exact this.1⟩
theorem rdN_congr {zs ys : List Int} : ∀ k, (∀ i, i < k → zs.getD i 0 = ys.getD i 0) → rdN zs k = rdN ys k
  | 0, _ => rfl
  | k + 1, h => by rw [rdN, rdN, rdN_congr k (fun i hi => h i (by omega)), h k (by omega)]
theorem take_getD (zs : List Int) {k i : Nat} (h : i < k) : (zs.take k).getD i 0 = zs.getD i 0 := by simp [List.getD_eq_getElem?_getD, List.getElem?_take, h]
theorem drop_getD (zs : List Int) (k i : Nat) : (zs.drop k).getD i 0 = zs.getD (k + i) 0 := by simp [List.getD_eq_getElem?_getD, List.getElem?_drop]
theorem sl_none {k : IntKind} {w : World} {n c : Nat} {L : List Int} (h : Sl k w none n c L) : n = 0 ∧ L = [] := by
  have : n = 0 := by
    rcases Nat.eq_zero_or_pos n with h' | h'
    · exact h'
    · obtain ⟨b, o, h1, _⟩ := h.2.2.2 0 h'; cases h1
  subst this
  exact ⟨rfl, List.eq_nil_of_length_eq_zero h.1⟩
set_option maxHeartbeats 1000000 in
theorem fr_clone (a : Option Addr) (n c : Nat) (L : List Int) (w : World) (hS : Sl .u8 w a n c L) (hb : n ≤ 5000) :
    Calls Try.prog 23 #[.slice a n c] w fun e w' => ∃ a' c' g, e = .returned (.slice a' n c') ∧ App w' 5 1 (.slice a' n c') n g (bytesV L) ∧ Kept w w' ∧ (∀ k, g = some k → w.heap.size ≤ k) := by
  have hq : ∀ W, (binOp .eql 23 (.slice a n c) (.slice none 0 0)).run Try.prog W = .ok (.bool a.isNone) W := fun W => Go.Lib.run_eql_slice_nil W _ _ a n c 0 0 Try.underlying23
  have HS := Lib.hid (((Only.refl [] w).alloc (.cells #[] 5)).kept.sl hS)
  cases a with
  | none =>
    obtain ⟨rfl, rfl⟩ := sl_none hS
    clear hS
    go_enter Try.func23, Try.ntmps23
    go_wp2
    go_ret
    exact ⟨none, 0, none, rfl, app_nil _ _ _, Kept.refl _, by simp⟩
  | some x =>
    clear hS
    go_enter Try.func23, Try.ntmps23
    go_wp2_with (at_builtin; refine wpList_app rfl (.tmp 5) (.tmp 6) 23 23 rfl elemB _ 0 _ _ rfl (app_empty w _) _ n _ rfl (src_sl Try.underlying23 HS.out) (by omega) (by unfold maxLen; omega) ?_; intro a' c' g'' w1 hA2 hO2 hG2)
    rw [Nat.zero_add, List.nil_append] at hA2
    go_ret
    exact ⟨a', c', g'', rfl, hA2, ((Kept.refl w).only.alloc _ |>.then hO2 (by intro i hi hm; simp at hm; omega)).kept, by intro k hk; rcases hG2 with rfl | rfl <;> simp at hk <;> omega⟩
def recV (at' : Int) (a : Option Addr) (n c : Nat) : Value := .agg #[.int .u64 at', .slice a n c]
set_option maxRecDepth 100000 in
set_option maxHeartbeats 2000000 in
/-- too few bytes for a length -/
theorem fr_get_short (a : Option Addr) (n c : Nat) (zs : List Int) (w : World) (hS : Sl .u8 w a n c zs) (hn : n < 4) :
    Calls Try.prog 11 #[.slice a n c] w fun e w' => e = .returned (.tuple #[recV 0 none 0 0, .int .i64 0, .int .i64 3]) ∧ Kept w w' := by
  have K := (((Only.refl [] w).alloc (.cells #[.int .u64 0, .slice none 0 0] 30))).kept
  have hh := heap_alloc_new w (.cells #[.int .u64 0, .slice none 0 0] 30)
  have d0 := at_cell hh 0 _ rfl
  have d1 := at_cell hh 1 _ rfl
  have f0 := one_free hh 0
  have f1 := one_free hh 1
  have h4 : (n : Int) < 4 := by omega
  clear hS hh
  unfold recV
  go_enter Try.func11, Try.ntmps11
  go_wp2
  exact bodyPost_ret (v := .tuple #[.agg #[.int .u64 0, .slice none 0 0], .int .i64 0, .int .i64 3]) (by simp [results, Try.results11, go_sem]) rfl ⟨rfl, K⟩
set_option maxRecDepth 100000 in
set_option maxHeartbeats 2000000 in
/-- a length too great, or more than there is -/
theorem fr_get_size (a : Option Addr) (n c : Nat) (zs : List Int) (w : World) (hS : Sl .u8 w a n c zs) (hB : IsB zs) (hn : 4 ≤ n) (hn2 : n ≤ 100000) (hbad : 1024 < rdN zs 4 ∨ (n : Int) < 16 + rdN zs 4) :
    Calls Try.prog 11 #[.slice a n c] w fun e w' => e = .returned (.tuple #[recV 0 none 0 0, .int .i64 0, .int .i64 (if 1024 < rdN zs 4 then 14 else 3)]) ∧ Kept w w' := by
  have K := (((Only.refl [] w).alloc (.cells #[.int .u64 0, .slice none 0 0] 30))).kept
  have hh := heap_alloc_new w (.cells #[.int .u64 0, .slice none 0 0] 30)
  have d0 := at_cell hh 0 _ rfl
  have d1 := at_cell hh 1 _ rfl
  have f0 := one_free hh 0
  have f1 := one_free hh 1
  have h4 : 4 ≤ (n : Int) := by omega
  have hnc := hS.2.1
  have x1 := fun W => run_cut_h elemB a n c .i64 4 (4 : Int) rfl (by omega) W
  have HR := Lib.hid (fr_read a 4 c (zs.take 4) (w.alloc (.cells #[.int .u64 0, .slice none 0 0] 30)) (sl_take (K.sl hS) 4 hn) (isB_take hB 4) (by omega))
  rw [rdN_congr 4 (fun i hi => take_getD zs hi)] at HR
  have hbd := rdN_bd hB 4 (by omega)
  rw [show (2 : Int) ^ (8 * 4) = 4294967296 from rfl] at hbd
  obtain ⟨b0, b1⟩ := hbd
  clear hS hh hB
  generalize rdN zs 4 = N at *
  have hw : IntKind.i64.wrap N = N := by rw [IntKind.wrap_i64]; omega
  unfold recV
  by_cases h1 : 1024 < N
  · have hd : decide (1024 < N) = true := decide_eq_true h1
    have hv : Hid ((if 1024 < N then (14 : Int) else 3) = 14) := if_pos h1
    clear hbad
    go_enter Try.func11, Try.ntmps11
    go_wp2_with fail
    refine HR.out.mono ?_
    rintro e w' ⟨rfl, rfl⟩
    go_wp2
    exact bodyPost_ret (v := .tuple #[.agg #[.int .u64 0, .slice none 0 0], .int .i64 0, .int .i64 14]) (by simp [results, Try.results11, go_sem, d0, d1]) rfl ⟨by first | rfl | rw [hv.out], K⟩
  · have hd : decide (1024 < N) = false := decide_eq_false h1
    have h2 : (n : Int) < 16 + N := by omega
    have hd2 : decide ((n : Int) < 16 + N) = true := decide_eq_true h2
    have hv : Hid ((if 1024 < N then (14 : Int) else 3) = 3) := if_neg h1
    have h1' : N ≤ 1024 := by omega
    clear hbad
    go_enter Try.func11, Try.ntmps11
    go_wp2_with fail
    refine HR.out.mono ?_
    rintro e w' ⟨rfl, rfl⟩
    go_wp2
    exact bodyPost_ret (v := .tuple #[.agg #[.int .u64 0, .slice none 0 0], .int .i64 0, .int .i64 3]) (by simp [results, Try.results11, go_sem, d0, d1]) rfl ⟨by first | rfl | rw [hv.out], K⟩
end Go.Proofs.Ytonifnbmofbakaa
