/- EncBack: the law's walk. -/
import Derived.Test.YtciolohapanpfabEncAwake
set_option linter.unusedVariables false
set_option linter.unusedSimpArgs false
namespace Go.Proofs.Ytciolohapanpfab
open Go.RowKit
theorem encU_len (v : Int) : 1 ≤ (encU v).length ∧ (encU v).length ≤ 10 := lenU_le v
theorem isB_encU (v : Int) (h0 : 0 ≤ v) (h1 : v ≤ 18446744073709551615) : IsB (encU v) := isB_of_mem (encU_byte v h0 h1)
theorem isB_encS (s : ByteArray) (hs : s.size ≤ 35184372088832) : IsB (encS (ofStr s)) := isB_append (isB_encU _ (by omega) (by rw [ofStr_len]; omega)) (ofStr_isB s)
/-- an Out that was made over a literal that is full -/
theorem outAt_full (w : World) (x : Int) (m : Nat × Nat) : OutAt ((w.alloc (.cells #[.int .u8 x] 5 m)).alloc (.cells #[.slice (some ⟨w.heap.size, 0, none⟩) 1 1] 27)) (w.heap.size + 1) (some w.heap.size) [x] := by
  have h : AppF (w.alloc (.cells #[.int .u8 x] 5 m)) 5 1 (.slice (some ⟨w.heap.size, 0, none⟩) 1 1) 1 (some w.heap.size) (bytesV [x]) := by
    refine .inr ⟨w.heap.size, 0, rfl, rfl, by unfold maxLen; omega, rfl, by simp, fun j u hu => ?_⟩
    rw [cell_of_row _ _ _ _ _ _ (heap_alloc_new w _), Nat.zero_add]
    simpa [bytesV] using hu
  refine ⟨some ⟨w.heap.size, 0, none⟩, 1, ?_, ((Only.refl [] _).alloc _).appF h (by simp), by simp⟩
  have := heap_alloc_new (w.alloc (.cells #[.int .u8 x] 5 m)) (.cells #[.slice (some ⟨w.heap.size, 0, none⟩) 1 1] 27)
  simpa using this
/-- an In that was made over a slice of the call's own -/
theorem inAt_app {w : World} {a : Option Addr} {n c : Nat} {g : Option Nat} {L : List Int} (h : App w 5 1 (.slice a n c) n g (bytesV L)) (hB : IsB L) : InAt (w.alloc (.cells #[.slice a n c, .bool false] 35 (0, 0))) 35 w.heap.size L false := by
  obtain ⟨h1, h2⟩ := app_sl h
  refine inAt_new h1 (fun x hx hm => ?_) hB
  have := h.lt _ (h2 x hx)
  simp at hm
  omega
set_option maxRecDepth 100000 in
set_option maxHeartbeats 2000000 in
theorem encBack_walk (u v cut : Int) (s : ByteArray) (w : World) (u0 : 0 ≤ u) (u1 : u ≤ 18446744073709551615) (v0 : -9223372036854775808 ≤ v) (v1 : v ≤ 9223372036854775807) (hs : s.size ≤ 300) :
    Calls Try.prog 4 #[.int .u64 u, .int .i64 v, .string s, .int .i64 cut] w fun e w' => e = .returned (.bool true) ∧ Below w.heap.size w w' := by
  have kc := fun (w : World) (C : Array Value) (n c : Nat) => Lib.run_convert_bytes_const (P := Try.prog) w 25 5 C n c Try.underlying25 Try.underlying5
  go_enter Try.func4, Try.ntmps4
  go_wp2_with fail
  refine (awake3 _).mono ?_
  rintro e w1 ⟨rfl, k1⟩
  have K1 : Kept w w1 := k1
  clear k1
  have hO := Lib.hid (outAt_full w1 120 (1, 2))
  have K2 : Kept w ((w1.alloc (.cells #[.int .u8 120] 5 (1, 2))).alloc (.cells #[.slice (some ⟨w1.heap.size, 0, none⟩) 1 1] 27)) := ((K1.only.alloc _).alloc _).kept
  have hsz : w.heap.size ≤ w1.heap.size := K1.size
  have hcu := fun W => Lib.hid (fun (h : OutAt W (w1.heap.size + 1) (some w1.heap.size) [120]) => out_U (w1.heap.size + 1) (some w1.heap.size) [120] u W u0 u1 h (by simp))
  go_wp2_with fail
  generalize World.alloc (World.alloc w1 _) _ = W at *
  refine ((hcu _).out hO.out).mono ?_
  clear hcu
  rintro e w2 ⟨rfl, g2, oO, oo, wg⟩
  have K3 := K2.onl oo (by intro i hi; simp at hi; omega)
  have hg2 : ∀ i, i ∈ g2.toList → w.heap.size ≤ i := by
    intro i hi
    have := K2.size
    rcases wg with rfl | ⟨k, rfl, hk⟩ <;> simp at hi <;> omega
  have lu := encU_len u
  have hci := fun W => Lib.hid (fun (h : OutAt W (w1.heap.size + 1) g2 ([120] ++ encU u)) => out_I (w1.heap.size + 1) g2 ([120] ++ encU u) v W v0 v1 h (by simp; omega))
  have hO2 := Lib.hid oO
  clear oO oo wg hO K2
  go_wp2_with fail
  refine ((hci _).out hO2.out).mono ?_
  clear hci
  rintro e w3 ⟨rfl, g3, oO, oo, wg⟩
  have K4 := K3.onl oo (by intro i hi; simp at hi; rcases hi with rfl | hi; omega; exact hg2 i (by simpa using hi))
  have hg3 : ∀ i, i ∈ g3.toList → w.heap.size ≤ i := by
    intro i hi
    have := K3.size
    rcases wg with rfl | ⟨k, rfl, hk⟩
    · exact hg2 i hi
    · simp at hi; omega
  have lv := encU_len (fold v)
  have hcs := fun W => Lib.hid (fun (h : OutAt W (w1.heap.size + 1) g3 ([120] ++ encU u ++ encU (fold v))) => out_S (w1.heap.size + 1) g3 ([120] ++ encU u ++ encU (fold v)) s W h (by simp; omega) (by omega))
  have hO3 := Lib.hid oO
  clear oO oo wg hO2 K3 hg2
  go_wp2_with fail
  refine ((hcs _).out hO3.out).mono ?_
  clear hcs
  rintro e w4 ⟨rfl, g4, oO, oo, wg⟩
  have K5 := K4.onl oo (by intro i hi; simp at hi; rcases hi with rfl | hi; omega; exact hg3 i (by simpa using hi))
  have hsz4 : w1.heap.size + 1 < w4.heap.size := by obtain ⟨a, c, hp, _⟩ := oO; exact lt_heap hp
  have hfull : [120] ++ encU u ++ encU (fold v) ++ encS (ofStr s) = 120 :: (encU u ++ (encU (fold v) ++ encS (ofStr s))) := by simp
  rw [hfull] at oO
  have lS : (encS (ofStr s)).length ≤ 310 ∧ 1 ≤ (encS (ofStr s)).length := by
    have := encU_len (ofStr s).length
    unfold encS
    rw [List.length_append, ofStr_len] at *
    omega
  have hrun := fun k hk => run3_cut u v (ofStr s) k u0 u1 v0 v1 (by rw [ofStr_len]; omega) hk
  have HR := Lib.hid hrun
  have hB : IsB (encU u ++ (encU (fold v) ++ encS (ofStr s))) := isB_append (isB_encU u u0 u1) (isB_append (isB_encU _ (fold_bd v v0 v1).1 (fold_bd v v0 v1).2) (isB_encS s (by omega)))
  have hlen : 3 ≤ (encU u ++ (encU (fold v) ++ encS (ofStr s))).length ∧ (encU u ++ (encU (fold v) ++ encS (ofStr s))).length ≤ 400 := by
    simp only [List.length_append]; omega
  have q1 := stU_enc u (encU (fold v) ++ encS (ofStr s)) u0 u1
  have q2 := stI_enc v (encS (ofStr s)) v0 v1
  have q3 := stS_enc (ofStr s) [] 300 (by rw [ofStr_len]; omega) (by rw [ofStr_len]; omega)
  rw [List.append_nil] at q3
  have Q1 := Lib.hid q1
  have Q2 := Lib.hid q2
  have Q3 := Lib.hid q3
  clear q1 q2 q3 hrun hfull
  generalize hL : encU u ++ (encU (fold v) ++ encS (ofStr s)) = L at *
  have HL := Lib.hid hL
  clear hL lu lv lS hO3 K4 hg3 wg oo
  obtain ⟨a, c, hp, hS, hi⟩ := outAt_sl oO
  clear oO
  have hln : (120 :: L).length = L.length + 1 := rfl
  rw [hln] at hp hS
  have hcm := hS.2.2.1
  have hnc := hS.2.1
  unfold maxLen at hcm
  generalize L.length = n at *
  have hc0 := one_cell hp
  obtain ⟨b, o, x0, rfl, hx0, hxv⟩ := hS.at 0 (by omega)
  obtain rfl : x0 = 120 := hxv.out
  rw [Nat.add_zero] at hx0
  have hn3 : (3 : Int) ≤ n := by omega
  have HS := Lib.hid hS
  clear hS hxv
  have hs1 := fun W => run_cut_l elemB (some ⟨b, o, none⟩) (n + 1) c .i64 1 1 rfl (by omega) W
  rw [show n + 1 - 1 = n by omega] at hs1
  have hcs : Sl .u8 w4 (cutA (some ⟨b, o, none⟩) c 1 1) n (c - 1) L := by
    have := sl_cut HS.out 1 (n + 1) (by omega) (Nat.le_refl _)
    rw [List.take_of_length_le (by rw [HS.out.1]; exact Nat.le_refl _)] at this
    simpa using this
  have HCS := Lib.hid hcs
  clear hcs
  go_wp2_with (at_builtin; refine wpList_app rfl _ _ 25 25 rfl elemB _ 0 _ _ rfl (app_empty w4 _) _ n _ rfl (src_sl Try.underlying25 (((Only.refl [] w4).alloc _).sl HCS.out (by intro x _; simp))) (by omega) (by unfold maxLen; omega) ?_; intro a5 c5 g5 w5 hA5 hO5 hG5; simp only [Nat.zero_add, List.nil_append] at hA5; rw [Nat.zero_add])
  have KK5 : Kept w4 w5 := ((((Only.refl [] w4).alloc _).then hO5 (by intro i hi hm; simp at hm; omega))).kept
  have hI6 := Lib.hid (inAt_app hA5 hB)
  have KK6 : Kept w4 (w5.alloc (.cells #[.slice a5 n c5, .bool false] 35)) := (KK5.only.alloc _).kept
  have hsz5 := KK5.size
  clear KK5 hO5 hG5 hA5
  generalize World.alloc w5 _ = w6 at *
  refine (in_U_any w5.heap.size (L, false) _ hI6.out).mono ?_
  rintro e w7 ⟨rfl, hI7, hO7, _, _⟩
  have KK7 := KK6.onl hO7 (by intro i hi; simp at hi; omega)
  rw [show stU (L, false) = (u, encU (fold v) ++ encS (ofStr s), false) from Q1.out] at hI7 ⊢
  have HI7 := Lib.hid hI7
  clear hI7 hI6 hO7 KK6
  go_wp2_with fail
  refine (in_I w5.heap.size (encU (fold v) ++ encS (ofStr s), false) _ HI7.out).mono ?_
  rintro e w8 ⟨rfl, hI7, hO7⟩
  have KK8 := KK7.onl hO7 (by intro i hi; simp at hi; omega)
  rw [show stI (encU (fold v) ++ encS (ofStr s), false) = (v, encS (ofStr s), false) from Q2.out] at hI7 ⊢
  have HI8 := Lib.hid hI7
  clear hI7 HI7 hO7 KK7
  go_wp2_with fail
  refine (in_S w5.heap.size (encS (ofStr s), false) 300 _ (by omega) (by omega) HI8.out).mono ?_
  rintro e w9 ⟨rfl, hI7, hO7⟩
  have KK9 := KK8.onl hO7 (by intro i hi; simp at hi; omega)
  rw [show stS 300 (encS (ofStr s), false) = (ofStr s, [], false) from Q3.out] at hI7 ⊢
  rw [show strOf (ofStr s, ([] : List Int), false).1 = s from strOf_ofStr s]
  have HI9 := Lib.hid hI7
  clear hI7 HI8 hO7 KK8
  go_wp2_with fail
  refine (in_End w5.heap.size ([], false) _ HI9.out).mono ?_
  rintro e w' ⟨rfl, rfl⟩
  have hp9 := KK9.only.heap hp (by simp)
  have hc9 := one_cell hp9
  have hsz9 := lt_heap hp9
  have K9 := K5.trans KK9
  have HS9 := Lib.hid (KK9.sl HS.out)
  clear HI9 KK9 hp hc0 HS K5 HCS hx0
  by_cases h1 : cut < 0
  · go_wp2
    go_ret
    exact ⟨rfl, K9⟩
  · have h1' : 0 ≤ cut := by omega
    by_cases h2 : (n : Int) ≤ cut
    · have h2' : (n : Int) + 1 - 1 ≤ cut := by omega
      go_wp2
      go_ret
      exact ⟨rfl, K9⟩
    · obtain ⟨k, rfl⟩ := Int.eq_ofNat_of_zero_le h1'
      have h2' : (k : Int) < (n : Int) + 1 - 1 := by omega
      have hkn : k < n := by omega
      have hs2 := fun W => run_cut_lh elemB (some ⟨b, o, none⟩) (n + 1) c .i64 .i64 1 (1 + k) 1 (1 + (k : Int)) rfl (by omega) (by omega) (by omega) W
      rw [show 1 + k - 1 = k by omega] at hs2
      have hcs2 : Sl .u8 w9 (cutA (some ⟨b, o, none⟩) c 1 1) k (c - 1) (L.take k) := by
        have := sl_cut HS9.out 1 (1 + k) (by omega) (by omega)
        rw [show 1 + k - 1 = k by omega, Nat.add_comm 1 k, List.take_succ_cons] at this
        simpa using this
      have HCS2 := Lib.hid hcs2
      clear hcs2
      go_wp2_with (at_builtin; refine wpList_app rfl _ _ 25 25 rfl elemB _ 0 _ _ rfl (app_empty w9 _) _ k _ rfl (src_sl Try.underlying25 (((Only.refl [] w9).alloc _).sl HCS2.out (by intro x _; simp))) (by omega) (by unfold maxLen; omega) ?_; intro a10 c10 g10 w10 hA10 hO10 hG10; simp only [Nat.zero_add, List.nil_append] at hA10; rw [Nat.zero_add])
      have K10 : Kept w w10 := ((K9.only.alloc _).then hO10 (by intro i hi hm; simp at hm; have := K9.size; omega)).kept
      have hI11 := Lib.hid (inAt_app hA10 (isB_take hB k))
      have K11 : Kept w (w10.alloc (.cells #[.slice a10 k c10, .bool false] 35)) := (K10.only.alloc _).kept
      have hsz10 := K10.size
      have hrb := Lib.hid (HR.out k hkn)
      clear K10 hO10 hG10 hA10 HR hs1 hs2 HCS2 HS9 K9
      generalize World.alloc w10 _ = w11 at *
      refine (in_U_any w10.heap.size (L.take k, false) _ hI11.out).mono ?_
      rintro e w12 ⟨rfl, hI, hO, _, _⟩
      have K12 := K11.onl hO (by intro i hi; simp at hi; omega)
      have HI12 := Lib.hid hI
      clear hI hO hI11 K11
      go_wp2_with fail
      refine (in_I w10.heap.size (stU (L.take k, false)).2 _ HI12.out).mono ?_
      rintro e w13 ⟨rfl, hI, hO⟩
      have K13 := K12.onl hO (by intro i hi; simp at hi; omega)
      have HI13 := Lib.hid hI
      clear hI hO HI12 K12
      go_wp2_with fail
      refine (in_S w10.heap.size (stI (stU (L.take k, false)).2).2 300 _ (by omega) (by omega) HI13.out).mono ?_
      rintro e w14 ⟨rfl, hI, hO⟩
      have K14 := K13.onl hO (by intro i hi; simp at hi; omega)
      have hI14 : InAt w14 35 w10.heap.size (run3 (L.take k, false)).1 (run3 (L.take k, false)).2 := hI
      rw [hrb.out] at hI14
      have HI14 := Lib.hid hI14
      obtain ⟨a14, n14, c14, hp14, _⟩ := hI14
      have hc14 := at_cell hp14 1 _ rfl
      clear hI hO HI13 K13
      go_wp2_with fail
      refine (in_End w10.heap.size ((run3 (L.take k, false)).1, true) _ HI14.out).mono ?_
      rintro e w' ⟨rfl, rfl⟩
      go_wp2
      go_ret
      exact ⟨rfl, K14⟩
set_option maxRecDepth 100000 in
set_option maxHeartbeats 1000000 in
theorem encBack_long (u v cut : Int) (s : ByteArray) (w : World) (hs : 300 < s.size) :
    Calls Try.prog 4 #[.int .u64 u, .int .i64 v, .string s, .int .i64 cut] w fun e w' => e = .returned (.bool true) ∧ Below w.heap.size w w' := by
  have hs' : (300 : Int) < s.size := by omega
  go_enter Try.func4, Try.ntmps4
  go_wp2_with (go_at_call 8; refine (awake3 _).mono ?_; rintro e w1 ⟨rfl, K1⟩)
  go_ret
  exact ⟨rfl, K1⟩
end Go.Proofs.Ytciolohapanpfab
