/- EncKnown: the law's walk. -/
import Derived.Test.YtciolohapanpfabEncIn2
import Derived.Test.YtciolohapanpfabEncBackLaw
import Derived.Deep.RegionHeld3
set_option linter.unusedVariables false
set_option linter.unusedSimpArgs false
namespace Go.Proofs.Ytciolohapanpfab
open Go.RowKit
/-- an In that stands in a block newer than all that w has -/
def InK (w W : World) (p : Nat) (s : St) : Prop := InAt W 35 p s.1 s.2 ∧ Kept w W ∧ w.heap.size ≤ p
def OutK (w W : World) (p : Nat) (xs : List Int) : Prop := ∃ g, OutAt W p g xs ∧ Kept w W ∧ w.heap.size ≤ p ∧ ∀ i, i ∈ g.toList → w.heap.size ≤ i
theorem OutK.next {w W W' : World} {p : Nat} {g g' : Option Nat} {xs : List Int} (hO : OutAt W' p g' xs) (o : Only (p :: g.toList) W W') (wg : g' = g ∨ ∃ k, g' = some k ∧ W.heap.size ≤ k) (K : Kept w W) (hp : w.heap.size ≤ p) (hg : ∀ i, i ∈ g.toList → w.heap.size ≤ i) : OutK w W' p xs := by
  refine ⟨g', hO, K.onl o ?_, hp, ?_⟩
  · intro i hi
    rcases List.mem_cons.1 hi with rfl | hi
    · exact hp
    · exact hg i hi
  · intro i hi
    have := K.size
    rcases wg with rfl | ⟨k, rfl, hk⟩
    · exact hg i hi
    · simp at hi; omega
theorem outK_U (p : Nat) (xs : List Int) (x : Int) (w W : World) (h0 : 0 ≤ x) (h1 : x ≤ 18446744073709551615) (h : OutK w W p xs) (hb : xs.length ≤ 1000) :
    Calls Try.prog 9 #[.pointer (some ⟨p, 0, none⟩), .int .u64 x] W fun e W' => e = .returned (.tuple #[]) ∧ OutK w W' p (xs ++ encU x) := by
  obtain ⟨g, hO, K, hp, hg⟩ := h
  exact (out_U p g xs x W h0 h1 hO (by omega)).mono fun e W' ⟨he, g', h2, o, wg⟩ => ⟨he, OutK.next h2 o wg K hp hg⟩
theorem outK_I (p : Nat) (xs : List Int) (v : Int) (w W : World) (h0 : -9223372036854775808 ≤ v) (h1 : v ≤ 9223372036854775807) (h : OutK w W p xs) (hb : xs.length ≤ 1000) :
    Calls Try.prog 10 #[.pointer (some ⟨p, 0, none⟩), .int .i64 v] W fun e W' => e = .returned (.tuple #[]) ∧ OutK w W' p (xs ++ encU (fold v)) := by
  obtain ⟨g, hO, K, hp, hg⟩ := h
  exact (out_I p g xs v W h0 h1 hO (by omega)).mono fun e W' ⟨he, g', h2, o, wg⟩ => ⟨he, OutK.next h2 o wg K hp hg⟩
theorem outK_S (p : Nat) (xs : List Int) (s : ByteArray) (w W : World) (h : OutK w W p xs) (hb : xs.length ≤ 1000) (hs : s.size ≤ 1000) :
    Calls Try.prog 11 #[.pointer (some ⟨p, 0, none⟩), .string s] W fun e W' => e = .returned (.tuple #[]) ∧ OutK w W' p (xs ++ encS (ofStr s)) := by
  obtain ⟨g, hO, K, hp, hg⟩ := h
  exact (out_S p g xs s W hO (by omega) (by omega)).mono fun e W' ⟨he, g', h2, o, wg⟩ => ⟨he, OutK.next h2 o wg K hp hg⟩
theorem InK.next {w W W' : World} {p : Nat} {s s' : St} (h : InK w W p s) (hI : InAt W' 35 p s'.1 s'.2) (o : Only [p] W W') : InK w W' p s' :=
  ⟨hI, h.2.1.onl o (by intro i hi; simp at hi; rw [hi]; exact h.2.2), h.2.2⟩
theorem inK_U (p : Nat) (s : St) (w W : World) (h : InK w W p s) :
    Calls Try.prog 12 #[.pointer (some ⟨p, 0, none⟩)] W fun e W' => e = .returned (.int .u64 (stU s).1) ∧ InK w W' p (stU s).2 :=
  (in_U_any p s W h.1).mono fun e W' ⟨he, hI, o, _, _⟩ => ⟨he, h.next hI o⟩
theorem inK_I (p : Nat) (s : St) (w W : World) (h : InK w W p s) :
    Calls Try.prog 13 #[.pointer (some ⟨p, 0, none⟩)] W fun e W' => e = .returned (.int .i64 (stI s).1) ∧ InK w W' p (stI s).2 :=
  (in_I p s W h.1).mono fun e W' ⟨he, hI, o⟩ => ⟨he, h.next hI o⟩
theorem inK_S (p : Nat) (s : St) (m : Int) (w W : World) (hm0 : -9223372036854775808 ≤ m) (hm1 : m ≤ 9223372036854775807) (h : InK w W p s) :
    Calls Try.prog 14 #[.pointer (some ⟨p, 0, none⟩), .int .i64 m] W fun e W' => e = .returned (.string (strOf (stS m s).1)) ∧ InK w W' p (stS m s).2 :=
  (in_S p s m W hm0 hm1 h.1).mono fun e W' ⟨he, hI, o⟩ => ⟨he, h.next hI o⟩
theorem inK_Small (p : Nat) (s : St) (m : Int) (w W : World) (hm0 : 0 ≤ m) (hm1 : m ≤ 18446744073709551615) (h : InK w W p s) :
    Calls Try.prog 19 #[.pointer (some ⟨p, 0, none⟩), .int .u64 m] W fun e W' => e = .returned (.int .i64 (stSmall m s).1) ∧ InK w W' p (stSmall m s).2 :=
  (in_Small p s m W hm0 hm1 h.1).mono fun e W' ⟨he, hI, o⟩ => ⟨he, h.next hI o⟩
theorem inK_lit (zs : List Int) (n : Nat) (m : Nat × Nat) (hn : zs.length = n) (hm : n ≤ 100) (hB : ∀ x ∈ zs, 0 ≤ x ∧ x ≤ 255) (W : World) :
    InK W ((W.alloc (.cells (zs.map (Value.int .u8)).toArray 5 m)).alloc (.cells #[.slice (some ⟨W.heap.size, 0, none⟩) n n, .bool false] 35 (0, 0))) (W.heap.size + 1) (zs, false) := by
  have h := inAt_new (t := 35) (sl_lit .u8 W 5 m zs n hn (by unfold maxLen; omega)) (by intro x hx; simp at hx; subst hx; simp) (isB_of_mem hB)
  refine ⟨?_, ((((Only.refl [] W).alloc _).alloc _)).kept, by omega⟩
  simpa using h
theorem InK.bad {w W : World} {p : Nat} {s : St} {b : Bool} (h : InK w W p s) (hb : s.2 = b) : W.cell? ⟨p, 1, none⟩ = some (.bool b) := by
  obtain ⟨⟨a, n, c, hp, _⟩, _⟩ := h
  rw [hb] at hp
  exact at_cell hp 1 _ rfl
set_option maxHeartbeats 1000000 in
theorem bad_yes (a : Option Addr) (n c : Nat) (zs : List Int) (w : World) (hS : Sl .u8 w a n c zs) (hB : IsB zs) (ha : ∀ x, a = some x → x.block < w.heap.size) (hu : stU (zs, false) = (0, [], true)) :
    Calls Try.prog 21 #[.slice a n c] w fun e w' => e = .returned (.bool true) ∧ Kept w w' := by
  have hI := Lib.hid (inAt_new (t := 35) hS (by intro x hx hm; have := ha _ hx; simp at hm; omega) hB)
  have K2 : Kept w (w.alloc (.cells #[.slice a n c, .bool false] 35 (0, 0))) := ((Only.refl [] w).alloc _).kept
  clear hS hB
  go_enter Try.func21, Try.ntmps21
  go_wp2_with fail
  refine (in_U_any w.heap.size (zs, false) _ hI.out).mono ?_
  rw [hu]
  rintro e w2 ⟨rfl, hI2, hO2, _, _⟩
  have K3 := K2.onl hO2 (by intro i hi; simp at hi; omega)
  have HI2 := Lib.hid hI2
  obtain ⟨a2, n2, c2, hp, hS2, _, _⟩ := hI2
  have hn2 : n2 = 0 := by have := hS2.1; simpa using this.symm
  subst hn2
  have c0 : w2.cell? ⟨w.heap.size, 0, none⟩ = some (.slice a2 0 c2) := at_cell hp 0 _ rfl
  have c1 : w2.cell? ⟨w.heap.size, 1, none⟩ = some (.bool true) := at_cell hp 1 _ rfl
  clear hO2 K2 hI hS2 hp
  go_wp2_with fail
  refine (in_End w.heap.size ([], true) _ HI2.out).mono ?_
  rintro e w' ⟨rfl, rfl⟩
  go_wp2
  go_ret
  exact ⟨rfl, K3⟩
set_option maxRecDepth 100000 in
set_option maxHeartbeats 4000000 in
theorem encKnown_walk (w : World) : Calls Try.prog 7 #[] w fun e w' => e = .returned (.bool true) ∧ Below w.heap.size w w' := by
  go_enter Try.func7, Try.ntmps7
  go_wp2_with fail
  refine (awake3 _).mono ?_
  rintro e w1 ⟨rfl, k1⟩
  have K1 : Kept w w1 := k1
  clear k1
  have o0 : OutK w1 (w1.alloc (.cells #[.slice none 0 0] 27 (0, 0))) w1.heap.size [] := ⟨none, outAt_nil w1, ((Only.refl [] w1).alloc _).kept, Nat.le_refl _, by simp⟩
  have O0 := Lib.hid o0
  clear o0
  go_wp2_with fail
  refine (outK_U w1.heap.size [] 0 w1 _ (by omega) (by omega) O0.out (by simp)).mono ?_
  rw [show [] ++ encU 0 = [0] by decide +kernel]
  rintro e W2 ⟨rfl, O1⟩
  have O1 := Lib.hid O1
  clear O0
  go_wp2_with fail
  refine (outK_I w1.heap.size [0] (-1) w1 _ (by omega) (by omega) O1.out (by simp)).mono ?_
  rw [show [0] ++ encU (fold (-1)) = [0, 1] by decide +kernel]
  rintro e W3 ⟨rfl, O2⟩
  have O2 := Lib.hid O2
  clear O1
  go_wp2_with fail
  refine (outK_S w1.heap.size [0, 1] { data := #[104, 105] } w1 _ O2.out (by simp) (by decide)).mono ?_
  rw [show [0, 1] ++ encS (ofStr { data := #[104, 105] }) = [0, 1, 2, 104, 105] by decide +kernel]
  rintro e W4 ⟨rfl, O3⟩
  have O3 := Lib.hid O3
  clear O2
  go_wp2_with fail
  refine (outK_U w1.heap.size [0, 1, 2, 104, 105] 18446744073709551615 w1 _ (by omega) (by omega) O3.out (by simp)).mono ?_
  rw [show [0, 1, 2, 104, 105] ++ encU 18446744073709551615 = [0, 1, 2, 104, 105, 255, 255, 255, 255, 255, 255, 255, 255, 255, 1] by decide +kernel]
  rintro e W5 ⟨rfl, O4⟩
  clear O3
  obtain ⟨g, hO, K5, -, hg⟩ := O4
  obtain ⟨ao, co, hpo, hSo, hio⟩ := outAt_sl hO
  have hco : W5.cell? ⟨w1.heap.size, 0, none⟩ = some (.slice ao 15 co) := one_cell hpo
  have HSo : Hid (Sl .u8 W5 ao 15 co [0, 1, 2, 104, 105, 255, 255, 255, 255, 255, 255, 255, 255, 255, 1]) := hSo
  have hlo : w1.heap.size < W5.heap.size := lt_heap hpo
  have hx1 : 15 ≤ co := hSo.2.1
  have hx2 := hSo.2.2.1
  unfold maxLen at hx2
  have HCO := Lib.hid hco
  clear hO hg hSo hpo
  have hco' : (W5.alloc (.cells #[] 5)).cell? ⟨w1.heap.size, 0, none⟩ = some (.slice ao 15 co) := (((Only.refl [] W5).alloc _).kept).cel hco
  go_wp2_with (first
    | (at_builtin; refine wpList_app rfl (.tmp 29) (.tmp 33) 25 25 rfl elemB _ 0 _ _ rfl (app_empty W5 _) _ 15 _ rfl (src_sl Try.underlying25 ((((Only.refl [] W5).alloc _).kept).sl HSo.out)) (by omega) (by unfold maxLen; omega) ?_; intro a6 c6 g6 W6 hA6 hO6 hG6; simp only [List.nil_append] at hA6; rw [show (0 : Nat) + 15 = 15 from rfl] at hA6 ⊢; have K6 : Kept W5 W6 := (((Only.refl [] W5).alloc _).then hO6 (by intro i hi hm; simp at hm; omega)).kept; have hz6 : ∀ i, i ∈ g6.toList → W5.heap.size ≤ i := (by intro i hi; rcases hG6 with rfl | rfl <;> simp at hi <;> omega); have HA6 := Lib.hid hA6; clear hA6 hO6 hG6)
    | (at_builtin; refine wpList_app rfl (.tmp 34) (.tmp 35) 25 25 rfl elemB _ 15 _ _ rfl (((Only.refl [] W6).alloc _).app HA6.out (by simp)) _ 1 _ rfl (src_sl Try.underlying25 (sl_lit .u8 W6 5 (0, 0) [7] 1 rfl (by unfold maxLen; omega))) (by omega) (by unfold maxLen; omega) ?_; intro a7 c7 g7 W7 hA7 hO7 hG7; rw [show (15 : Nat) + 1 = 16 from rfl] at hA7 ⊢))
  have hI0 := inAt_app (L := [0, 1, 2, 104, 105, 255, 255, 255, 255, 255, 255, 255, 255, 255, 1, 7]) hA7 (isB_of_mem (by decide))
  have K7 : Kept W5 W7 := (((K6.only.alloc _).kept).onl hO7 hz6)
  have HW : Hid (InK W5 (W7.alloc (.cells #[.slice a7 16 c7, .bool false] 35 (0, 0))) W7.heap.size ([0, 1, 2, 104, 105, 255, 255, 255, 255, 255, 255, 255, 255, 255, 1, 7], false)) := ⟨hI0, (K7.only.alloc _).kept, K7.size⟩
  have hlo7 : w1.heap.size < W7.heap.size := by have := K7.size; omega
  clear hI0 hA7 hO7 hG7 HA6 K6 K7 hco'
  go_wp2_with fail
  generalize World.alloc W7 _ = Wa at *
  generalize W7.heap.size = pi at *
  refine (inK_U pi ([0, 1, 2, 104, 105, 255, 255, 255, 255, 255, 255, 255, 255, 255, 1, 7], false) W5 _ HW.out).mono ?_
  rw [show stU ([0, 1, 2, 104, 105, 255, 255, 255, 255, 255, 255, 255, 255, 255, 1, 7], false) = (0, [1, 2, 104, 105, 255, 255, 255, 255, 255, 255, 255, 255, 255, 1, 7], false) by decide +kernel]
  rintro e Wb ⟨rfl, HB⟩
  have HB := Lib.hid HB
  clear HW
  go_wp2_with fail
  refine (inK_I pi ([1, 2, 104, 105, 255, 255, 255, 255, 255, 255, 255, 255, 255, 1, 7], false) W5 _ HB.out).mono ?_
  rw [show stI ([1, 2, 104, 105, 255, 255, 255, 255, 255, 255, 255, 255, 255, 1, 7], false) = (-1, [2, 104, 105, 255, 255, 255, 255, 255, 255, 255, 255, 255, 1, 7], false) by decide +kernel]
  rintro e Wc ⟨rfl, HC⟩
  have HC := Lib.hid HC
  clear HB
  go_wp2_with fail
  refine (inK_S pi ([2, 104, 105, 255, 255, 255, 255, 255, 255, 255, 255, 255, 1, 7], false) 2 W5 _ (by omega) (by omega) HC.out).mono ?_
  rw [show stS 2 ([2, 104, 105, 255, 255, 255, 255, 255, 255, 255, 255, 255, 1, 7], false) = ([104, 105], [255, 255, 255, 255, 255, 255, 255, 255, 255, 1, 7], false) by decide +kernel]
  rintro e Wd ⟨rfl, HD⟩
  have HD := Lib.hid HD
  clear HC
  go_wp2_with fail
  refine (inK_U pi ([255, 255, 255, 255, 255, 255, 255, 255, 255, 1, 7], false) W5 _ HD.out).mono ?_
  rw [show stU ([255, 255, 255, 255, 255, 255, 255, 255, 255, 1, 7], false) = (18446744073709551615, [7], false) by decide +kernel]
  rintro e We ⟨rfl, HE⟩
  have HE := Lib.hid HE
  clear HD
  go_wp2_with fail
  refine (inK_Small pi ([7], false) 7 W5 _ (by omega) (by omega) HE.out).mono ?_
  rw [show stSmall 7 ([7], false) = (7, [], false) by decide +kernel]
  rintro e Wf ⟨rfl, HF⟩
  have HF := Lib.hid HF
  clear HE
  go_wp2_with fail
  refine (in_End pi ([], false) _ HF.out.1).mono ?_
  rintro e W' ⟨rfl, rfl⟩
  have KF : Kept W5 Wf := HF.out.2.1
  clear HF hlo7
  have Lj : Hid (InK Wf ((Wf.alloc (.cells #[.int .u8 2, .int .u8 104, .int .u8 105] 5 (0, 0))).alloc (.cells #[.slice (some ⟨Wf.heap.size, 0, none⟩) 3 3, .bool false] 35 (0, 0))) (Wf.heap.size + 1) ([2, 104, 105], false)) := inK_lit [2, 104, 105] 3 (0, 0) rfl (by omega) (by decide) Wf
  go_wp2_with fail
  generalize World.alloc (World.alloc Wf _) _ = Vj at *
  refine (inK_S (Wf.heap.size + 1) ([2, 104, 105], false) 1 Wf _ (by omega) (by omega) Lj.out).mono ?_
  rw [show stS 1 ([2, 104, 105], false) = ([], [], true) by decide +kernel]
  rintro e Wj ⟨rfl, Lj'⟩
  have bj := Lib.hid (Lj'.bad rfl)
  have Kj : Kept Wf Wj := Lj'.2.1
  clear Lj Lj'
  have Lk : Hid (InK Wj ((Wj.alloc (.cells #[.int .u8 0] 5 (0, 0))).alloc (.cells #[.slice (some ⟨Wj.heap.size, 0, none⟩) 1 1, .bool false] 35 (0, 0))) (Wj.heap.size + 1) ([0], false)) := inK_lit [0] 1 (0, 0) rfl (by omega) (by decide) Wj
  go_wp2_with fail
  generalize World.alloc (World.alloc Wj _) _ = Vk at *
  refine (inK_S (Wj.heap.size + 1) ([0], false) (-1) Wj _ (by omega) (by omega) Lk.out).mono ?_
  rw [show stS (-1) ([0], false) = ([], [], true) by decide +kernel]
  rintro e Wk ⟨rfl, Lk'⟩
  have bk := Lib.hid (Lk'.bad rfl)
  have Kk : Kept Wj Wk := Lk'.2.1
  clear Lk Lk'
  have Lm : Hid (InK Wk ((Wk.alloc (.cells #[.int .u8 8] 5 (0, 0))).alloc (.cells #[.slice (some ⟨Wk.heap.size, 0, none⟩) 1 1, .bool false] 35 (0, 0))) (Wk.heap.size + 1) ([8], false)) := inK_lit [8] 1 (0, 0) rfl (by omega) (by decide) Wk
  go_wp2_with fail
  generalize World.alloc (World.alloc Wk _) _ = Vm at *
  refine (inK_Small (Wk.heap.size + 1) ([8], false) 7 Wk _ (by omega) (by omega) Lm.out).mono ?_
  rw [show stSmall 7 ([8], false) = (0, [], true) by decide +kernel]
  rintro e Wm ⟨rfl, Lm'⟩
  have bm := Lib.hid (Lm'.bad rfl)
  have Km : Kept Wk Wm := Lm'.2.1
  clear Lm Lm'
  have Lx : Hid (InK Wm ((Wm.alloc (.cells #[.int .u8 128, .int .u8 128, .int .u8 128, .int .u8 128, .int .u8 8] 5 (0, 0))).alloc (.cells #[.slice (some ⟨Wm.heap.size, 0, none⟩) 5 5, .bool false] 35 (0, 0))) (Wm.heap.size + 1) ([128, 128, 128, 128, 8], false)) := inK_lit [128, 128, 128, 128, 8] 5 (0, 0) rfl (by omega) (by decide) Wm
  go_wp2_with fail
  generalize World.alloc (World.alloc Wm _) _ = Vx at *
  refine (inK_Small (Wm.heap.size + 1) ([128, 128, 128, 128, 8], false) 1099511627776 Wm _ (by omega) (by omega) Lx.out).mono ?_
  rw [show stSmall 1099511627776 ([128, 128, 128, 128, 8], false) = (0, [], true) by decide +kernel]
  rintro e Wx ⟨rfl, Lx'⟩
  have bx := Lib.hid (Lx'.bad rfl)
  have Kx : Kept Wm Wx := Lx'.2.1
  clear Lx Lx'
  have hcX := (((KF.trans Kj).trans Kk).trans (Km.trans Kx)).cel HCO.out
  have bjX := ((Kk.trans Km).trans Kx).cel bj.out
  have bkX := (Km.trans Kx).cel bk.out
  have bmX := Kx.cel bm.out
  have bxX := bx.out
  have KW : Kept w Wx := K1.trans (K5.trans (((KF.trans Kj).trans Kk).trans (Km.trans Kx)))
  have gs := run_str 25 9 5 Try.underlying25 Try.underlying5 Try.underlying9 ((((KF.trans Kj).trans Kk).trans (Km.trans Kx)).sl HSo.out)
  have e1 : (strOf [0, 1, 2, 104, 105, 255, 255, 255, 255, 255, 255, 255, 255, 255, 1]).toList = [0, 1, 2, 104, 105, 255, 255, 255, 255, 255, 255, 255, 255, 255, 1] := by decide +kernel
  have e2 : (strOf [104, 105]).toList = [104, 105] := by decide +kernel
  have e3 : (strOf []).toList = [] := by decide +kernel
  go_wp2_with fail
  refine (bad_yes none 0 0 [] _ (sl_nil _ _) (by intro i; simp) (by simp) (by decide +kernel)).mono ?_
  rintro e Z0 ⟨rfl, k0⟩
  replace KW := KW.trans k0
  clear k0
  have hb1 := Lib.hid (fun hh => bad_yes _ _ _ _ _ (sl_lit .u8 Z0 5 (0, 0) [128] 1 rfl (by unfold maxLen; omega)) (isB_of_mem (by decide)) hh (by decide +kernel))
  go_wp2_with fail
  refine (hb1.out (by intro x hx; injection hx with hx; subst hx; simp)).mono ?_
  rintro e Z1 ⟨rfl, k0⟩
  replace KW := KW.trans ((((Only.refl [] Z0).alloc _).kept).trans k0)
  clear k0 hb1
  have hb2 := Lib.hid (fun hh => bad_yes _ _ _ _ _ (sl_lit .u8 Z1 5 (0, 0) [128, 0] 2 rfl (by unfold maxLen; omega)) (isB_of_mem (by decide)) hh (by decide +kernel))
  go_wp2_with fail
  refine (hb2.out (by intro x hx; injection hx with hx; subst hx; simp)).mono ?_
  rintro e Z2 ⟨rfl, k0⟩
  replace KW := KW.trans ((((Only.refl [] Z1).alloc _).kept).trans k0)
  clear k0 hb2
  have hb3 := Lib.hid (fun hh => bad_yes _ _ _ _ _ (sl_lit .u8 Z2 5 (0, 0) [255, 255, 255, 255, 255, 255, 255, 255, 255, 2] 10 rfl (by unfold maxLen; omega)) (isB_of_mem (by decide)) hh (by decide +kernel))
  go_wp2_with fail
  refine (hb3.out (by intro x hx; injection hx with hx; subst hx; simp)).mono ?_
  rintro e Z3 ⟨rfl, k0⟩
  replace KW := KW.trans ((((Only.refl [] Z2).alloc _).kept).trans k0)
  clear k0 hb3
  have hb4 := Lib.hid (fun hh => bad_yes _ _ _ _ _ (sl_lit .u8 Z3 5 (0, 0) [255, 255, 255, 255, 255, 255, 255, 255, 255, 129, 0] 11 rfl (by unfold maxLen; omega)) (isB_of_mem (by decide)) hh (by decide +kernel))
  go_wp2_with fail
  refine (hb4.out (by intro x hx; injection hx with hx; subst hx; simp)).mono ?_
  rintro e Z4 ⟨rfl, k0⟩
  replace KW := KW.trans ((((Only.refl [] Z3).alloc _).kept).trans k0)
  clear k0 hb4
  go_wp2
  go_ret
  exact ⟨rfl, KW⟩
end Go.Proofs.Ytciolohapanpfab
