/- Graphs: around. -/
import Derived.Test.YtmejphlpcgochaaGr9
set_option linter.unusedVariables false
set_option linter.unusedSimpArgs false
namespace Go.Proofs.Ytmejphlpcgochaa
open Go.RowKit
/-- leads a node elsewhere than by an edge itself where the edge leads? -/
def elseP (N : Int) (E : List Ed) (e1 n : Int) : Bool := decide (n ≠ e1) && decide (0 < (farL N E n).getD e1.toNat 0)
set_option maxRecDepth 100000 in
set_option maxHeartbeats 8000000 in
theorem g_else {w : World} {s : Option Addr} {m c : Nat} {E : List Ed} (k0 e1 : Nat) (e0 n : Int) (be bg : Nat) (hE : SlE w s m c E) (hm : m ≤ 900) (hg : goodG k0 E = true) (he : e1 < k0)
    (hbe : w.heap[be]? = some (.cells #[.int .i64 e0, .int .i64 (e1 : Nat)] 33 (0, 0))) (hbg : w.heap[bg]? = some (.cells #[.int .i64 (k0 : Nat), .slice s m c] 24 (0, 0))) :
    Calls Try.prog 43 #[.int .i64 n, .pointer (some ⟨be, 0, none⟩), .pointer (some ⟨bg, 0, none⟩)] w fun e w' => e = .returned (.bool (elseP k0 E e1 n)) ∧ Kept w w' := by
  have hN := good_N hg
  have x1 := at_cell hbe 1 _ rfl
  have g0 := at_cell hbg 0 _ rfl
  have g1 := at_cell hbg 1 _ rfl
  have HFr := Lib.hid (g_far k0 n (hE.kept ((Kept.refl w).dr ⟨1, rfl⟩ : Kept w w.drew)) hm hg)
  have HS : Hid (∀ Z, Kept w Z → Z.cell? ⟨be, 1, none⟩ = some (.int .i64 (e1 : Nat)) ∧ Z.cell? ⟨bg, 0, none⟩ = some (.int .i64 (k0 : Nat)) ∧ Z.cell? ⟨bg, 1, none⟩ = some (.slice s m c)) := fun Z k => ⟨k.cel x1, k.cel g0, k.cel g1⟩
  by_cases hne : n = (e1 : Int)
  · have HR : Hid (elseP k0 E e1 n = false) := by unfold Hid elseP; rw [decide_eq_false (by simp [hne])]; rfl
    have b1 : (n != (e1 : Int)) = false := by simp [hne]
    clear hne HFr hbe hbg
    go_enter Try.func43, Try.ntmps43
    go_wp2_with fail
    go_big_quiet (fail)
    go_wp2_with fail
    go_ret
    exact ⟨ret_bool HR.out.symm, (Kept.refl w).dr ((Dr.refl w).drewN _)⟩
  · have HR : Hid (elseP k0 E e1 n = decide (0 < (farL k0 E n).getD e1 0)) := by unfold Hid elseP; rw [decide_eq_true hne, Int.toNat_natCast]; rfl
    have b1 : (n != (e1 : Int)) = true := by simp [hne]
    clear hne hbe hbg x1 g0 g1
    go_enter Try.func43, Try.ntmps43
    go_upto_region 1 with fail
    have KD : Kept w w.drew := (Kept.refl w).dr ⟨1, rfl⟩
    refine wp_region_held_drew (S := (fun Z => Z.cell? ⟨be, 1, none⟩ = some (.int .i64 (e1 : Nat)) ∧ Z.cell? ⟨bg, 0, none⟩ = some (.int .i64 (k0 : Nat)) ∧ Z.cell? ⟨bg, 1, none⟩ = some (.slice s m c))) (by kernel_rfl) (HS.out _ KD) (fun hHeld => ?_)
    apply wpAnyH_take (i := 0)
    case hi => (simp only [List.getElem?_toArray, List.getElem?_cons_succ, List.getElem?_cons_zero]; rfl)
    case hs => kernel_rfl
    case hf => kernel_rfl
    case hr => kernel_rfl
    case hQ => exact fun _ _ _ h => h
    case hy => (refine Or.inl ⟨by rfl, ?_⟩; (intro w' hSw; (try dsimp only at hSw); go_simp) <;> with_reducible rfl)
    case hS => assumption
    try simp only [Act.put, List.setIfInBounds_toArray, List.set_cons_zero, List.set_cons_succ]
    apply wpAnyH_take (i := 1)
    case hi => (simp only [List.getElem?_toArray, List.getElem?_cons_succ, List.getElem?_cons_zero]; rfl)
    case hs => kernel_rfl
    case hf => kernel_rfl
    case hr => kernel_rfl
    case hQ => exact fun _ _ _ h => h
    case hy => (refine Or.inl ⟨by rfl, ?_⟩; (intro w' hSw; (try dsimp only at hSw); go_simp) <;> with_reducible rfl)
    case hS => assumption
    try simp only [Act.put, List.setIfInBounds_toArray, List.set_cons_zero, List.set_cons_succ]
    apply wpAnyH_take (i := 2)
    case hi => (simp only [List.getElem?_toArray, List.getElem?_cons_succ, List.getElem?_cons_zero]; rfl)
    case hs => kernel_rfl
    case hf => kernel_rfl
    case hr => kernel_rfl
    case hQ => exact fun _ _ _ h => h
    case hy => (refine Or.inl ⟨by rfl, ?_⟩; (intro w' hSw; (try dsimp only at hSw); go_simp) <;> with_reducible rfl)
    case hS => assumption
    try simp only [Act.put, List.setIfInBounds_toArray, List.set_cons_zero, List.set_cons_succ]
    apply wpAnyH_take (i := 3)
    case hi => (simp only [List.getElem?_toArray, List.getElem?_cons_succ, List.getElem?_cons_zero]; rfl)
    case hs => kernel_rfl
    case hf => kernel_rfl
    case hr => kernel_rfl
    case hQ => exact fun _ _ _ h => h
    case hy => (refine Or.inl ⟨by rfl, ?_⟩; (intro w' hSw; (try dsimp only at hSw); go_simp) <;> with_reducible rfl)
    case hS => assumption
    try simp only [Act.put, List.setIfInBounds_toArray, List.set_cons_zero, List.set_cons_succ]
    apply wpAnyH_take (i := 4)
    case hi => (simp only [List.getElem?_toArray, List.getElem?_cons_succ, List.getElem?_cons_zero]; rfl)
    case hs => kernel_rfl
    case hf => kernel_rfl
    case hr => kernel_rfl
    case hQ => exact fun _ _ _ h => h
    case hy => (refine Or.inl ⟨by rfl, ?_⟩; (intro w' hSw; (try dsimp only at hSw); go_simp) <;> with_reducible rfl)
    case hS => assumption
    try simp only [Act.put, List.setIfInBounds_toArray, List.set_cons_zero, List.set_cons_succ]
    apply wpAnyH_take (i := 5)
    case hi => (simp only [List.getElem?_toArray, List.getElem?_cons_succ, List.getElem?_cons_zero]; rfl)
    case hs => kernel_rfl
    case hf => kernel_rfl
    case hr => kernel_rfl
    case hQ => exact fun _ _ _ h => h
    case hy => (refine Or.inl ⟨by rfl, ?_⟩; (intro w' hSw; (try dsimp only at hSw); go_simp) <;> with_reducible rfl)
    case hS => assumption
    try simp only [Act.put, List.setIfInBounds_toArray, List.set_cons_zero, List.set_cons_succ]
    apply wpAnyH_take (i := 6)
    case hi => (simp only [List.getElem?_toArray, List.getElem?_cons_succ, List.getElem?_cons_zero]; rfl)
    case hs => kernel_rfl
    case hf => kernel_rfl
    case hr => kernel_rfl
    case hQ => exact fun _ _ _ h => h
    case hy => (refine Or.inl ⟨by rfl, ?_⟩; (intro w' hSw; (try dsimp only at hSw); go_simp) <;> with_reducible rfl)
    case hS => assumption
    try simp only [Act.put, List.setIfInBounds_toArray, List.set_cons_zero, List.set_cons_succ]
    apply wpAnyH_take (i := 8)
    case hi => (simp only [List.getElem?_toArray, List.getElem?_cons_succ, List.getElem?_cons_zero]; rfl)
    case hs => kernel_rfl
    case hf => kernel_rfl
    case hr => kernel_rfl
    case hQ => exact fun _ _ _ h => h
    case hy => (refine Or.inl ⟨by rfl, ?_⟩; (intro w' hSw; (try dsimp only at hSw); go_simp) <;> with_reducible rfl)
    case hS => assumption
    try simp only [Act.put, List.setIfInBounds_toArray, List.set_cons_zero, List.set_cons_succ]
    apply wpAnyH_take (i := 9)
    case hi => (simp only [List.getElem?_toArray, List.getElem?_cons_succ, List.getElem?_cons_zero]; rfl)
    case hs => kernel_rfl
    case hf => kernel_rfl
    case hr => kernel_rfl
    case hQ => exact fun _ _ _ h => h
    case hy => (refine Or.inl ⟨by rfl, ?_⟩; (intro w' hSw; (try dsimp only at hSw); go_simp) <;> with_reducible rfl)
    case hS => assumption
    try simp only [Act.put, List.setIfInBounds_toArray, List.set_cons_zero, List.set_cons_succ]
    refine wpAnyH_ready (rs := [7]) (by kernel_rfl) (by simp) ?_
    apply AllReadyH.cons
    case ho => (simp only [List.getElem?_toArray, List.getElem?_cons_succ, List.getElem?_cons_zero]; rfl)
    case hs => exact AllReadyH.nil
    intro K hK
    go_simp
    (go_at_call 29; refine HFr.out.mono ?_; rintro E7 V7 ⟨fa, fc, rfl, hSf, J⟩)
    obtain ⟨bf, of', kv', rfl, hkc, hkv⟩ := hSf.at e1 he
    have hfc := hSf.2.1
    have HKV : Hid (kv' = (farL k0 E n).getD e1 0) := hkv
    replace KD := KD.trans J
    have he' : (e1 : Int) < k0 := by omega
    clear J hSf hkv HFr
    refine hK.out _ _ (HS.out _ KD) (fun hHeld => ?_)
    clear hK K
    try simp only [Act.put, List.setIfInBounds_toArray, List.set_cons_zero, List.set_cons_succ]
    apply wpAnyH_take (i := 10)
    case hi => (simp only [List.getElem?_toArray, List.getElem?_cons_succ, List.getElem?_cons_zero]; rfl)
    case hs => kernel_rfl
    case hf => kernel_rfl
    case hr => kernel_rfl
    case hQ => exact fun _ _ _ h => h
    case hy => (refine Or.inl ⟨by rfl, ?_⟩; (intro w' hSw; (try dsimp only at hSw); go_simp) <;> with_reducible rfl)
    case hS => assumption
    try simp only [Act.put, List.setIfInBounds_toArray, List.set_cons_zero, List.set_cons_succ]
    refine wpAnyH_ready (rs := [11]) (by kernel_rfl) (by simp) ?_
    apply AllReadyH.cons
    case ho => (simp only [List.getElem?_toArray, List.getElem?_cons_succ, List.getElem?_cons_zero]; rfl)
    case hs => exact AllReadyH.nil
    intro K hK
    go_simp
    skip
    refine hK.out _ _ (HS.out _ KD) (fun hHeld => ?_)
    clear hK K
    try simp only [Act.put, List.setIfInBounds_toArray, List.set_cons_zero, List.set_cons_succ]
    apply wpAnyH_take (i := 12)
    case hi => (simp only [List.getElem?_toArray, List.getElem?_cons_succ, List.getElem?_cons_zero]; rfl)
    case hs => kernel_rfl
    case hf => kernel_rfl
    case hr => kernel_rfl
    case hQ => exact fun _ _ _ h => h
    case hy => (refine Or.inl ⟨by rfl, ?_⟩; (intro w' hSw; (try dsimp only at hSw); go_simp) <;> with_reducible rfl)
    case hS => assumption
    try simp only [Act.put, List.setIfInBounds_toArray, List.set_cons_zero, List.set_cons_succ]
    apply wpAnyH_take (i := 13)
    case hi => (simp only [List.getElem?_toArray, List.getElem?_cons_succ, List.getElem?_cons_zero]; rfl)
    case hs => kernel_rfl
    case hf => kernel_rfl
    case hr => kernel_rfl
    case hQ => exact fun _ _ _ h => h
    case hy => (refine Or.inl ⟨by rfl, ?_⟩; (intro w' hSw; (try dsimp only at hSw); go_simp) <;> with_reducible rfl)
    case hS => assumption
    try simp only [Act.put, List.setIfInBounds_toArray, List.set_cons_zero, List.set_cons_succ]
    apply wpAnyH_take (i := 14)
    case hi => (simp only [List.getElem?_toArray, List.getElem?_cons_succ, List.getElem?_cons_zero]; rfl)
    case hs => kernel_rfl
    case hf => kernel_rfl
    case hr => kernel_rfl
    case hQ => exact fun _ _ _ h => h
    case hy => (refine Or.inl ⟨by rfl, ?_⟩; (intro w' hSw; (try dsimp only at hSw); go_simp) <;> with_reducible rfl)
    case hS => assumption
    try simp only [Act.put, List.setIfInBounds_toArray, List.set_cons_zero, List.set_cons_succ]
    refine wpAnyH_done (by kernel_rfl) ?_ _
    go_wp2_with fail
    go_ret
    exact ⟨ret_bool (by rw [HR.out, ← HKV.out]), KD⟩
/-- a row is asked for one that is so -/
def idxP (p : Int → Bool) : List Int → Nat → Int
  | [], _ => -1
  | x :: l, i => if p x = true then (i : Int) else idxP p l (i + 1)
theorem idxP_any (p : Int → Bool) : ∀ (l : List Int) (i : Nat), decide (0 ≤ idxP p l i) = l.any p
  | [], i => rfl
  | x :: l, i => by
    unfold idxP
    by_cases h : p x = true
    · rw [if_pos h]; simp [h]
    · rw [if_neg h, idxP_any p l (i + 1)]; simp [h]
theorem idxP_bd (p : Int → Bool) : ∀ (l : List Int) (i : Nat), -1 ≤ idxP p l i ∧ idxP p l i ≤ i + l.length
  | [], i => by simp [idxP] <;> omega
  | x :: l, i => by
    unfold idxP
    have := idxP_bd p l (i + 1)
    split <;> simp <;> omega
set_option maxRecDepth 100000 in
set_option maxHeartbeats 4000000 in
theorem g_index {w : World} {a : Option Addr} {n c : Nat} {l : List Int} (p : Int → Bool) (p1 p2 : Addr) (hS : Sl .i64 w a n c l) (hn : n ≤ 1000)
    (hp : ∀ W x, Kept w W → Calls Try.prog 43 #[.int .i64 x, .pointer (some p1), .pointer (some p2)] W fun e w' => e = .returned (.bool (p x)) ∧ Kept W w') :
    Calls Try.prog 41 #[.slice a n c, .func (.func 43) #[] #[.pointer (some p1), .pointer (some p2)]] w fun e w' => e = .returned (.int .i64 (idxP p l 0)) ∧ Kept w w' := by
  have hl := hS.1
  have hnc := hS.2.1
  have HS := Lib.hid hS
  have HP := Lib.hid hp
  clear hS hp
  go_enter Try.func41, Try.ntmps41
  go_wp2_with fail
  go_loopw [8] (fun i wr => ∃ j : Nat, i = .int .i64 (j : Nat) ∧ j ≤ n ∧ Hid (Kept w wr) ∧ Hid (idxP p l 0 = idxP p (l.drop j) j)) (fun i _ => n - (intOf i).toNat)
  case atStart => exact ⟨0, rfl, by omega, Kept.refl _, rfl⟩
  case round =>
    obtain ⟨j, rfl, hj, HK, HI⟩ := hrel
    by_cases hlt : j < n
    · have hlt' : (j : Int) < n := by omega
      obtain ⟨x, hx⟩ : ∃ x, l[j]? = some x := ⟨_, List.getElem?_eq_getElem (by omega)⟩
      obtain ⟨b, o, v, rfl, hc, hv⟩ := (HK.out.sl HS.out).at j hlt
      have hvx : v = x := by rw [hv.out, List.getD_eq_getElem?_getD, hx]; rfl
      subst hvx
      have HI2 : Hid (idxP p l 0 = if p v = true then (j : Int) else idxP p (l.drop (j + 1)) (j + 1)) := by
        unfold Hid
        obtain ⟨h1, h2⟩ := List.getElem?_eq_some_iff.1 hx
        rw [HI.out, List.drop_eq_getElem_cons h1, h2, idxP]
      have HC := Lib.hid (HP.out wr v HK.out)
      clear hx hv HI
      cases hpv : p v with
      | true =>
        have HI3 : Hid (idxP p l 0 = j) := by unfold Hid; rw [HI2.out, if_pos hpv]
        rw [hpv] at HC
        clear hpv HI2
        go_wp2_with (go_at_call 43; refine HC.out.mono ?_; rintro E V ⟨rfl, J⟩; have HKV := Lib.hid (HK.out.trans J); clear J)
        go_ret
        exact ⟨ret_int HI3.out.symm, HKV.out⟩
      | false =>
        have HI3 : Hid (idxP p l 0 = idxP p (l.drop (j + 1)) (j + 1)) := by unfold Hid; rw [HI2.out, if_neg (by rw [hpv]; decide)]
        rw [hpv] at HC
        clear hpv HI2
        go_wp2_with (go_at_call 43; refine HC.out.mono ?_; rintro E V ⟨rfl, J⟩; have HKV := Lib.hid (HK.out.trans J); clear J)
        go_roundw
        case rel => exact ⟨j + 1, by go_num, by omega, HKV, HI3⟩
        case measure => simp [intOf]; omega
    · have hge : (n : Int) ≤ j := by omega
      obtain rfl : j = n := by omega
      have HI3 : Hid (idxP p l 0 = -1) := by unfold Hid; rw [HI.out, List.drop_of_length_le (by omega)]; rfl
      go_wp2_with fail
      go_ret
      exact ⟨ret_int HI3.out.symm, HK.out⟩
theorem g_contains {w : World} {a : Option Addr} {n c : Nat} {l : List Int} (p : Int → Bool) (p1 p2 : Addr) (hS : Sl .i64 w a n c l) (hn : n ≤ 1000)
    (hp : ∀ W x, Kept w W → Calls Try.prog 43 #[.int .i64 x, .pointer (some p1), .pointer (some p2)] W fun e w' => e = .returned (.bool (p x)) ∧ Kept W w') :
    Calls Try.prog 30 #[.slice a n c, .func (.func 43) #[] #[.pointer (some p1), .pointer (some p2)]] w fun e w' => e = .returned (.bool (l.any p)) ∧ Kept w w' := by
  have HC := Lib.hid (g_index p p1 p2 hS hn hp)
  have HA := Lib.hid (idxP_any p l 0)
  have hbd := idxP_bd p l 0
  clear hS hp
  generalize idxP p l 0 = ix at *
  go_enter Try.func30, Try.ntmps30
  go_wp2_with (go_at_call 41; refine HC.out.mono ?_; rintro E V ⟨rfl, J⟩; have HKV := Lib.hid J; clear J)
  go_ret
  exact ⟨ret_bool HA.out, HKV.out⟩
def aroundB (N : Int) (E : List Ed) (e : Ed) : Bool := (besL N E e.1 0).any (elseP N E e.2)
set_option maxRecDepth 100000 in
set_option maxHeartbeats 4000000 in
theorem g_around {w : World} {s : Option Addr} {m c : Nat} {E : List Ed} (k0 e1 : Nat) (e0 : Int) (hE : SlE w s m c E) (hm : m ≤ 900) (hg : goodG k0 E = true) (he : e1 < k0) :
    Calls Try.prog 39 #[.agg #[.int .i64 (k0 : Nat), .slice s m c], .agg #[.int .i64 e0, .int .i64 (e1 : Nat)]] w fun e w' => e = .returned (.bool (aroundB k0 E (e0, (e1 : Int)))) ∧ Kept w w' := by
  have hB0 := heap_keep (heap_alloc_new w (.cells #[.int .i64 (k0 : Nat), .slice s m c] 24)) (.cells #[.int .i64 e0, .int .i64 (e1 : Nat)] 33)
  have hB1 : ((w.alloc (.cells #[.int .i64 (k0 : Nat), .slice s m c] 24)).alloc (.cells #[.int .i64 e0, .int .i64 (e1 : Nat)] 33)).heap[w.heap.size + 1]? = some (.cells #[.int .i64 e0, .int .i64 (e1 : Nat)] 33 (0, 0)) := by
    have := heap_alloc_new (w.alloc (.cells #[.int .i64 (k0 : Nat), .slice s m c] 24)) (.cells #[.int .i64 e0, .int .i64 (e1 : Nat)] 33)
    simpa using this
  have K0 := (kept_al w (.cells #[.int .i64 (k0 : Nat), .slice s m c] 24)).trans (kept_al _ (.cells #[.int .i64 e0, .int .i64 (e1 : Nat)] 33))
  have b0 := at_cell hB0 0 _ rfl
  have b1 := at_cell hB0 1 _ rfl
  have y0 := at_cell hB1 0 _ rfl
  have HBh := Lib.hid (g_behind (k0 : Int) e0 (hE.kept K0) hm)
  have HE := Lib.hid hE
  have HG := Lib.hid hg
  have HB0 := Lib.hid hB0
  have HB1 := Lib.hid hB1
  have HK0 := Lib.hid K0
  clear hE K0 hB0 hB1
  go_enter Try.func39, Try.ntmps39
  go_wp2_with fail
  generalize World.alloc (World.alloc w _) _ = X0 at *
  generalize hbx : w.heap.size = bx at *
  clear hbx
  refine HBh.out.mono ?_
  rintro E1 V1 ⟨ba, bk, bc, rfl, hSb, hK1, hbk, _⟩
  have HC := Lib.hid (g_contains (elseP k0 E e1) ⟨bx + 1, 0, none⟩ ⟨bx, 0, none⟩ hSb (by omega) (fun W x k => g_else k0 e1 e0 x (bx + 1) bx (HE.out.kept ((HK0.out.trans hK1).trans k)) hm HG.out he ((hK1.trans k).only.heap HB1.out (by simp)) ((hK1.trans k).only.heap HB0.out (by simp))))
  have HK1 := Lib.hid (HK0.out.trans hK1)
  have HR : Hid (aroundB k0 E (e0, (e1 : Int)) = (besL k0 E e0 0).any (elseP k0 E e1)) := rfl
  clear hSb hK1 HBh b0 b1 y0
  go_wp2_with (go_at_call 30; refine HC.out.mono ?_; rintro E V ⟨rfl, J⟩; have HKV := Lib.hid (HK1.out.trans J); clear J)
  go_ret
  exact ⟨ret_bool HR.out.symm, HKV.out⟩
end Go.Proofs.Ytmejphlpcgochaa
