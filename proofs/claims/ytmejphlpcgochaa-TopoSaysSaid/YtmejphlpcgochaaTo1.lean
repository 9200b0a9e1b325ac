/- Orders: rows of numbers asked (written by gen_to1.py). -/
import Derived.Test.YtmejphlpcgochaaGr10
import Derived.Test.YtmejphlpcgochaaToM1
set_option linter.unusedVariables false
set_option linter.unusedSimpArgs false
namespace Go.Proofs.Ytmejphlpcgochaa
open Go.RowKit
/-- is a number in a row -/
def hasI (l : List Int) (v : Int) : Bool := l.any fun x => v == x
theorem hasI_iff (l : List Int) (v : Int) : hasI l v = true ↔ v ∈ l := by
  unfold hasI
  rw [List.any_eq_true]
  constructor
  · rintro ⟨x, h1, h2⟩
    rw [beq_iff_eq.1 h2]; exact h1
  · exact fun h => ⟨v, h, beq_self_eq_true v⟩
theorem hasI_eq (l : List Int) (v : Int) : hasI l v = l.contains v := by
  rw [Bool.eq_iff_iff, hasI_iff, List.contains_iff_mem]
set_option maxRecDepth 100000 in
set_option maxHeartbeats 4000000 in
theorem t_index {w : World} {a : Option Addr} {n c : Nat} {l : List Int} (v0 : Int) (hS : Sl .i64 w a n c l) (hn : n ≤ 1000) :
    Calls Try.prog 34 #[.slice a n c, .int .i64 v0] w fun e w' => e = .returned (.int .i64 (idxP (fun x => v0 == x) l 0)) ∧ Kept w w' := by
  have hl := hS.1
  have hnc := hS.2.1
  have HS := Lib.hid hS
  clear hS
  go_enter Try.func34, Try.ntmps34
  go_wp2_with fail
  go_loopw [8] (fun i wr => ∃ j : Nat, i = .int .i64 (j : Nat) ∧ j ≤ n ∧ Hid (Kept w wr) ∧ Hid (idxP (fun x => v0 == x) l 0 = idxP (fun x => v0 == x) (l.drop j) j)) (fun i _ => n - (intOf i).toNat)
  case atStart => exact ⟨0, rfl, by omega, Kept.refl _, rfl⟩
  case round =>
    obtain ⟨j, rfl, hj, HK, HI⟩ := hrel
    by_cases hlt : j < n
    · have hlt' : (j : Int) < n := by omega
      obtain ⟨x, hx⟩ : ∃ x, l[j]? = some x := ⟨_, List.getElem?_eq_getElem (by omega)⟩
      obtain ⟨b, o, v, rfl, hc, hv⟩ := (HK.out.sl HS.out).at j hlt
      have hvx : v = x := by rw [hv.out, List.getD_eq_getElem?_getD, hx]; rfl
      subst hvx
      have HI2 : Hid (idxP (fun x => v0 == x) l 0 = if (v0 == v) = true then (j : Int) else idxP (fun x => v0 == x) (l.drop (j + 1)) (j + 1)) := by
        unfold Hid
        obtain ⟨h1, h2⟩ := List.getElem?_eq_some_iff.1 hx
        rw [HI.out, List.drop_eq_getElem_cons h1, h2, idxP]
      clear hx hv HI
      cases hpv : (v0 == v) with
      | true =>
        have HI3 : Hid (idxP (fun x => v0 == x) l 0 = j) := by unfold Hid; rw [HI2.out, if_pos hpv]
        clear HI2
        go_wp2_with fail
        go_ret
        exact ⟨by rw [HI3.out]; rfl, HK.out⟩
      | false =>
        have HI3 : Hid (idxP (fun x => v0 == x) l 0 = idxP (fun x => v0 == x) (l.drop (j + 1)) (j + 1)) := by unfold Hid; rw [HI2.out, if_neg (by rw [hpv]; simp)]
        clear HI2
        go_wp2_with fail
        go_roundw
        case rel => exact ⟨j + 1, by go_num, by omega, HK.out, HI3.out⟩
        case measure => simp [intOf]; omega
    · have hge : (n : Int) ≤ j := by omega
      have HI3 : Hid (idxP (fun x => v0 == x) l 0 = -1) := by unfold Hid; rw [HI.out, List.drop_of_length_le (by omega)]; rfl
      clear HI
      go_wp2_with fail
      go_ret
      exact ⟨by rw [HI3.out]; rfl, HK.out⟩
set_option maxRecDepth 100000 in
theorem t_cont {w : World} {a : Option Addr} {n c : Nat} {l : List Int} (v0 : Int) (hS : Sl .i64 w a n c l) (hn : n ≤ 1000) :
    Calls Try.prog 32 #[.slice a n c, .int .i64 v0] w fun e w' => e = .returned (.bool (hasI l v0)) ∧ Kept w w' := by
  have HC := Lib.hid (t_index v0 hS hn)
  have hb := idxP_bd (fun x => v0 == x) l 0
  have HA := Lib.hid (idxP_any (fun x => v0 == x) l 0)
  have hl := hS.1
  clear hS
  generalize idxP (fun x => v0 == x) l 0 = q at *
  go_enter Try.func32, Try.ntmps32
  go_wp2_with fail
  refine HC.out.mono ?_
  rintro E V ⟨rfl, hK⟩
  have HK := Lib.hid hK
  clear hK HC
  go_wp2_with fail
  go_ret
  exact ⟨ret_bool HA.out, HK.out⟩
/-- the greatest of a row -/
def maxL (l : List Int) : Int := l.tail.foldl max (l.headD 0)
set_option maxRecDepth 100000 in
set_option maxHeartbeats 4000000 in
theorem t_max {w : World} {a : Option Addr} {n c : Nat} {l : List Int} (hS : Sl .i64 w a n c l) (hn : n ≤ 1000) (h0 : 0 < n) :
    Calls Try.prog 33 #[.slice a n c] w fun e w' => e = .returned (.int .i64 (maxL l)) ∧ Kept w w' := by
  have hl := hS.1
  have hnc := hS.2.1
  obtain ⟨x, hx⟩ : ∃ x, l[0]? = some x := ⟨_, List.getElem?_eq_getElem (by omega)⟩
  obtain ⟨b, o, v, rfl, hc, hv⟩ := hS.at 0 h0
  have hvx : v = x := by rw [hv.out, List.getD_eq_getElem?_getD, hx]; rfl
  subst hvx
  have HS := Lib.hid hS
  have HM : Hid (maxL l = (l.drop 1).foldl max v) := by
    unfold Hid maxL
    cases l with
    | nil => cases hx
    | cons y l =>
      obtain rfl : y = v := by simpa using hx
      rfl
  have h1 : ¬ (n : Int) < 1 := by omega
  rw [Nat.add_zero] at hc
  clear hS hv hx
  go_enter Try.func33, Try.ntmps33
  go_wp2_with fail
  go_loopw [3, 4] (fun m i wr => ∃ (y : Int) (j : Nat), m = .int .i64 y ∧ i = .int .i64 (j : Nat) ∧ 1 ≤ j ∧ j ≤ n ∧ Hid (Kept w wr) ∧ Hid (maxL l = (l.drop j).foldl max y)) (fun _ i _ => n - (intOf i).toNat)
  case atStart => exact ⟨v, 1, rfl, rfl, by omega, by omega, Kept.refl _, HM.out⟩
  case round =>
    obtain ⟨y, j, rfl, rfl, hj1, hj, HK, HI⟩ := hrel
    by_cases hlt : j < n
    · have hlt' : (j : Int) < n := by omega
      obtain ⟨x, hx⟩ : ∃ x, l[j]? = some x := ⟨_, List.getElem?_eq_getElem (by omega)⟩
      obtain ⟨b2, o2, u, hbo, hc2, hv⟩ := (HK.out.sl HS.out).at j hlt
      injection hbo with hbo
      injection hbo with e1 e2
      subst e1 e2
      have hvx : u = x := by rw [hv.out, List.getD_eq_getElem?_getD, hx]; rfl
      subst hvx
      have HI2 : Hid (maxL l = (l.drop (j + 1)).foldl max (max y u)) := by
        unfold Hid
        obtain ⟨h1, h2⟩ := List.getElem?_eq_some_iff.1 hx
        rw [HI.out, List.drop_eq_getElem_cons h1, h2, List.foldl_cons]
      clear hx hv HI
      go_wp2_with fail
      go_roundw
      case rel => exact ⟨max y u, j + 1, rfl, by go_num, by omega, by omega, HK.out, HI2.out⟩
      case measure => simp [intOf]; omega
    · have hge : (n : Int) ≤ j := by omega
      have HI3 : Hid (maxL l = y) := by unfold Hid; rw [HI.out, List.drop_of_length_le (by omega)]; rfl
      clear HI
      go_wp2_with fail
      go_ret
      exact ⟨by rw [HI3.out]; rfl, HK.out⟩
set_option maxRecDepth 100000 in
set_option maxHeartbeats 4000000 in
theorem t_indexf {w : World} {a : Option Addr} {n c : Nat} {l : List Int} (p : Int → Bool) (p1 : Addr) (hS : Sl .i64 w a n c l) (hn : n ≤ 1000)
    (hp : ∀ W x, Kept w W → Calls Try.prog 31 #[.int .i64 x, .pointer (some p1)] W fun e w' => e = .returned (.bool (p x)) ∧ Kept W w') :
    Calls Try.prog 41 #[.slice a n c, .func (.func 31) #[] #[.pointer (some p1)]] w fun e w' => e = .returned (.int .i64 (idxP p l 0)) ∧ Kept w w' := by
  have hl := hS.1
  have hnc := hS.2.1
  have HS := Lib.hid hS
  have HP := Lib.hid hp
  clear hS hp
  go_enter Try.func41, Try.ntmps41
  go_wp2_with fail
  go_loopw [8] (fun i wr => ∃ j : Nat, i = .int .i64 (j : Nat) ∧ j ≤ n ∧ Hid (Kept w wr) ∧ Hid (idxP p l 0 = idxP p (l.drop j) j)) (fun i _ => n - (intOf i).toNat)
  case atStart => exact ⟨0, rfl, by omega, Kept.refl _, rfl⟩
  case round =>
    obtain ⟨j, rfl, hj, HK, HI⟩ := hrel
    by_cases hlt : j < n
    · have hlt' : (j : Int) < n := by omega
      obtain ⟨x, hx⟩ : ∃ x, l[j]? = some x := ⟨_, List.getElem?_eq_getElem (by omega)⟩
      obtain ⟨b, o, v, rfl, hc, hv⟩ := (HK.out.sl HS.out).at j hlt
      have hvx : v = x := by rw [hv.out, List.getD_eq_getElem?_getD, hx]; rfl
      subst hvx
      have HI2 : Hid (idxP p l 0 = if p v = true then (j : Int) else idxP p (l.drop (j + 1)) (j + 1)) := by
        unfold Hid
        obtain ⟨h1, h2⟩ := List.getElem?_eq_some_iff.1 hx
        rw [HI.out, List.drop_eq_getElem_cons h1, h2, idxP]
      have HC := Lib.hid (HP.out wr v HK.out)
      clear hx hv HI
      cases hpv : p v with
      | true =>
        have HI3 : Hid (idxP p l 0 = j) := by unfold Hid; rw [HI2.out, if_pos hpv]
        rw [hpv] at HC
        clear hpv HI2
        go_wp2_with (go_at_call 31; refine HC.out.mono ?_; rintro E V ⟨rfl, J⟩; have HKV := Lib.hid (HK.out.trans J); clear J)
        go_ret
        exact ⟨ret_int HI3.out.symm, HKV.out⟩
      | false =>
        have HI3 : Hid (idxP p l 0 = idxP p (l.drop (j + 1)) (j + 1)) := by unfold Hid; rw [HI2.out, if_neg (by rw [hpv]; decide)]
        rw [hpv] at HC
        clear hpv HI2
        go_wp2_with (go_at_call 31; refine HC.out.mono ?_; rintro E V ⟨rfl, J⟩; have HKV := Lib.hid (HK.out.trans J); clear J)
        go_roundw
        case rel => exact ⟨j + 1, by go_num, by omega, HKV, HI3⟩
        case measure => simp [intOf]; omega
    · have hge : (n : Int) ≤ j := by omega
      obtain rfl : j = n := by omega
      have HI3 : Hid (idxP p l 0 = -1) := by unfold Hid; rw [HI.out, List.drop_of_length_le (by omega)]; rfl
      go_wp2_with fail
      go_ret
      exact ⟨ret_int HI3.out.symm, HK.out⟩
theorem t_containsf {w : World} {a : Option Addr} {n c : Nat} {l : List Int} (p : Int → Bool) (p1 : Addr) (hS : Sl .i64 w a n c l) (hn : n ≤ 1000)
    (hp : ∀ W x, Kept w W → Calls Try.prog 31 #[.int .i64 x, .pointer (some p1)] W fun e w' => e = .returned (.bool (p x)) ∧ Kept W w') :
    Calls Try.prog 30 #[.slice a n c, .func (.func 31) #[] #[.pointer (some p1)]] w fun e w' => e = .returned (.bool (l.any p)) ∧ Kept w w' := by
  have HC := Lib.hid (t_indexf p p1 hS hn hp)
  have HA := Lib.hid (idxP_any p l 0)
  have hbd := idxP_bd p l 0
  clear hS hp
  generalize idxP p l 0 = ix at *
  go_enter Try.func30, Try.ntmps30
  go_wp2_with (go_at_call 41; refine HC.out.mono ?_; rintro E V ⟨rfl, J⟩; have HKV := Lib.hid J; clear J)
  go_ret
  exact ⟨ret_bool HA.out, HKV.out⟩
set_option maxRecDepth 100000 in
/-- the closure of Order: is a node not yet out -/
theorem t_notin {w : World} {a : Option Addr} {n c p : Nat} {l : List Int} (x : Int) (hS : Sl .i64 w a n c l) (hn : n ≤ 1000) (hp : w.cell? ⟨p, 0, none⟩ = some (.slice a n c)) :
    Calls Try.prog 31 #[.int .i64 x, .pointer (some ⟨p, 0, none⟩)] w fun e w' => e = .returned (.bool (!hasI l x)) ∧ Kept w w' := by
  have HC := Lib.hid (t_cont x hS hn)
  clear hS
  go_enter Try.func31, Try.ntmps31
  go_wp2_with fail
  refine HC.out.mono ?_
  rintro E V ⟨rfl, hK⟩
  have HK := Lib.hid hK
  clear hK HC
  go_wp2_with fail
  go_ret
  exact ⟨rfl, HK.out⟩
/-- is a node ahead not yet out -/
theorem t_anynot {w : World} {a0 a : Option Addr} {n0 c0 n c p : Nat} {l0 l : List Int} (hS0 : Sl .i64 w a0 n0 c0 l0) (hn0 : n0 ≤ 1000) (hS : Sl .i64 w a n c l) (hn : n ≤ 1000) (hp : w.cell? ⟨p, 0, none⟩ = some (.slice a n c)) :
    Calls Try.prog 30 #[.slice a0 n0 c0, .func (.func 31) #[] #[.pointer (some ⟨p, 0, none⟩)]] w fun e w' => e = .returned (.bool (l0.any fun x => !hasI l x)) ∧ Kept w w' :=
  t_containsf (fun x => !hasI l x) ⟨p, 0, none⟩ hS0 hn0 fun W x hW => t_notin x (hW.sl hS) hn (hW.cel hp)
end Go.Proofs.Ytmejphlpcgochaa
