/- The document's events: fields, hasField, within, Name. -/
import Derived.Test.YteaepgbakcifkaaDoorEv5
import Derived.Test.YteaepgbakcifkaaDoorEvM2
set_option linter.unusedVariables false
set_option linter.unusedSimpArgs false
namespace Go.Proofs.YteaepgbakcifkaaDoor
open Go.RowKit
/-- the document's letters -/
def dfl (k : Int) : List UInt8 :=
  if k = 1 then [97, 100] else if k = 2 then [114, 97, 107] else if k = 3 then [114, 116, 121] else if k = 4 then [114, 116, 121, 100] else if k = 5 then [114, 116, 121] else if k = 6 then [110] else if k = 7 then [114, 97] else if k = 8 then [114] else if k = 9 then [110] else []
def mostK (k : Int) : Int := if k = 1 then 900 else if 1 ≤ k ∧ k ≤ 9 then 64 else 0
def hasB (k : Int) (c : UInt8) : Bool := (dfl k).contains c
set_option maxHeartbeats 2000000 in
theorem rv_fields (k : Int) (w : World) : Calls Tryd.prog 34 #[.int .i64 k] w fun e w' => e = .returned (.tuple #[.string ⟨(dfl k).toArray⟩, .int .i64 (mostK k)]) ∧ Kept w w' := by
  by_cases hk : 1 ≤ k ∧ k ≤ 9
  · have hk : k = 1 ∨ k = 2 ∨ k = 3 ∨ k = 4 ∨ k = 5 ∨ k = 6 ∨ k = 7 ∨ k = 8 ∨ k = 9 := by omega
    rcases hk with rfl | rfl | rfl | rfl | rfl | rfl | rfl | rfl | rfl
    · rw [show dfl 1 = [97, 100] by decide, show mostK 1 = 900 by decide]
      go_enter Tryd.func34, Tryd.ntmps34
      go_wp2_with fail
      exact bodyPost_ret (v := .tuple #[.string ⟨#[97, 100]⟩, .int .i64 900]) (by simp [results, Tryd.results34, go_sem]) rfl ⟨rfl, by (unfold Kept; repeat (first | exact Below.refl _ _ | assumption | (refine Below.alloc ?_ (by simp) _) | (refine Below.setCell ?_ (by simp) _) | (refine Below.drew ?_) | (refine _root_.Go.below_drewN ?_ _)))⟩
    · rw [show dfl 2 = [114, 97, 107] by decide, show mostK 2 = 64 by decide]
      go_enter Tryd.func34, Tryd.ntmps34
      go_wp2_with fail
      exact bodyPost_ret (v := .tuple #[.string ⟨#[114, 97, 107]⟩, .int .i64 64]) (by simp [results, Tryd.results34, go_sem]) rfl ⟨rfl, by (unfold Kept; repeat (first | exact Below.refl _ _ | assumption | (refine Below.alloc ?_ (by simp) _) | (refine Below.setCell ?_ (by simp) _) | (refine Below.drew ?_) | (refine _root_.Go.below_drewN ?_ _)))⟩
    · rw [show dfl 3 = [114, 116, 121] by decide, show mostK 3 = 64 by decide]
      go_enter Tryd.func34, Tryd.ntmps34
      go_wp2_with fail
      exact bodyPost_ret (v := .tuple #[.string ⟨#[114, 116, 121]⟩, .int .i64 64]) (by simp [results, Tryd.results34, go_sem]) rfl ⟨rfl, by (unfold Kept; repeat (first | exact Below.refl _ _ | assumption | (refine Below.alloc ?_ (by simp) _) | (refine Below.setCell ?_ (by simp) _) | (refine Below.drew ?_) | (refine _root_.Go.below_drewN ?_ _)))⟩
    · rw [show dfl 4 = [114, 116, 121, 100] by decide, show mostK 4 = 64 by decide]
      go_enter Tryd.func34, Tryd.ntmps34
      go_wp2_with fail
      exact bodyPost_ret (v := .tuple #[.string ⟨#[114, 116, 121, 100]⟩, .int .i64 64]) (by simp [results, Tryd.results34, go_sem]) rfl ⟨rfl, by (unfold Kept; repeat (first | exact Below.refl _ _ | assumption | (refine Below.alloc ?_ (by simp) _) | (refine Below.setCell ?_ (by simp) _) | (refine Below.drew ?_) | (refine _root_.Go.below_drewN ?_ _)))⟩
    · rw [show dfl 5 = [114, 116, 121] by decide, show mostK 5 = 64 by decide]
      go_enter Tryd.func34, Tryd.ntmps34
      go_wp2_with fail
      exact bodyPost_ret (v := .tuple #[.string ⟨#[114, 116, 121]⟩, .int .i64 64]) (by simp [results, Tryd.results34, go_sem]) rfl ⟨rfl, by (unfold Kept; repeat (first | exact Below.refl _ _ | assumption | (refine Below.alloc ?_ (by simp) _) | (refine Below.setCell ?_ (by simp) _) | (refine Below.drew ?_) | (refine _root_.Go.below_drewN ?_ _)))⟩
    · rw [show dfl 6 = [110] by decide, show mostK 6 = 64 by decide]
      go_enter Tryd.func34, Tryd.ntmps34
      go_wp2_with fail
      exact bodyPost_ret (v := .tuple #[.string ⟨#[110]⟩, .int .i64 64]) (by simp [results, Tryd.results34, go_sem]) rfl ⟨rfl, by (unfold Kept; repeat (first | exact Below.refl _ _ | assumption | (refine Below.alloc ?_ (by simp) _) | (refine Below.setCell ?_ (by simp) _) | (refine Below.drew ?_) | (refine _root_.Go.below_drewN ?_ _)))⟩
    · rw [show dfl 7 = [114, 97] by decide, show mostK 7 = 64 by decide]
      go_enter Tryd.func34, Tryd.ntmps34
      go_wp2_with fail
      exact bodyPost_ret (v := .tuple #[.string ⟨#[114, 97]⟩, .int .i64 64]) (by simp [results, Tryd.results34, go_sem]) rfl ⟨rfl, by (unfold Kept; repeat (first | exact Below.refl _ _ | assumption | (refine Below.alloc ?_ (by simp) _) | (refine Below.setCell ?_ (by simp) _) | (refine Below.drew ?_) | (refine _root_.Go.below_drewN ?_ _)))⟩
    · rw [show dfl 8 = [114] by decide, show mostK 8 = 64 by decide]
      go_enter Tryd.func34, Tryd.ntmps34
      go_wp2_with fail
      exact bodyPost_ret (v := .tuple #[.string ⟨#[114]⟩, .int .i64 64]) (by simp [results, Tryd.results34, go_sem]) rfl ⟨rfl, by (unfold Kept; repeat (first | exact Below.refl _ _ | assumption | (refine Below.alloc ?_ (by simp) _) | (refine Below.setCell ?_ (by simp) _) | (refine Below.drew ?_) | (refine _root_.Go.below_drewN ?_ _)))⟩
    · rw [show dfl 9 = [110] by decide, show mostK 9 = 64 by decide]
      go_enter Tryd.func34, Tryd.ntmps34
      go_wp2_with fail
      exact bodyPost_ret (v := .tuple #[.string ⟨#[110]⟩, .int .i64 64]) (by simp [results, Tryd.results34, go_sem]) rfl ⟨rfl, by (unfold Kept; repeat (first | exact Below.refl _ _ | assumption | (refine Below.alloc ?_ (by simp) _) | (refine Below.setCell ?_ (by simp) _) | (refine Below.drew ?_) | (refine _root_.Go.below_drewN ?_ _)))⟩
  · have hd : dfl k = [] := by
      unfold dfl
      rw [if_neg (by omega), if_neg (by omega), if_neg (by omega), if_neg (by omega), if_neg (by omega), if_neg (by omega), if_neg (by omega), if_neg (by omega), if_neg (by omega)]
    have hm : mostK k = 0 := by
      unfold mostK
      rw [if_neg (by omega), if_neg hk]
    rw [hd, hm]
    have h2 : k < 1 ∨ (1 ≤ k ∧ 9 < k) := by omega
    clear hk hd hm
    rcases h2 with h | ⟨h, h2⟩
    all_goals
      go_enter Tryd.func34, Tryd.ntmps34
      go_wp2_with fail
      exact bodyPost_ret (v := .tuple #[.string ⟨#[]⟩, .int .i64 0]) (by simp [results, Tryd.results34, go_sem]) rfl ⟨rfl, by (unfold Kept; repeat (first | exact Below.refl _ _ | assumption | (refine Below.alloc ?_ (by simp) _) | (refine Below.setCell ?_ (by simp) _) | (refine Below.drew ?_) | (refine _root_.Go.below_drewN ?_ _)))⟩
theorem has_get (k : Int) (c : UInt8) (s : ByteArray) (hs : s = ⟨(dfl k).toArray⟩) (i : Nat) (hi : i < s.size) : (((s[i]'hi).toNat : Int) == (c.toNat : Int)) = ((dfl k).getD i 0 == c) ∧ i < (dfl k).length := by
  subst hs
  have h2 : i < (dfl k).length := by
    have : (dfl k).toArray.size = (dfl k).length := by simp
    have hi : i < (dfl k).toArray.size := hi
    omega
  refine ⟨?_, h2⟩
  have hc : (⟨(dfl k).toArray⟩ : ByteArray)[i] = (dfl k)[i]'h2 := by
    show (dfl k).toArray[i]'(by simpa using h2) = _
    simp
  rw [hc, List.getD_eq_getElem?_getD, List.getElem?_eq_getElem h2, Option.getD_some, Bool.eq_iff_iff, beq_iff_eq, beq_iff_eq]
  constructor
  · intro h
    apply UInt8.toNat_inj.1
    omega
  · intro h; rw [h]
set_option maxRecDepth 100000 in
set_option maxHeartbeats 2000000 in
theorem rv_has (k : Int) (c : UInt8) (w : World) : Calls Tryd.prog 38 #[.int .i64 k, .int .u8 (c.toNat : Nat)] w fun e w' => e = .returned (.bool (hasB k c)) ∧ Kept w w' := by
  have HF := Lib.hid (fun W => rv_fields k W)
  obtain ⟨s, hs⟩ : ∃ s : ByteArray, s = ⟨(dfl k).toArray⟩ := ⟨_, rfl⟩
  rw [← hs] at HF
  have HG := Lib.hid (fun i hi => has_get k c s hs i hi)
  have hsz : s.size = (dfl k).length := by rw [hs]; show (dfl k).toArray.size = _; simp
  have h4 : s.size ≤ 4 := by
    rw [hsz]; unfold dfl
    repeat' split
    all_goals simp
  have HB : Hid (∀ i, hasB k c = ((dfl k).take i ++ (dfl k).drop i).contains c) := fun i => by rw [List.take_append_drop]; rfl
  generalize hbb : hasB k c = b at HB
  have HBB := Lib.hid hbb
  have Hsz := Lib.hid hsz
  clear hs hsz hbb
  generalize dfl k = l at *
  go_enter Tryd.func38, Tryd.ntmps38
  go_wp2_with fail
  refine (HF.out _).mono ?_
  rintro E V ⟨rfl, hK⟩
  have HK := Lib.hid hK
  clear hK HF
  go_wp2_with fail
  go_loopw [7] (fun vi wr => ∃ i : Nat, vi = .int .i64 (i : Nat) ∧ i ≤ s.size ∧ Hid ((l.take i).contains c = false) ∧ wr = V) (fun vi _ => s.size - (intOf vi).toNat)
  case atStart => exact ⟨0, rfl, by omega, by simp [Hid], rfl⟩
  case round =>
    obtain ⟨i, rfl, hi, HN, rfl⟩ := hrel
    by_cases hlt : i < s.size
    · have hlt' : (i : Int) < s.size := by omega
      obtain ⟨hg, hil⟩ := HG.out i hlt
      by_cases hc : l.getD i 0 = c
      · have hq := beq_iff_eq.2 hc
        rw [hq] at hg
        have HT : Hid (b = true) := by
          unfold Hid
          rw [HB.out i, List.drop_eq_getElem_cons hil]
          rw [List.getD_eq_getElem?_getD, List.getElem?_eq_getElem hil, Option.getD_some] at hc
          simp [hc]
        clear hc hq HG HN
        go_wp2_with fail
        go_ret
        exact ⟨by rw [HT.out]; rfl, HK.out⟩
      · have hq := beq_eq_false_iff_ne.2 hc
        rw [hq] at hg
        have HN2 : Hid ((l.take (i + 1)).contains c = false) := by
          unfold Hid
          rw [List.getD_eq_getElem?_getD, List.getElem?_eq_getElem hil, Option.getD_some] at hc
          have := HN.out
          rw [List.take_succ_eq_append_getElem hil]
          simp only [List.contains_eq_mem, List.mem_append, List.mem_singleton, decide_eq_false_iff_not, not_or] at this ⊢
          exact ⟨this, fun e => hc e.symm⟩
        clear hc hq HG HN
        go_wp2_with fail
        go_roundw
        case rel => exact ⟨i + 1, by go_num, by omega, HN2, trivial⟩
        case measure => simp [intOf]; omega
    · have hge : (s.size : Int) ≤ i := by omega
      have HT : Hid (b = false) := by
        unfold Hid
        rw [HB.out i, List.drop_eq_nil_of_le (by have := Hsz.out; omega), List.append_nil]
        exact HN.out
      clear HN HG
      go_wp2_with fail
      go_ret
      exact ⟨by rw [HT.out]; rfl, HK.out⟩
def wB (yes : Bool) (n lo hi : Int) : Bool := if yes = true then decide (lo ≤ n) && decide (n ≤ hi) else decide (n = 0)
theorem rv_within (yes : Bool) (n lo hi : Int) (w : World) : Calls Tryd.prog 37 #[.bool yes, .int .i64 n, .int .i64 lo, .int .i64 hi] w fun e w' => e = .returned (.bool (wB yes n lo hi)) ∧ w = w' := by
  cases yes with
  | false =>
    rw [show wB false n lo hi = decide (n = 0) from rfl]
    by_cases h : n = 0
    · subst h
      go_enter Tryd.func37, Tryd.ntmps37
      go_wp2_with fail
      go_ret
      exact ⟨rfl, rfl⟩
    · rw [decide_eq_false h]
      have h := beq_eq_false_iff_ne.2 h
      go_enter Tryd.func37, Tryd.ntmps37
      go_wp2_with fail
      go_ret
      exact ⟨rfl, rfl⟩
  | true =>
    rw [show wB true n lo hi = (decide (lo ≤ n) && decide (n ≤ hi)) from rfl]
    by_cases h : lo ≤ n
    · rw [decide_eq_true h]
      go_enter Tryd.func37, Tryd.ntmps37
      go_wp2_with fail
      go_ret
      exact ⟨rfl, rfl⟩
    · rw [decide_eq_false h]
      have h := Int.not_le.1 h
      go_enter Tryd.func37, Tryd.ntmps37
      go_wp2_with fail
      go_ret
      exact ⟨rfl, rfl⟩
end Go.Proofs.YteaepgbakcifkaaDoor
