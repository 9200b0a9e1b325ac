/- The document's PutEvent. -/
import Derived.Test.YteaepgbakcifkaaDoorEvD5
set_option linter.unusedVariables false
set_option linter.unusedSimpArgs false
namespace Go.Proofs.YteaepgbakcifkaaDoor
open Go.RowKit
/-- a letter of the program's in the document -/
def dl (c : UInt8) : UInt8 := if c = 77 then 97 else c + 32
theorem dfl_eq (k : Int) : dfl k = (flds k).map dl := by
  rcases kinds k with rfl | rfl | rfl | rfl | rfl | rfl | rfl | rfl | rfl | h
  case inr.inr.inr.inr.inr.inr.inr.inr.inr =>
    rw [flds_none h]
    unfold dfl
    obtain ⟨h1, h2, h3, h4, h5, h6, h7, h8, h9⟩ := h
    rw [if_neg h1, if_neg h2, if_neg h3, if_neg h4, if_neg h5, if_neg h6, if_neg h7, if_neg h8, if_neg h9]
    rfl
  all_goals decide
/-- the letter at a place -/
theorem dl_at {k : Int} {s : ByteArray} (hs : (⟨(dfl k).toArray⟩ : ByteArray) = s) (i : Nat) (hi : i < s.size) : ∃ h : i < (flds k).length, (s[i]'hi) = dl ((flds k)[i]'h) ∧ ltr ((flds k)[i]'h) := by
  subst hs
  have hl : i < (dfl k).length := by
    have hi : i < (dfl k).toArray.size := hi
    simpa using hi
  have h2 : i < (flds k).length := by rw [dfl_eq, List.length_map] at hl; exact hl
  refine ⟨h2, ?_, flds_ltr _ _ (List.getElem_mem _)⟩
  have hc : (⟨(dfl k).toArray⟩ : ByteArray)[i] = (dfl k)[i]'hl := by
    show (dfl k).toArray[i]'(by simpa using hl) = _
    simp
  rw [hc]
  simp only [dfl_eq, List.getElem_map]
set_option maxRecDepth 100000 in
set_option maxHeartbeats 8000000 in
theorem rv_put_yes (e : EV) (hg : goodE e = true) (w : World) : Calls Tryd.prog 15 #[evV e] w fun E w' => ∃ a c, E = .returned (.slice a (encEv e).length c) ∧ Sl .u8 w' a (encEv e).length c (encEv e) ∧ Kept w w' := by
  obtain ⟨hne, hon, hok⟩ := (goodE_iff e).1 hg
  have hkd := flds_kind hne
  have hnm : e.nm.size ≤ 281474976710656 := by
    by_cases h : (77 : UInt8) ∈ flds e.k
    · have := okF_nm (hok 77 h); omega
    · have h2 : ∀ l : List UInt8, (77 : UInt8) ∉ l → ∀ x : EV, (l.foldl (setF e) x).nm = x.nm := by
        intro l
        induction l with
        | nil => intro _ x; rfl
        | cons c l ih =>
          intro hm x
          rw [List.foldl_cons, ih (fun h => hm (List.mem_cons_of_mem _ h))]
          have hc : c ≠ 77 := fun e => hm (by rw [e]; exact List.mem_cons_self ..)
          unfold setF
          repeat' split
          all_goals first | rfl | (exfalso; exact hc (by assumption))
      have := h2 _ h (kindE e.k)
      rw [show (flds e.k).foldl (setF e) (kindE e.k) = onlyE e (flds e.k) from rfl, hon] at this
      rw [this]
      exact (by decide : emp.size ≤ 281474976710656)
  have HF := Lib.hid (fun W => rv_fields e.k W)
  have HGd := Lib.hid (fun W => rv_good e hnm W)
  rw [goodD_eq, hg] at HGd
  obtain ⟨s, hs⟩ : ∃ s : ByteArray, (⟨(dfl e.k).toArray⟩ : ByteArray) = s := ⟨_, rfl⟩
  rw [hs] at HF
  have HG := Lib.hid (fun (i : Nat) (hi : i < s.size) => (by
    obtain ⟨h, h1, h2⟩ := dl_at hs i hi
    exact ⟨(flds e.k)[i]'h, h2, h1, hok _ (List.getElem_mem _), encL_succ e (flds e.k) i h⟩ : ∃ c, ltr c ∧ s[i]'hi = dl c ∧ okF e c.toNat = true ∧ encL e ((flds e.k).take (i + 1)) = encL e ((flds e.k).take i) ++ encFld e c))
  have hsz : s.size = (flds e.k).length := by rw [← hs]; show (dfl e.k).toArray.size = _; simp [dfl_eq]
  have h4 : s.size ≤ 4 := by rw [hsz]; exact flds_len e.k
  have HL := Lib.hid (show encL e ((flds e.k).take s.size) = encEv e by rw [hsz, List.take_of_length_le (Nat.le_refl _)]; rfl)
  have H0 := Lib.hid (show encL e ((flds e.k).take 0) = [] ++ encU e.k by simp [encL])
  clear hsz hne hon hok hg hs hnm
  generalize flds e.k = l at *
  obtain ⟨M, hM⟩ : ∃ M, mostK e.k = M := ⟨_, rfl⟩
  rw [hM] at HF
  clear hM
  obtain ⟨k1, k9⟩ := hkd
  go_enter Tryd.func15, Tryd.ntmps15
  go_wp2_with fail
  refine (HGd.out _).mono ?_
  rintro E V ⟨rfl, hK⟩
  have HQ := Lib.hid (hK.only.heap (heap_alloc_new w (evOd e)) (by simp))
  have HK := Lib.hid (Kept.trans (show Kept w (w.alloc (evOd e)) by (unfold Kept; repeat (first | exact Below.refl _ _ | assumption | (refine Below.alloc ?_ (by simp) _) | (refine Below.setCell ?_ (by simp) _) | (refine Below.drew ?_) | (refine _root_.Go.below_drewN ?_ _)))) hK)
  clear hK HGd
  generalize w.heap.size = q at *
  obtain ⟨a0, a1, a2, a3, a4, a5, a6, a7⟩ := evd_cells HQ.out
  go_wp2_with fail
  refine (rput_U none 0 0 [] e.k V (sl_nil .u8 V) (by omega) (by omega) (by omega)).mono ?_
  rintro E V1 ⟨b0, d0, rfl, hS1, hK1⟩
  rw [← H0.out] at hS1
  rw [← H0.out]
  have HQ1 := Lib.hid (hK1.only.heap HQ.out (by simp))
  have HK1 := Lib.hid (HK.out.trans hK1)
  have hl0 : (encL e (l.take 0)).length ≤ 10 := by rw [H0.out]; have := (lenU_le e.k).2; unfold lenU at this; simpa using this
  obtain ⟨y0, hy0⟩ : ∃ y0, encL e (l.take 0) = y0 := ⟨_, rfl⟩
  rw [hy0] at hS1 hl0
  rw [hy0]
  have HY0 := Lib.hid hy0
  have HS1 := Lib.hid hS1
  obtain ⟨n0, hn0⟩ : ∃ n0, y0.length = n0 := ⟨_, rfl⟩
  rw [hn0] at HS1 hl0
  rw [hn0]
  clear hy0 hS1 hK1 hn0 HQ HK a0 a1 a2 a3 a4 a5 a6 a7 H0
  obtain ⟨a0, a1, a2, a3, a4, a5, a6, a7⟩ := evd_cells HQ1.out
  go_wp2_with fail
  refine (HF.out _).mono ?_
  rintro E V2 ⟨rfl, hK2⟩
  have HQ2 := Lib.hid (hK2.only.heap HQ1.out (by simp))
  have HK2 := Lib.hid (HK1.out.trans hK2)
  have HS2 := Lib.hid (hK2.sl HS1.out)
  clear hK2 HQ1 HK1 HS1 a0 a1 a2 a3 a4 a5 a6 a7 HF
  go_wp2_with fail
  go_loopw [3, 6] (fun vb vi wr => ∃ (i : Nat) (b : Option Addr) (m d : Nat) (ys : List Int), vi = .int .i64 (i : Nat) ∧ vb = .slice b m d ∧ i ≤ s.size ∧ m ≤ 10 + 1034 * i ∧ Hid (Sl .u8 wr b m d ys) ∧ Hid (encL e (l.take i) = ys) ∧ Hid (Kept w wr) ∧ Hid (wr.heap[q]? = some (evOd e))) (fun _ vi _ => s.size - (intOf vi).toNat)
  case atStart => exact ⟨0, b0, n0, d0, y0, rfl, rfl, by omega, by omega, HS2, HY0, HK2, HQ2⟩
  case round =>
    obtain ⟨i, b, m, d, ys, rfl, rfl, hi, hm, HS, HY, HK, HQ⟩ := hrel
    clear HS2 HY0 HK2 HQ2
    by_cases hlt : i < s.size
    · have hlt' : (i : Int) < s.size := by omega
      obtain ⟨c, hc, hgl, hok, hnext⟩ := HG.out i hlt
      have HN := Lib.hid hnext
      have HOK := Lib.hid hok
      clear hnext hok
      obtain ⟨a0, a1, a2, a3, a4, a5, a6, a7⟩ := evd_cells HQ.out
      rcases hc with rfl | rfl | rfl | rfl | rfl | rfl | rfl
      · have HEN := Lib.hid (show encFld e 82 = encU e.r from rfl)
        have hgc : ((s[i]'hlt).toNat : Int) = 114 := by rw [hgl]; rfl
        obtain ⟨hb1, hb2⟩ := okF_r HOK.out
        have HP2 := Lib.hid (rput_U b m d ys e.r wr HS.out (by omega) (by omega) (by omega))
        have HNX : Hid (encL e (l.take (i + 1)) = ys ++ encU e.r) := by unfold Hid; rw [HN.out, HEN.out, HY.out]
        have hlen : (ys ++ encU e.r).length ≤ m + 1034 := by
          have h1 := HS.out.1
          rw [List.length_append, h1]
          have := (lenU_le e.r).2; unfold lenU at this; omega
        generalize hzz : ys ++ encU e.r = zz at HP2 HNX hlen
        generalize hzl : zz.length = zl at HP2 hlen
        have HZL := Lib.hid hzl
        clear hgl hzz hzl HEN HN HG
        go_wp2_with fail
        refine HP2.out.mono ?_
        rintro E w2 ⟨a2, c2, rfl, hS2, hK2⟩
        have HS2 := Lib.hid hS2
        have HK2 := Lib.hid (HK.out.trans hK2)
        have HQ2 := Lib.hid (hK2.only.heap HQ.out (by simp))
        clear hS2 hK2
        go_wp2_with fail
        go_roundw
        case rel => exact ⟨i + 1, a2, zl, c2, zz, by go_num, rfl, by omega, by omega, HS2, HNX, HK2, HQ2⟩
        case measure => simp [intOf]; omega
      · have HEN := Lib.hid (show encFld e 84 = encU e.t from rfl)
        have hgc : ((s[i]'hlt).toNat : Int) = 116 := by rw [hgl]; rfl
        obtain ⟨hb1, hb2⟩ := okF_t HOK.out
        have HP2 := Lib.hid (rput_U b m d ys e.t wr HS.out (by omega) (by omega) (by omega))
        have HNX : Hid (encL e (l.take (i + 1)) = ys ++ encU e.t) := by unfold Hid; rw [HN.out, HEN.out, HY.out]
        have hlen : (ys ++ encU e.t).length ≤ m + 1034 := by
          have h1 := HS.out.1
          rw [List.length_append, h1]
          have := (lenU_le e.t).2; unfold lenU at this; omega
        generalize hzz : ys ++ encU e.t = zz at HP2 HNX hlen
        generalize hzl : zz.length = zl at HP2 hlen
        have HZL := Lib.hid hzl
        clear hgl hzz hzl HEN HN HG
        go_wp2_with fail
        refine HP2.out.mono ?_
        rintro E w2 ⟨a2, c2, rfl, hS2, hK2⟩
        have HS2 := Lib.hid hS2
        have HK2 := Lib.hid (HK.out.trans hK2)
        have HQ2 := Lib.hid (hK2.only.heap HQ.out (by simp))
        clear hS2 hK2
        go_wp2_with fail
        go_roundw
        case rel => exact ⟨i + 1, a2, zl, c2, zz, by go_num, rfl, by omega, by omega, HS2, HNX, HK2, HQ2⟩
        case measure => simp [intOf]; omega
      · have HEN := Lib.hid (show encFld e 89 = encU e.y from rfl)
        have hgc : ((s[i]'hlt).toNat : Int) = 121 := by rw [hgl]; rfl
        obtain ⟨hb1, hb2⟩ := okF_y HOK.out
        have HP2 := Lib.hid (rput_U b m d ys e.y wr HS.out (by omega) (by omega) (by omega))
        have HNX : Hid (encL e (l.take (i + 1)) = ys ++ encU e.y) := by unfold Hid; rw [HN.out, HEN.out, HY.out]
        have hlen : (ys ++ encU e.y).length ≤ m + 1034 := by
          have h1 := HS.out.1
          rw [List.length_append, h1]
          have := (lenU_le e.y).2; unfold lenU at this; omega
        generalize hzz : ys ++ encU e.y = zz at HP2 HNX hlen
        generalize hzl : zz.length = zl at HP2 hlen
        have HZL := Lib.hid hzl
        clear hgl hzz hzl HEN HN HG
        go_wp2_with fail
        refine HP2.out.mono ?_
        rintro E w2 ⟨a2, c2, rfl, hS2, hK2⟩
        have HS2 := Lib.hid hS2
        have HK2 := Lib.hid (HK.out.trans hK2)
        have HQ2 := Lib.hid (hK2.only.heap HQ.out (by simp))
        clear hS2 hK2
        go_wp2_with fail
        go_roundw
        case rel => exact ⟨i + 1, a2, zl, c2, zz, by go_num, rfl, by omega, by omega, HS2, HNX, HK2, HQ2⟩
        case measure => simp [intOf]; omega
      · have HEN := Lib.hid (show encFld e 78 = encU e.n from rfl)
        have hgc : ((s[i]'hlt).toNat : Int) = 110 := by rw [hgl]; rfl
        obtain ⟨hb1, hb2⟩ := okF_n HOK.out
        have HP2 := Lib.hid (rput_U b m d ys e.n wr HS.out (by omega) (by omega) (by omega))
        have HNX : Hid (encL e (l.take (i + 1)) = ys ++ encU e.n) := by unfold Hid; rw [HN.out, HEN.out, HY.out]
        have hlen : (ys ++ encU e.n).length ≤ m + 1034 := by
          have h1 := HS.out.1
          rw [List.length_append, h1]
          have := (lenU_le e.n).2; unfold lenU at this; omega
        generalize hzz : ys ++ encU e.n = zz at HP2 HNX hlen
        generalize hzl : zz.length = zl at HP2 hlen
        have HZL := Lib.hid hzl
        clear hgl hzz hzl HEN HN HG
        go_wp2_with fail
        refine HP2.out.mono ?_
        rintro E w2 ⟨a2, c2, rfl, hS2, hK2⟩
        have HS2 := Lib.hid hS2
        have HK2 := Lib.hid (HK.out.trans hK2)
        have HQ2 := Lib.hid (hK2.only.heap HQ.out (by simp))
        clear hS2 hK2
        go_wp2_with fail
        go_roundw
        case rel => exact ⟨i + 1, a2, zl, c2, zz, by go_num, rfl, by omega, by omega, HS2, HNX, HK2, HQ2⟩
        case measure => simp [intOf]; omega
      · have HEN := Lib.hid (show encFld e 77 = encS (ofStr e.nm) from rfl)
        have hgc : ((s[i]'hlt).toNat : Int) = 97 := by rw [hgl]; rfl
        have hb1 : e.nm.size ≤ 1024 := by have := okF_nm HOK.out; omega
        have HP2 := Lib.hid (rput_S b m d ys e.nm wr HS.out (by omega) hb1)
        have HNX : Hid (encL e (l.take (i + 1)) = ys ++ encS (ofStr e.nm)) := by unfold Hid; rw [HN.out, HEN.out, HY.out]
        have hlen : (ys ++ encS (ofStr e.nm)).length ≤ m + 1034 := by
          have h1 := HS.out.1
          rw [List.length_append, h1]
          unfold encS; rw [List.length_append, ofStr_len]; have := (lenU_le (e.nm.size : Int)).2; unfold lenU at this; omega
        generalize hzz : ys ++ encS (ofStr e.nm) = zz at HP2 HNX hlen
        generalize hzl : zz.length = zl at HP2 hlen
        have HZL := Lib.hid hzl
        clear hgl hzz hzl HEN HN HG
        go_wp2_with fail
        refine HP2.out.mono ?_
        rintro E w2 ⟨a2, c2, rfl, hS2, hK2⟩
        have HS2 := Lib.hid hS2
        have HK2 := Lib.hid (HK.out.trans hK2)
        have HQ2 := Lib.hid (hK2.only.heap HQ.out (by simp))
        clear hS2 hK2
        go_wp2_with fail
        go_roundw
        case rel => exact ⟨i + 1, a2, zl, c2, zz, by go_num, rfl, by omega, by omega, HS2, HNX, HK2, HQ2⟩
        case measure => simp [intOf]; omega
      · have HEN := Lib.hid (show encFld e 75 = encS (ofStr e.ky) from rfl)
        have hgc : ((s[i]'hlt).toNat : Int) = 107 := by rw [hgl]; rfl
        have hb1 : e.ky.size ≤ 1024 := by have := okF_ky HOK.out; omega
        have HP2 := Lib.hid (rput_S b m d ys e.ky wr HS.out (by omega) hb1)
        have HNX : Hid (encL e (l.take (i + 1)) = ys ++ encS (ofStr e.ky)) := by unfold Hid; rw [HN.out, HEN.out, HY.out]
        have hlen : (ys ++ encS (ofStr e.ky)).length ≤ m + 1034 := by
          have h1 := HS.out.1
          rw [List.length_append, h1]
          unfold encS; rw [List.length_append, ofStr_len]; have := (lenU_le (e.ky.size : Int)).2; unfold lenU at this; omega
        generalize hzz : ys ++ encS (ofStr e.ky) = zz at HP2 HNX hlen
        generalize hzl : zz.length = zl at HP2 hlen
        have HZL := Lib.hid hzl
        clear hgl hzz hzl HEN HN HG
        go_wp2_with fail
        refine HP2.out.mono ?_
        rintro E w2 ⟨a2, c2, rfl, hS2, hK2⟩
        have HS2 := Lib.hid hS2
        have HK2 := Lib.hid (HK.out.trans hK2)
        have HQ2 := Lib.hid (hK2.only.heap HQ.out (by simp))
        clear hS2 hK2
        go_wp2_with fail
        go_roundw
        case rel => exact ⟨i + 1, a2, zl, c2, zz, by go_num, rfl, by omega, by omega, HS2, HNX, HK2, HQ2⟩
        case measure => simp [intOf]; omega
      · have HEN := Lib.hid (show encFld e 68 = encS (ofStr e.dt) from rfl)
        have hgc : ((s[i]'hlt).toNat : Int) = 100 := by rw [hgl]; rfl
        have hb1 : e.dt.size ≤ 1024 := by have := okF_dt HOK.out; omega
        have HP2 := Lib.hid (rput_S b m d ys e.dt wr HS.out (by omega) hb1)
        have HNX : Hid (encL e (l.take (i + 1)) = ys ++ encS (ofStr e.dt)) := by unfold Hid; rw [HN.out, HEN.out, HY.out]
        have hlen : (ys ++ encS (ofStr e.dt)).length ≤ m + 1034 := by
          have h1 := HS.out.1
          rw [List.length_append, h1]
          unfold encS; rw [List.length_append, ofStr_len]; have := (lenU_le (e.dt.size : Int)).2; unfold lenU at this; omega
        generalize hzz : ys ++ encS (ofStr e.dt) = zz at HP2 HNX hlen
        generalize hzl : zz.length = zl at HP2 hlen
        have HZL := Lib.hid hzl
        clear hgl hzz hzl HEN HN HG
        go_wp2_with fail
        refine HP2.out.mono ?_
        rintro E w2 ⟨a2, c2, rfl, hS2, hK2⟩
        have HS2 := Lib.hid hS2
        have HK2 := Lib.hid (HK.out.trans hK2)
        have HQ2 := Lib.hid (hK2.only.heap HQ.out (by simp))
        clear hS2 hK2
        go_wp2_with fail
        go_roundw
        case rel => exact ⟨i + 1, a2, zl, c2, zz, by go_num, rfl, by omega, by omega, HS2, HNX, HK2, HQ2⟩
        case measure => simp [intOf]; omega
    · have hge : (s.size : Int) ≤ i := by omega
      obtain rfl : i = s.size := by omega
      have HR := Lib.hid (HL.out.symm.trans HY.out)
      clear HG HL
      have hlen := HS.out.1
      go_wp2_with fail
      go_ret
      exact ⟨b, d, by rw [HR.out, hlen]; rfl, by rw [HR.out, hlen]; exact HS.out, HK.out⟩
set_option maxRecDepth 100000 in
set_option maxHeartbeats 4000000 in
theorem rv_put_no (e : EV) (hs : e.nm.size ≤ 281474976710656) (hg : goodE e = false) (w : World) : Calls Tryd.prog 15 #[evV e] w fun E w' => E = .returned (.slice none 0 0) ∧ Kept w w' := by
  have HGd := Lib.hid (fun W => rv_good e hs W)
  rw [goodD_eq, hg] at HGd
  clear hg
  go_enter Tryd.func15, Tryd.ntmps15
  go_wp2_with fail
  refine (HGd.out _).mono ?_
  rintro E V ⟨rfl, hK⟩
  have HK := Lib.hid (Kept.trans (show Kept w (w.alloc (evOd e)) by (unfold Kept; repeat (first | exact Below.refl _ _ | assumption | (refine Below.alloc ?_ (by simp) _) | (refine Below.setCell ?_ (by simp) _) | (refine Below.drew ?_) | (refine _root_.Go.below_drewN ?_ _)))) hK)
  clear hK
  go_wp2_with fail
  go_ret
  exact ⟨rfl, HK.out⟩
end Go.Proofs.YteaepgbakcifkaaDoor
