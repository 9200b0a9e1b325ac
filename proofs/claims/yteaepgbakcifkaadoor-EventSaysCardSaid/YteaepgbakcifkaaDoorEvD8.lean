/- The document's ShowEvent. -/
import Derived.Test.YteaepgbakcifkaaDoorEvD6
import Derived.Test.YteaepgbakcifkaaDoorEvNum
import Derived.Test.YteaepgbakcifkaaDoorEvM4
set_option linter.unusedVariables false
set_option linter.unusedSimpArgs false
namespace Go.Proofs.YteaepgbakcifkaaDoor
open Go.RowKit
theorem joinB_succ (e : EV) (l : List UInt8) (i : Nat) (h : i < l.length) : joinB (showL e (l.take (i + 1))) = joinB (showL e (l.take i)) ++ ⟨#[32]⟩ ++ fldTxt e (l[i]'h) := by
  unfold joinB showL
  rw [List.take_succ_eq_append_getElem h]
  apply ByteArray.ext
  rw [ByteArray.data_append, ByteArray.data_append]
  simp only [List.map_cons, List.map_append, Lib.join_cons, Lib.joinTail, List.map_nil, List.flatten_append]
  apply Array.ext'
  simp
theorem joinB_zero (e : EV) (l : List UInt8) : joinB (showL e (l.take 0)) = ⟨(wordK e.k).toArray⟩ := by
  unfold joinB showL
  simp [Lib.join_one]
def kWords : Obj := .cells #[.string ⟨#[]⟩, .string ⟨#[100, 101, 102, 105, 110, 101]⟩, .string ⟨#[115, 116, 97, 114, 116]⟩, .string ⟨#[108, 101, 97, 115, 101]⟩, .string ⟨#[100, 111, 110, 101]⟩, .string ⟨#[102, 97, 105, 108]⟩, .string ⟨#[116, 105, 99, 107]⟩, .string ⟨#[115, 105, 103, 110, 97, 108]⟩, .string ⟨#[99, 97, 110, 99, 101, 108]⟩, .string ⟨#[101, 112, 111, 99, 104]⟩] 9 (0, 0)
theorem kWords_at (w : World) (k : Nat) (h1 : 1 ≤ k) (h9 : k ≤ 9) : (w.alloc kWords).cell? ⟨w.heap.size, k, none⟩ = some (.string ⟨(wordK k).toArray⟩) := by
  have hB : (w.alloc kWords).heap[w.heap.size]? = some kWords := heap_alloc_new w kWords
  have hk : k = 1 ∨ k = 2 ∨ k = 3 ∨ k = 4 ∨ k = 5 ∨ k = 6 ∨ k = 7 ∨ k = 8 ∨ k = 9 := by omega
  rcases hk with rfl | rfl | rfl | rfl | rfl | rfl | rfl | rfl | rfl
  · rw [show wordK ((1 : Nat) : Int) = [100, 101, 102, 105, 110, 101] by decide]; exact at_cell hB 1 _ rfl
  · rw [show wordK ((2 : Nat) : Int) = [115, 116, 97, 114, 116] by decide]; exact at_cell hB 2 _ rfl
  · rw [show wordK ((3 : Nat) : Int) = [108, 101, 97, 115, 101] by decide]; exact at_cell hB 3 _ rfl
  · rw [show wordK ((4 : Nat) : Int) = [100, 111, 110, 101] by decide]; exact at_cell hB 4 _ rfl
  · rw [show wordK ((5 : Nat) : Int) = [102, 97, 105, 108] by decide]; exact at_cell hB 5 _ rfl
  · rw [show wordK ((6 : Nat) : Int) = [116, 105, 99, 107] by decide]; exact at_cell hB 6 _ rfl
  · rw [show wordK ((7 : Nat) : Int) = [115, 105, 103, 110, 97, 108] by decide]; exact at_cell hB 7 _ rfl
  · rw [show wordK ((8 : Nat) : Int) = [99, 97, 110, 99, 101, 108] by decide]; exact at_cell hB 8 _ rfl
  · rw [show wordK ((9 : Nat) : Int) = [101, 112, 111, 99, 104] by decide]; exact at_cell hB 9 _ rfl
theorem nm_small (e : EV) (hg : goodE e = true) : e.nm.size ≤ 281474976710656 := by
  obtain ⟨hne, hon, hok⟩ := (goodE_iff e).1 hg
  by_cases h : (77 : UInt8) ∈ flds e.k
  · have := okF_nm (hok 77 h); omega
  · have h2 : ∀ l : List UInt8, (77 : UInt8) ∉ l → ∀ x : EV, (l.foldl (setF e) x).nm = x.nm := by
      intro l
      induction l with
      | nil => intro _ x; rfl
      | cons c l ih =>
        intro hm x
        rw [List.foldl_cons, ih (fun h => hm (List.mem_cons_of_mem _ h))]
        have hc : c ≠ 77 := fun e => hm (by rw [e]; exact List.mem_cons_self ..)
        unfold setF
        repeat' split
        all_goals first | rfl | (exfalso; exact hc (by assumption))
    have := h2 _ h (kindE e.k)
    rw [show (flds e.k).foldl (setF e) (kindE e.k) = onlyE e (flds e.k) from rfl, hon] at this
    rw [this]
    exact (by decide : emp.size ≤ 281474976710656)
set_option maxRecDepth 100000 in
set_option maxHeartbeats 8000000 in
theorem rv_show_yes (e : EV) (hg : goodE e = true) (w : World) : Calls Tryd.prog 16 #[evV e] w fun E w' => E = .returned (.string (joinB (showL e (flds e.k)))) ∧ Kept w w' := by
  obtain ⟨hne, hon, hok⟩ := (goodE_iff e).1 hg
  have hkd := flds_kind hne
  have HF := Lib.hid (fun W => rv_fields e.k W)
  have HGd := Lib.hid (fun W => rv_good e (nm_small e hg) W)
  rw [goodD_eq, hg] at HGd
  obtain ⟨s, hs⟩ : ∃ s : ByteArray, (⟨(dfl e.k).toArray⟩ : ByteArray) = s := ⟨_, rfl⟩
  rw [hs] at HF
  have HG := Lib.hid (fun (i : Nat) (hi : i < s.size) => (by
    obtain ⟨h, h1, h2⟩ := dl_at hs i hi
    exact ⟨(flds e.k)[i]'h, h2, h1, hok _ (List.getElem_mem _), fldTxt_len e _ h2 (hok _ (List.getElem_mem _)), joinB_succ e (flds e.k) i h⟩ : ∃ c, ltr c ∧ s[i]'hi = dl c ∧ okF e c.toNat = true ∧ (fldTxt e c).size ≤ 1024 ∧ joinB (showL e ((flds e.k).take (i + 1))) = joinB (showL e ((flds e.k).take i)) ++ ⟨#[32]⟩ ++ fldTxt e c))
  have hsz : s.size = (flds e.k).length := by rw [← hs]; show (dfl e.k).toArray.size = _; simp [dfl_eq]
  have h4 : s.size ≤ 4 := by rw [hsz]; exact flds_len e.k
  have HL := Lib.hid (show joinB (showL e ((flds e.k).take s.size)) = joinB (showL e (flds e.k)) by rw [hsz, List.take_of_length_le (Nat.le_refl _)])
  have H0 := Lib.hid (joinB_zero e (flds e.k))
  have hwl : (⟨(wordK e.k).toArray⟩ : ByteArray).size ≤ 6 := by
    show (wordK e.k).toArray.size ≤ 6
    rw [List.size_toArray]; exact wordK_len e.k
  clear hsz hne hon hok hg hs
  generalize flds e.k = l at *
  obtain ⟨M, hM⟩ : ∃ M, mostK e.k = M := ⟨_, rfl⟩
  rw [hM] at HF
  clear hM
  obtain ⟨k1, k9⟩ := hkd
  obtain ⟨kk, hkk⟩ := Int.eq_ofNat_of_zero_le (show 0 ≤ e.k by omega)
  have hW := kWords_at
  have HWd := Lib.hid (fun W => hW W kk (by omega) (by omega))
  clear hW
  rw [← hkk] at HWd
  have hkn : (e.k).toNat = kk := by omega
  have HKN := Lib.hid hkn
  clear hkk hkn
  obtain ⟨wd, hwd⟩ : ∃ wd : ByteArray, (⟨(wordK e.k).toArray⟩ : ByteArray) = wd := ⟨_, rfl⟩
  rw [hwd] at HWd H0 hwl
  clear hwd
  go_enter Tryd.func16, Tryd.ntmps16
  go_wp2_with fail
  refine (HGd.out _).mono ?_
  rintro E V ⟨rfl, hK⟩
  have HQ := Lib.hid (hK.only.heap (heap_alloc_new w (evOd e)) (by simp))
  have HK := Lib.hid (Kept.trans (show Kept w (w.alloc (evOd e)) by (unfold Kept; repeat (first | exact Below.refl _ _ | assumption | (refine Below.alloc ?_ (by simp) _) | (refine Below.setCell ?_ (by simp) _) | (refine Below.drew ?_) | (refine _root_.Go.below_drewN ?_ _)))) hK)
  clear hK HGd
  generalize w.heap.size = q at *
  obtain ⟨a0, a1, a2, a3, a4, a5, a6, a7⟩ := evd_cells (heap_keep HQ.out kWords)
  have HQ1 := Lib.hid (heap_keep HQ.out kWords)
  have HK1 := Lib.hid (HK.out.trans (kept_al0 V kWords))
  have hwc := HWd.out V
  have hkn := HKN.out
  unfold kWords at a0 a1 a2 a3 a4 a5 a6 a7 hwc HQ1 HK1
  go_wp2_with fail
  refine (HF.out _).mono ?_
  rintro E V2 ⟨rfl, hK2⟩
  have HQ2 := Lib.hid (hK2.only.heap HQ1.out (by simp))
  have HK2 := Lib.hid (HK1.out.trans hK2)
  clear hK2 HQ HK HQ1 HK1 a0 a1 a2 a3 a4 a5 a6 a7 hwc HF HWd HKN hkn
  go_wp2_with fail
  go_loopw [4, 7] (fun vt vi wr => ∃ (i : Nat) (T : ByteArray), vi = .int .i64 (i : Nat) ∧ vt = .string T ∧ i ≤ s.size ∧ T.size ≤ 1100 * (i + 1) ∧ Hid (joinB (showL e (l.take i)) = T) ∧ Hid (Kept w wr) ∧ Hid (wr.heap[q]? = some (evOd e))) (fun _ vi _ => s.size - (intOf vi).toNat)
  case atStart => exact ⟨0, wd, rfl, rfl, by omega, by omega, H0, HK2, HQ2⟩
  case round =>
    obtain ⟨i, T, rfl, rfl, hi, hT, HY, HK, HQ⟩ := hrel
    clear H0 HK2 HQ2
    by_cases hlt : i < s.size
    · have hlt' : (i : Int) < s.size := by omega
      obtain ⟨c, hc, hgl, hok, hsz, hnext⟩ := HG.out i hlt
      rw [HY.out] at hnext
      have HN := Lib.hid hnext
      have HOK := Lib.hid hok
      have HSz := Lib.hid hsz
      clear hnext hok hsz
      obtain ⟨a0, a1, a2, a3, a4, a5, a6, a7⟩ := evd_cells HQ.out
      rcases hc with rfl | rfl | rfl | rfl | rfl | rfl | rfl
      · have hgc : ((s[i]'hlt).toNat : Int) = 114 := by rw [hgl]; rfl
        obtain ⟨hb1, hb2⟩ := okF_r HOK.out
        obtain ⟨m, hm⟩ := Int.eq_ofNat_of_zero_le (show 0 ≤ e.r by omega)
        have HC := Lib.hid (fun W => rt_num m (by omega) W)
        rw [← hm] at HC
        have HT : Hid (fldTxt e 82 = ⟨(Lib.decDigits m).toArray⟩) := by
          unfold Hid
          rw [show fldTxt e 82 = ⟨(Lib.itoa e.r).toArray⟩ from rfl, hm, Lib.itoa_nonneg]
        have htx : (⟨(Lib.decDigits m).toArray⟩ : ByteArray).size ≤ 1024 := by rw [← HT.out]; exact HSz.out
        generalize (⟨(Lib.decDigits m).toArray⟩ : ByteArray) = tx at *
        clear hm
        have HN2 := Lib.hid (HN.out.trans (by rw [HT.out] : _ = T ++ ⟨#[32]⟩ ++ tx))
        have hs2 : (T ++ ⟨#[32]⟩).size ≤ 6200 := by rw [ByteArray.size_append]; have : (⟨#[32]⟩ : ByteArray).size = 1 := rfl; omega
        have hs3 : (T ++ ⟨#[32]⟩ ++ tx).size ≤ 1100 * (i + 2) := by rw [ByteArray.size_append, ByteArray.size_append]; have : (⟨#[32]⟩ : ByteArray).size = 1 := rfl; omega
        have HS3 := Lib.hid hs3
        clear hgl HG HN HT hs3 HSz
        go_wp2_with fail
        refine (HC.out _).mono ?_
        rintro E V ⟨rfl, hKV⟩
        have HQ2 := Lib.hid (hKV.only.heap HQ.out (by simp))
        have HK2 := Lib.hid (HK.out.trans hKV)
        clear hKV
        go_wp2_with fail
        go_roundw
        case rel => exact ⟨i + 1, T ++ ⟨#[32]⟩ ++ tx, by go_num, rfl, by omega, HS3.out, HN2, HK2, HQ2⟩
        case measure => simp [intOf]; omega
      · have hgc : ((s[i]'hlt).toNat : Int) = 116 := by rw [hgl]; rfl
        obtain ⟨hb1, hb2⟩ := okF_t HOK.out
        obtain ⟨m, hm⟩ := Int.eq_ofNat_of_zero_le (show 0 ≤ e.t by omega)
        have HC := Lib.hid (fun W => rt_num m (by omega) W)
        rw [← hm] at HC
        have HT : Hid (fldTxt e 84 = ⟨(Lib.decDigits m).toArray⟩) := by
          unfold Hid
          rw [show fldTxt e 84 = ⟨(Lib.itoa e.t).toArray⟩ from rfl, hm, Lib.itoa_nonneg]
        have htx : (⟨(Lib.decDigits m).toArray⟩ : ByteArray).size ≤ 1024 := by rw [← HT.out]; exact HSz.out
        generalize (⟨(Lib.decDigits m).toArray⟩ : ByteArray) = tx at *
        clear hm
        have HN2 := Lib.hid (HN.out.trans (by rw [HT.out] : _ = T ++ ⟨#[32]⟩ ++ tx))
        have hs2 : (T ++ ⟨#[32]⟩).size ≤ 6200 := by rw [ByteArray.size_append]; have : (⟨#[32]⟩ : ByteArray).size = 1 := rfl; omega
        have hs3 : (T ++ ⟨#[32]⟩ ++ tx).size ≤ 1100 * (i + 2) := by rw [ByteArray.size_append, ByteArray.size_append]; have : (⟨#[32]⟩ : ByteArray).size = 1 := rfl; omega
        have HS3 := Lib.hid hs3
        clear hgl HG HN HT hs3 HSz
        go_wp2_with fail
        refine (HC.out _).mono ?_
        rintro E V ⟨rfl, hKV⟩
        have HQ2 := Lib.hid (hKV.only.heap HQ.out (by simp))
        have HK2 := Lib.hid (HK.out.trans hKV)
        clear hKV
        go_wp2_with fail
        go_roundw
        case rel => exact ⟨i + 1, T ++ ⟨#[32]⟩ ++ tx, by go_num, rfl, by omega, HS3.out, HN2, HK2, HQ2⟩
        case measure => simp [intOf]; omega
      · have hgc : ((s[i]'hlt).toNat : Int) = 121 := by rw [hgl]; rfl
        obtain ⟨hb1, hb2⟩ := okF_y HOK.out
        obtain ⟨m, hm⟩ := Int.eq_ofNat_of_zero_le (show 0 ≤ e.y by omega)
        have HC := Lib.hid (fun W => rt_num m (by omega) W)
        rw [← hm] at HC
        have HT : Hid (fldTxt e 89 = ⟨(Lib.decDigits m).toArray⟩) := by
          unfold Hid
          rw [show fldTxt e 89 = ⟨(Lib.itoa e.y).toArray⟩ from rfl, hm, Lib.itoa_nonneg]
        have htx : (⟨(Lib.decDigits m).toArray⟩ : ByteArray).size ≤ 1024 := by rw [← HT.out]; exact HSz.out
        generalize (⟨(Lib.decDigits m).toArray⟩ : ByteArray) = tx at *
        clear hm
        have HN2 := Lib.hid (HN.out.trans (by rw [HT.out] : _ = T ++ ⟨#[32]⟩ ++ tx))
        have hs2 : (T ++ ⟨#[32]⟩).size ≤ 6200 := by rw [ByteArray.size_append]; have : (⟨#[32]⟩ : ByteArray).size = 1 := rfl; omega
        have hs3 : (T ++ ⟨#[32]⟩ ++ tx).size ≤ 1100 * (i + 2) := by rw [ByteArray.size_append, ByteArray.size_append]; have : (⟨#[32]⟩ : ByteArray).size = 1 := rfl; omega
        have HS3 := Lib.hid hs3
        clear hgl HG HN HT hs3 HSz
        go_wp2_with fail
        refine (HC.out _).mono ?_
        rintro E V ⟨rfl, hKV⟩
        have HQ2 := Lib.hid (hKV.only.heap HQ.out (by simp))
        have HK2 := Lib.hid (HK.out.trans hKV)
        clear hKV
        go_wp2_with fail
        go_roundw
        case rel => exact ⟨i + 1, T ++ ⟨#[32]⟩ ++ tx, by go_num, rfl, by omega, HS3.out, HN2, HK2, HQ2⟩
        case measure => simp [intOf]; omega
      · have hgc : ((s[i]'hlt).toNat : Int) = 110 := by rw [hgl]; rfl
        obtain ⟨hb1, hb2⟩ := okF_n HOK.out
        obtain ⟨m, hm⟩ := Int.eq_ofNat_of_zero_le (show 0 ≤ e.n by omega)
        have HC := Lib.hid (fun W => rs_num m (by omega) W)
        rw [← hm] at HC
        have HT : Hid (fldTxt e 78 = ⟨(Lib.decDigits m).toArray⟩) := by
          unfold Hid
          rw [show fldTxt e 78 = ⟨(Lib.itoa e.n).toArray⟩ from rfl, hm, Lib.itoa_nonneg]
        have htx : (⟨(Lib.decDigits m).toArray⟩ : ByteArray).size ≤ 1024 := by rw [← HT.out]; exact HSz.out
        generalize (⟨(Lib.decDigits m).toArray⟩ : ByteArray) = tx at *
        clear hm
        have HN2 := Lib.hid (HN.out.trans (by rw [HT.out] : _ = T ++ ⟨#[32]⟩ ++ tx))
        have hs2 : (T ++ ⟨#[32]⟩).size ≤ 6200 := by rw [ByteArray.size_append]; have : (⟨#[32]⟩ : ByteArray).size = 1 := rfl; omega
        have hs3 : (T ++ ⟨#[32]⟩ ++ tx).size ≤ 1100 * (i + 2) := by rw [ByteArray.size_append, ByteArray.size_append]; have : (⟨#[32]⟩ : ByteArray).size = 1 := rfl; omega
        have HS3 := Lib.hid hs3
        clear hgl HG HN HT hs3 HSz
        go_wp2_with fail
        refine (HC.out _).mono ?_
        rintro E V ⟨rfl, hKV⟩
        have HQ2 := Lib.hid (hKV.only.heap HQ.out (by simp))
        have HK2 := Lib.hid (HK.out.trans hKV)
        clear hKV
        go_wp2_with fail
        go_roundw
        case rel => exact ⟨i + 1, T ++ ⟨#[32]⟩ ++ tx, by go_num, rfl, by omega, HS3.out, HN2, HK2, HQ2⟩
        case measure => simp [intOf]; omega
      · have hgc : ((s[i]'hlt).toNat : Int) = 97 := by rw [hgl]; rfl
        have HT := Lib.hid (show fldTxt e 77 = e.nm from rfl)
        have htx : e.nm.size ≤ 1024 := HSz.out
        have HN2 := Lib.hid (HN.out.trans (by rw [HT.out] : _ = T ++ ⟨#[32]⟩ ++ e.nm))
        have hs2 : (T ++ ⟨#[32]⟩).size ≤ 6200 := by rw [ByteArray.size_append]; have : (⟨#[32]⟩ : ByteArray).size = 1 := rfl; omega
        have hs3 : (T ++ ⟨#[32]⟩ ++ e.nm).size ≤ 1100 * (i + 2) := by rw [ByteArray.size_append, ByteArray.size_append]; have : (⟨#[32]⟩ : ByteArray).size = 1 := rfl; omega
        have HS3 := Lib.hid hs3
        clear hgl HG HN HT hs3 HSz
        go_wp2_with fail
        go_roundw
        case rel => exact ⟨i + 1, T ++ ⟨#[32]⟩ ++ e.nm, by go_num, rfl, by omega, HS3.out, HN2, HK, HQ⟩
        case measure => simp [intOf]; omega
      · have hgc : ((s[i]'hlt).toNat : Int) = 107 := by rw [hgl]; rfl
        have HT := Lib.hid (show fldTxt e 75 = e.ky from rfl)
        have htx : e.ky.size ≤ 1024 := HSz.out
        have HN2 := Lib.hid (HN.out.trans (by rw [HT.out] : _ = T ++ ⟨#[32]⟩ ++ e.ky))
        have hs2 : (T ++ ⟨#[32]⟩).size ≤ 6200 := by rw [ByteArray.size_append]; have : (⟨#[32]⟩ : ByteArray).size = 1 := rfl; omega
        have hs3 : (T ++ ⟨#[32]⟩ ++ e.ky).size ≤ 1100 * (i + 2) := by rw [ByteArray.size_append, ByteArray.size_append]; have : (⟨#[32]⟩ : ByteArray).size = 1 := rfl; omega
        have HS3 := Lib.hid hs3
        clear hgl HG HN HT hs3 HSz
        go_wp2_with fail
        go_roundw
        case rel => exact ⟨i + 1, T ++ ⟨#[32]⟩ ++ e.ky, by go_num, rfl, by omega, HS3.out, HN2, HK, HQ⟩
        case measure => simp [intOf]; omega
      · have hgc : ((s[i]'hlt).toNat : Int) = 100 := by rw [hgl]; rfl
        have HT := Lib.hid (show fldTxt e 68 = e.dt from rfl)
        have htx : e.dt.size ≤ 1024 := HSz.out
        have HN2 := Lib.hid (HN.out.trans (by rw [HT.out] : _ = T ++ ⟨#[32]⟩ ++ e.dt))
        have hs2 : (T ++ ⟨#[32]⟩).size ≤ 6200 := by rw [ByteArray.size_append]; have : (⟨#[32]⟩ : ByteArray).size = 1 := rfl; omega
        have hs3 : (T ++ ⟨#[32]⟩ ++ e.dt).size ≤ 1100 * (i + 2) := by rw [ByteArray.size_append, ByteArray.size_append]; have : (⟨#[32]⟩ : ByteArray).size = 1 := rfl; omega
        have HS3 := Lib.hid hs3
        clear hgl HG HN HT hs3 HSz
        go_wp2_with fail
        go_roundw
        case rel => exact ⟨i + 1, T ++ ⟨#[32]⟩ ++ e.dt, by go_num, rfl, by omega, HS3.out, HN2, HK, HQ⟩
        case measure => simp [intOf]; omega
    · have hge : (s.size : Int) ≤ i := by omega
      obtain rfl : i = s.size := by omega
      have HR := Lib.hid (HL.out.symm.trans HY.out)
      clear HG HL HY
      go_wp2_with fail
      go_ret
      exact ⟨by rw [HR.out]; rfl, HK.out⟩
set_option maxRecDepth 100000 in
set_option maxHeartbeats 4000000 in
theorem rv_show_no (e : EV) (hs : e.nm.size ≤ 281474976710656) (hg : goodE e = false) (w : World) : Calls Tryd.prog 16 #[evV e] w fun E w' => E = .returned (.string emp) ∧ Kept w w' := by
  have HGd := Lib.hid (fun W => rv_good e hs W)
  rw [goodD_eq, hg] at HGd
  clear hg
  go_enter Tryd.func16, Tryd.ntmps16
  go_wp2_with fail
  refine (HGd.out _).mono ?_
  rintro E V ⟨rfl, hK⟩
  have HK := Lib.hid (Kept.trans (show Kept w (w.alloc (evOd e)) by (unfold Kept; repeat (first | exact Below.refl _ _ | assumption | (refine Below.alloc ?_ (by simp) _) | (refine Below.setCell ?_ (by simp) _) | (refine Below.drew ?_) | (refine _root_.Go.below_drewN ?_ _)))) hK)
  clear hK
  go_wp2_with fail
  go_ret
  exact ⟨rfl, HK.out⟩
theorem rv_show (e : EV) (hs : e.nm.size ≤ 281474976710656) (w : World) : Calls Tryd.prog 16 #[evV e] w fun E w' => E = .returned (.string (showE e)) ∧ Kept w w' := by
  unfold showE
  by_cases hg : goodE e = true
  · rw [if_pos hg]; exact rv_show_yes e hg w
  · rw [if_neg hg]; exact rv_show_no e hs (by simpa using hg) w
end Go.Proofs.YteaepgbakcifkaaDoor
