/- MsgKnown: the walk. -/
import Derived.Test.YtpojncpblkklgaaMsKnownM
import Derived.Deep.RegionHeld3
import Derived.Deep.CutRange
set_option linter.unusedVariables false
set_option linter.unusedSimpArgs false
namespace Go.Proofs.Ytpojncpblkklgaa
open Go.RowKit
set_option maxRecDepth 100000 in
set_option maxHeartbeats 16000000 in
theorem msgKnown_law (w : World) : Calls Try.prog 3 #[] w fun e w' => e = .returned (.bool true) ∧ Kept w w' := by
  obtain ⟨L0, hL0, hm14⟩ : ∃ L0 : List MV, L0.length = 14 ∧ ∀ w : World, (Instr.makeSlice 23 (.int .i64 14) (.int .i64 14)).run Try.prog w = .ok (.slice (some ⟨w.heap.size, 0, none⟩) 14 14) (w.alloc (.cells (mvs L0).toArray 29)) := ⟨_, by simp, make14⟩
  obtain ⟨R0, hR0, hm9⟩ : ∃ R0 : List RV, R0 = List.replicate 9 rZ ∧ ∀ w : World, (Instr.makeSlice 24 (.int .i64 9) (.int .i64 9)).run Try.prog w = .ok (.slice (some ⟨w.heap.size, 0, none⟩) 9 9) (w.alloc (.cells (rvs R0).toArray 50)) := ⟨_, rfl, make9⟩
  have HR0 := Lib.hid hR0
  clear hR0
  go_enter Try.func3, Try.ntmps3
  go_wp2_with fail
  refine (awake22 _).mono ?_
  rintro e w1 ⟨rfl, K⟩
  go_wp2_with fail
  have hM : MRow (w1.alloc (.cells (mvs L0).toArray 29)) w1.heap.size L0 := heap_alloc_new w1 _
  have hb := K.size
  obtain ⟨b, hbe⟩ : ∃ b, w1.heap.size = b := ⟨_, rfl⟩
  rw [hbe] at hM hb ⊢
  clear hbe
  replace K := K.trans (kept_al w1 (.cells (mvs L0).toArray 29))
  generalize World.alloc w1 _ = X at *
  go_loopw [2] (fun i wr => ∃ (j : Nat) (L : List MV), i = .int .i64 (j : Nat) ∧ j ≤ 14 ∧ L.length = 14 ∧ Hid (MRow wr b L) ∧ Hid (∀ q m, q < j → L[q]? = some m → Some' wr m) ∧ Kept w wr) (fun i _ => 14 - (intOf i).toNat)
  case atStart => exact ⟨0, L0, rfl, by omega, hL0, hM, fun q m hq => by omega, K⟩
  case round =>
    obtain ⟨j, L, rfl, hj, hLn, HM, HS, KW⟩ := hrel
    by_cases hlt : j < 14
    · have hlt' : (j : Int) < 14 := by omega
      obtain ⟨m, hm⟩ : ∃ m, L[j]? = some m := ⟨_, List.getElem?_eq_getElem (by omega)⟩
      go_wp2_with fail
      refine (lSome _).mono ?_
      rintro E V ⟨la, lc, rfl, h, J⟩
      have HM2 := HM.out.kept J
      obtain ⟨q0, q1, q2, q3, q4, q5, q6, q7, q8⟩ := HM2.cells hm (j * 9) rfl
      have z0 := HM2.free
      go_wp2_with fail
      clear q0 q1 q2 q3 q4 q5 q6 q7 q8 z0
      have O := only9 V b (j * 9) (j * 9 + 1) (j * 9 + 2) (j * 9 + 3) (j * 9 + 4) (j * 9 + 5) (j * 9 + 6) (j * 9 + 7) (j * 9 + 8) (.int .i64 1) (.int .i64 0) (.int .i64 1) (.int .i64 3) (.int .i64 5) (.int .i64 2) (.slice la 2 lc) (.slice none 0 0) (.int .i64 0)
      have HM3 := HM2.set9 hm (j * 9) rfl ⟨1, 0, 1, 3, 5, 2, la, 2, lc, none, 0, 0, 0⟩
      dsimp only at HM3
      generalize World.setCell (World.setCell (World.setCell (World.setCell (World.setCell (World.setCell (World.setCell (World.setCell (World.setCell V _ _) _ _) _ _) _ _) _ _) _ _) _ _) _ _) _ _ = Z at *
      go_roundw
      case rel =>
        refine ⟨j + 1, L.set j _, by go_num, by omega, by rw [List.length_set]; exact hLn, HM3, ?_, (KW.trans J).onl O (by intro i hi; simp at hi; omega)⟩
        intro q m2 hq hq2
        rcases Nat.lt_or_ge q j with h' | h'
        · rw [List.getElem?_set_ne (by omega)] at hq2
          exact ((HS.out q m2 h' hq2).kept J).apart O HM2
        · obtain rfl : q = j := by omega
          rw [List.getElem?_set_self (by omega)] at hq2
          injection hq2 with hq2
          exact ⟨la, lc, hq2.symm, h.apart O HM2⟩
      case measure => simp [intOf]; omega
    · have hge : (14 : Int) ≤ j := by omega
      obtain rfl : j = 14 := by omega
      rw [show ((14 : Nat) : Int) = 14 from rfl]
      have HS14 : Hid (∀ m ∈ L, Some' wr m) := fun m hm => by
        obtain ⟨q, hq, rfl⟩ := List.getElem_of_mem hm
        exact HS.out q _ (by omega) (List.getElem?_eq_getElem hq)
      clear HS hm14 hL0 hlt hge hj
      go_upto_region 8 with fail
      obtain ⟨m0, m1, m2, m3, m4, m5, m6, m7, m8, m9, m10, m11, m12, m13, rfl⟩ := list14 L hLn
      clear hLn
      obtain ⟨la0, lc0, rfl, g0⟩ := HS14.out m0 (by simp)
      obtain ⟨la1, lc1, rfl, g1⟩ := HS14.out m1 (by simp)
      obtain ⟨la2, lc2, rfl, g2⟩ := HS14.out m2 (by simp)
      obtain ⟨la3, lc3, rfl, g3⟩ := HS14.out m3 (by simp)
      obtain ⟨la4, lc4, rfl, g4⟩ := HS14.out m4 (by simp)
      obtain ⟨la5, lc5, rfl, g5⟩ := HS14.out m5 (by simp)
      obtain ⟨la6, lc6, rfl, g6⟩ := HS14.out m6 (by simp)
      obtain ⟨la7, lc7, rfl, g7⟩ := HS14.out m7 (by simp)
      obtain ⟨la8, lc8, rfl, g8⟩ := HS14.out m8 (by simp)
      obtain ⟨la9, lc9, rfl, g9⟩ := HS14.out m9 (by simp)
      obtain ⟨la10, lc10, rfl, g10⟩ := HS14.out m10 (by simp)
      obtain ⟨la11, lc11, rfl, g11⟩ := HS14.out m11 (by simp)
      obtain ⟨la12, lc12, rfl, g12⟩ := HS14.out m12 (by simp)
      obtain ⟨la13, lc13, rfl, g13⟩ := HS14.out m13 (by simp)
      have HG : Hid (MsgAt wr la0 2 lc0 none 0 0 someL [] ∧ MsgAt wr la1 2 lc1 none 0 0 someL [] ∧ MsgAt wr la2 2 lc2 none 0 0 someL [] ∧ MsgAt wr la3 2 lc3 none 0 0 someL [] ∧ MsgAt wr la4 2 lc4 none 0 0 someL [] ∧ MsgAt wr la5 2 lc5 none 0 0 someL [] ∧ MsgAt wr la6 2 lc6 none 0 0 someL [] ∧ MsgAt wr la7 2 lc7 none 0 0 someL [] ∧ MsgAt wr la8 2 lc8 none 0 0 someL [] ∧ MsgAt wr la9 2 lc9 none 0 0 someL [] ∧ MsgAt wr la10 2 lc10 none 0 0 someL [] ∧ MsgAt wr la11 2 lc11 none 0 0 someL [] ∧ MsgAt wr la12 2 lc12 none 0 0 someL [] ∧ MsgAt wr la13 2 lc13 none 0 0 someL []) := ⟨g0, g1, g2, g3, g4, g5, g6, g7, g8, g9, g10, g11, g12, g13⟩
      clear HS14 g0 g1 g2 g3 g4 g5 g6 g7 g8 g9 g10 g11 g12 g13
      have HM0 := HM
      have HO : Hid (Only [b] wr wr) := Only.refl _ _
      have c : wr.cell? ⟨b, 0, none⟩ = some (.int .i64 1) := HM.out.cell (i := 0) rfl 0 (by omega) 0 rfl _ rfl
      have z := HM.out.free
      go_upto_region 9 with fail
      have HM' : Hid (MRow (wr.setCell ⟨b, 0, none⟩ (.int .i64 4)) b [⟨4, 0, 1, 3, 5, 2, la0, 2, lc0, none, 0, 0, 0⟩, ⟨1, 0, 1, 3, 5, 2, la1, 2, lc1, none, 0, 0, 0⟩, ⟨1, 0, 1, 3, 5, 2, la2, 2, lc2, none, 0, 0, 0⟩, ⟨1, 0, 1, 3, 5, 2, la3, 2, lc3, none, 0, 0, 0⟩, ⟨1, 0, 1, 3, 5, 2, la4, 2, lc4, none, 0, 0, 0⟩, ⟨1, 0, 1, 3, 5, 2, la5, 2, lc5, none, 0, 0, 0⟩, ⟨1, 0, 1, 3, 5, 2, la6, 2, lc6, none, 0, 0, 0⟩, ⟨1, 0, 1, 3, 5, 2, la7, 2, lc7, none, 0, 0, 0⟩, ⟨1, 0, 1, 3, 5, 2, la8, 2, lc8, none, 0, 0, 0⟩, ⟨1, 0, 1, 3, 5, 2, la9, 2, lc9, none, 0, 0, 0⟩, ⟨1, 0, 1, 3, 5, 2, la10, 2, lc10, none, 0, 0, 0⟩, ⟨1, 0, 1, 3, 5, 2, la11, 2, lc11, none, 0, 0, 0⟩, ⟨1, 0, 1, 3, 5, 2, la12, 2, lc12, none, 0, 0, 0⟩, ⟨1, 0, 1, 3, 5, 2, la13, 2, lc13, none, 0, 0, 0⟩]) := HM.out.set (i := 0) rfl 0 (by omega) 0 rfl (.int .i64 4) ⟨4, 0, 1, 3, 5, 2, la0, 2, lc0, none, 0, 0, 0⟩ rfl
      replace HO : Hid (Only [b] wr (wr.setCell ⟨b, 0, none⟩ (.int .i64 4))) := HO.out.setCell (fun _ => by simp) _
      clear c z HM
      have HM := HM'
      clear HM'
      generalize World.setCell wr _ _ = wr8 at *
      have c : wr8.cell? ⟨b, 11, none⟩ = some (.int .i64 1) := HM.out.cell (i := 1) rfl 2 (by omega) 11 rfl _ rfl
      have z := HM.out.free
      go_upto_region 10 with fail
      have HM' : Hid (MRow (wr8.setCell ⟨b, 11, none⟩ (.int .i64 0)) b [⟨4, 0, 1, 3, 5, 2, la0, 2, lc0, none, 0, 0, 0⟩, ⟨1, 0, 0, 3, 5, 2, la1, 2, lc1, none, 0, 0, 0⟩, ⟨1, 0, 1, 3, 5, 2, la2, 2, lc2, none, 0, 0, 0⟩, ⟨1, 0, 1, 3, 5, 2, la3, 2, lc3, none, 0, 0, 0⟩, ⟨1, 0, 1, 3, 5, 2, la4, 2, lc4, none, 0, 0, 0⟩, ⟨1, 0, 1, 3, 5, 2, la5, 2, lc5, none, 0, 0, 0⟩, ⟨1, 0, 1, 3, 5, 2, la6, 2, lc6, none, 0, 0, 0⟩, ⟨1, 0, 1, 3, 5, 2, la7, 2, lc7, none, 0, 0, 0⟩, ⟨1, 0, 1, 3, 5, 2, la8, 2, lc8, none, 0, 0, 0⟩, ⟨1, 0, 1, 3, 5, 2, la9, 2, lc9, none, 0, 0, 0⟩, ⟨1, 0, 1, 3, 5, 2, la10, 2, lc10, none, 0, 0, 0⟩, ⟨1, 0, 1, 3, 5, 2, la11, 2, lc11, none, 0, 0, 0⟩, ⟨1, 0, 1, 3, 5, 2, la12, 2, lc12, none, 0, 0, 0⟩, ⟨1, 0, 1, 3, 5, 2, la13, 2, lc13, none, 0, 0, 0⟩]) := HM.out.set (i := 1) rfl 2 (by omega) 11 rfl (.int .i64 0) ⟨1, 0, 0, 3, 5, 2, la1, 2, lc1, none, 0, 0, 0⟩ rfl
      replace HO : Hid (Only [b] wr (wr8.setCell ⟨b, 11, none⟩ (.int .i64 0))) := HO.out.setCell (fun _ => by simp) _
      clear c z HM
      have HM := HM'
      clear HM'
      generalize World.setCell wr8 _ _ = wr9 at *
      have c : wr9.cell? ⟨b, 21, none⟩ = some (.int .i64 3) := HM.out.cell (i := 2) rfl 3 (by omega) 21 rfl _ rfl
      have z := HM.out.free
      go_upto_region 11 with fail
      have HM' : Hid (MRow (wr9.setCell ⟨b, 21, none⟩ (.int .i64 0)) b [⟨4, 0, 1, 3, 5, 2, la0, 2, lc0, none, 0, 0, 0⟩, ⟨1, 0, 0, 3, 5, 2, la1, 2, lc1, none, 0, 0, 0⟩, ⟨1, 0, 1, 0, 5, 2, la2, 2, lc2, none, 0, 0, 0⟩, ⟨1, 0, 1, 3, 5, 2, la3, 2, lc3, none, 0, 0, 0⟩, ⟨1, 0, 1, 3, 5, 2, la4, 2, lc4, none, 0, 0, 0⟩, ⟨1, 0, 1, 3, 5, 2, la5, 2, lc5, none, 0, 0, 0⟩, ⟨1, 0, 1, 3, 5, 2, la6, 2, lc6, none, 0, 0, 0⟩, ⟨1, 0, 1, 3, 5, 2, la7, 2, lc7, none, 0, 0, 0⟩, ⟨1, 0, 1, 3, 5, 2, la8, 2, lc8, none, 0, 0, 0⟩, ⟨1, 0, 1, 3, 5, 2, la9, 2, lc9, none, 0, 0, 0⟩, ⟨1, 0, 1, 3, 5, 2, la10, 2, lc10, none, 0, 0, 0⟩, ⟨1, 0, 1, 3, 5, 2, la11, 2, lc11, none, 0, 0, 0⟩, ⟨1, 0, 1, 3, 5, 2, la12, 2, lc12, none, 0, 0, 0⟩, ⟨1, 0, 1, 3, 5, 2, la13, 2, lc13, none, 0, 0, 0⟩]) := HM.out.set (i := 2) rfl 3 (by omega) 21 rfl (.int .i64 0) ⟨1, 0, 1, 0, 5, 2, la2, 2, lc2, none, 0, 0, 0⟩ rfl
      replace HO : Hid (Only [b] wr (wr9.setCell ⟨b, 21, none⟩ (.int .i64 0))) := HO.out.setCell (fun _ => by simp) _
      clear c z HM
      have HM := HM'
      clear HM'
      generalize World.setCell wr9 _ _ = wr10 at *
      have c : wr10.cell? ⟨b, 30, none⟩ = some (.int .i64 3) := HM.out.cell (i := 3) rfl 3 (by omega) 30 rfl _ rfl
      have z := HM.out.free
      go_upto_region 12 with fail
      have HM' : Hid (MRow (wr10.setCell ⟨b, 30, none⟩ (.int .i64 2)) b [⟨4, 0, 1, 3, 5, 2, la0, 2, lc0, none, 0, 0, 0⟩, ⟨1, 0, 0, 3, 5, 2, la1, 2, lc1, none, 0, 0, 0⟩, ⟨1, 0, 1, 0, 5, 2, la2, 2, lc2, none, 0, 0, 0⟩, ⟨1, 0, 1, 2, 5, 2, la3, 2, lc3, none, 0, 0, 0⟩, ⟨1, 0, 1, 3, 5, 2, la4, 2, lc4, none, 0, 0, 0⟩, ⟨1, 0, 1, 3, 5, 2, la5, 2, lc5, none, 0, 0, 0⟩, ⟨1, 0, 1, 3, 5, 2, la6, 2, lc6, none, 0, 0, 0⟩, ⟨1, 0, 1, 3, 5, 2, la7, 2, lc7, none, 0, 0, 0⟩, ⟨1, 0, 1, 3, 5, 2, la8, 2, lc8, none, 0, 0, 0⟩, ⟨1, 0, 1, 3, 5, 2, la9, 2, lc9, none, 0, 0, 0⟩, ⟨1, 0, 1, 3, 5, 2, la10, 2, lc10, none, 0, 0, 0⟩, ⟨1, 0, 1, 3, 5, 2, la11, 2, lc11, none, 0, 0, 0⟩, ⟨1, 0, 1, 3, 5, 2, la12, 2, lc12, none, 0, 0, 0⟩, ⟨1, 0, 1, 3, 5, 2, la13, 2, lc13, none, 0, 0, 0⟩]) := HM.out.set (i := 3) rfl 3 (by omega) 30 rfl (.int .i64 2) ⟨1, 0, 1, 2, 5, 2, la3, 2, lc3, none, 0, 0, 0⟩ rfl
      replace HO : Hid (Only [b] wr (wr10.setCell ⟨b, 30, none⟩ (.int .i64 2))) := HO.out.setCell (fun _ => by simp) _
      clear c z HM
      have HM := HM'
      clear HM'
      generalize World.setCell wr10 _ _ = wr11 at *
      have c : wr11.cell? ⟨b, 40, none⟩ = some (.int .i64 5) := HM.out.cell (i := 4) rfl 4 (by omega) 40 rfl _ rfl
      have z := HM.out.free
      go_upto_region 13 with fail
      have HM' : Hid (MRow (wr11.setCell ⟨b, 40, none⟩ (.int .i64 4)) b [⟨4, 0, 1, 3, 5, 2, la0, 2, lc0, none, 0, 0, 0⟩, ⟨1, 0, 0, 3, 5, 2, la1, 2, lc1, none, 0, 0, 0⟩, ⟨1, 0, 1, 0, 5, 2, la2, 2, lc2, none, 0, 0, 0⟩, ⟨1, 0, 1, 2, 5, 2, la3, 2, lc3, none, 0, 0, 0⟩, ⟨1, 0, 1, 3, 4, 2, la4, 2, lc4, none, 0, 0, 0⟩, ⟨1, 0, 1, 3, 5, 2, la5, 2, lc5, none, 0, 0, 0⟩, ⟨1, 0, 1, 3, 5, 2, la6, 2, lc6, none, 0, 0, 0⟩, ⟨1, 0, 1, 3, 5, 2, la7, 2, lc7, none, 0, 0, 0⟩, ⟨1, 0, 1, 3, 5, 2, la8, 2, lc8, none, 0, 0, 0⟩, ⟨1, 0, 1, 3, 5, 2, la9, 2, lc9, none, 0, 0, 0⟩, ⟨1, 0, 1, 3, 5, 2, la10, 2, lc10, none, 0, 0, 0⟩, ⟨1, 0, 1, 3, 5, 2, la11, 2, lc11, none, 0, 0, 0⟩, ⟨1, 0, 1, 3, 5, 2, la12, 2, lc12, none, 0, 0, 0⟩, ⟨1, 0, 1, 3, 5, 2, la13, 2, lc13, none, 0, 0, 0⟩]) := HM.out.set (i := 4) rfl 4 (by omega) 40 rfl (.int .i64 4) ⟨1, 0, 1, 3, 4, 2, la4, 2, lc4, none, 0, 0, 0⟩ rfl
      replace HO : Hid (Only [b] wr (wr11.setCell ⟨b, 40, none⟩ (.int .i64 4))) := HO.out.setCell (fun _ => by simp) _
      clear c z HM
      have HM := HM'
      clear HM'
      generalize World.setCell wr11 _ _ = wr12 at *
      have c : wr12.cell? ⟨b, 50, none⟩ = some (.int .i64 2) := HM.out.cell (i := 5) rfl 5 (by omega) 50 rfl _ rfl
      have z := HM.out.free
      go_upto_region 14 with fail
      have HM' : Hid (MRow (wr12.setCell ⟨b, 50, none⟩ (.int .i64 3)) b [⟨4, 0, 1, 3, 5, 2, la0, 2, lc0, none, 0, 0, 0⟩, ⟨1, 0, 0, 3, 5, 2, la1, 2, lc1, none, 0, 0, 0⟩, ⟨1, 0, 1, 0, 5, 2, la2, 2, lc2, none, 0, 0, 0⟩, ⟨1, 0, 1, 2, 5, 2, la3, 2, lc3, none, 0, 0, 0⟩, ⟨1, 0, 1, 3, 4, 2, la4, 2, lc4, none, 0, 0, 0⟩, ⟨1, 0, 1, 3, 5, 3, la5, 2, lc5, none, 0, 0, 0⟩, ⟨1, 0, 1, 3, 5, 2, la6, 2, lc6, none, 0, 0, 0⟩, ⟨1, 0, 1, 3, 5, 2, la7, 2, lc7, none, 0, 0, 0⟩, ⟨1, 0, 1, 3, 5, 2, la8, 2, lc8, none, 0, 0, 0⟩, ⟨1, 0, 1, 3, 5, 2, la9, 2, lc9, none, 0, 0, 0⟩, ⟨1, 0, 1, 3, 5, 2, la10, 2, lc10, none, 0, 0, 0⟩, ⟨1, 0, 1, 3, 5, 2, la11, 2, lc11, none, 0, 0, 0⟩, ⟨1, 0, 1, 3, 5, 2, la12, 2, lc12, none, 0, 0, 0⟩, ⟨1, 0, 1, 3, 5, 2, la13, 2, lc13, none, 0, 0, 0⟩]) := HM.out.set (i := 5) rfl 5 (by omega) 50 rfl (.int .i64 3) ⟨1, 0, 1, 3, 5, 3, la5, 2, lc5, none, 0, 0, 0⟩ rfl
      replace HO : Hid (Only [b] wr (wr12.setCell ⟨b, 50, none⟩ (.int .i64 3))) := HO.out.setCell (fun _ => by simp) _
      clear c z HM
      have HM := HM'
      clear HM'
      generalize World.setCell wr12 _ _ = wr13 at *
      have c : wr13.cell? ⟨b, 59, none⟩ = some (.int .i64 2) := HM.out.cell (i := 6) rfl 5 (by omega) 59 rfl _ rfl
      have z := HM.out.free
      go_upto_region 15 with fail
      have HM' : Hid (MRow (wr13.setCell ⟨b, 59, none⟩ (.int .i64 4)) b [⟨4, 0, 1, 3, 5, 2, la0, 2, lc0, none, 0, 0, 0⟩, ⟨1, 0, 0, 3, 5, 2, la1, 2, lc1, none, 0, 0, 0⟩, ⟨1, 0, 1, 0, 5, 2, la2, 2, lc2, none, 0, 0, 0⟩, ⟨1, 0, 1, 2, 5, 2, la3, 2, lc3, none, 0, 0, 0⟩, ⟨1, 0, 1, 3, 4, 2, la4, 2, lc4, none, 0, 0, 0⟩, ⟨1, 0, 1, 3, 5, 3, la5, 2, lc5, none, 0, 0, 0⟩, ⟨1, 0, 1, 3, 5, 4, la6, 2, lc6, none, 0, 0, 0⟩, ⟨1, 0, 1, 3, 5, 2, la7, 2, lc7, none, 0, 0, 0⟩, ⟨1, 0, 1, 3, 5, 2, la8, 2, lc8, none, 0, 0, 0⟩, ⟨1, 0, 1, 3, 5, 2, la9, 2, lc9, none, 0, 0, 0⟩, ⟨1, 0, 1, 3, 5, 2, la10, 2, lc10, none, 0, 0, 0⟩, ⟨1, 0, 1, 3, 5, 2, la11, 2, lc11, none, 0, 0, 0⟩, ⟨1, 0, 1, 3, 5, 2, la12, 2, lc12, none, 0, 0, 0⟩, ⟨1, 0, 1, 3, 5, 2, la13, 2, lc13, none, 0, 0, 0⟩]) := HM.out.set (i := 6) rfl 5 (by omega) 59 rfl (.int .i64 4) ⟨1, 0, 1, 3, 5, 4, la6, 2, lc6, none, 0, 0, 0⟩ rfl
      replace HO : Hid (Only [b] wr (wr13.setCell ⟨b, 59, none⟩ (.int .i64 4))) := HO.out.setCell (fun _ => by simp) _
      clear c z HM
      have HM := HM'
      clear HM'
      generalize World.setCell wr13 _ _ = wr14 at *
      have c : wr14.cell? ⟨b, 71, none⟩ = some (.int .i64 0) := HM.out.cell (i := 7) rfl 8 (by omega) 71 rfl _ rfl
      have z := HM.out.free
      go_upto_region 16 with fail
      have HM' : Hid (MRow (wr14.setCell ⟨b, 71, none⟩ (.int .i64 1)) b [⟨4, 0, 1, 3, 5, 2, la0, 2, lc0, none, 0, 0, 0⟩, ⟨1, 0, 0, 3, 5, 2, la1, 2, lc1, none, 0, 0, 0⟩, ⟨1, 0, 1, 0, 5, 2, la2, 2, lc2, none, 0, 0, 0⟩, ⟨1, 0, 1, 2, 5, 2, la3, 2, lc3, none, 0, 0, 0⟩, ⟨1, 0, 1, 3, 4, 2, la4, 2, lc4, none, 0, 0, 0⟩, ⟨1, 0, 1, 3, 5, 3, la5, 2, lc5, none, 0, 0, 0⟩, ⟨1, 0, 1, 3, 5, 4, la6, 2, lc6, none, 0, 0, 0⟩, ⟨1, 0, 1, 3, 5, 2, la7, 2, lc7, none, 0, 0, 1⟩, ⟨1, 0, 1, 3, 5, 2, la8, 2, lc8, none, 0, 0, 0⟩, ⟨1, 0, 1, 3, 5, 2, la9, 2, lc9, none, 0, 0, 0⟩, ⟨1, 0, 1, 3, 5, 2, la10, 2, lc10, none, 0, 0, 0⟩, ⟨1, 0, 1, 3, 5, 2, la11, 2, lc11, none, 0, 0, 0⟩, ⟨1, 0, 1, 3, 5, 2, la12, 2, lc12, none, 0, 0, 0⟩, ⟨1, 0, 1, 3, 5, 2, la13, 2, lc13, none, 0, 0, 0⟩]) := HM.out.set (i := 7) rfl 8 (by omega) 71 rfl (.int .i64 1) ⟨1, 0, 1, 3, 5, 2, la7, 2, lc7, none, 0, 0, 1⟩ rfl
      replace HO : Hid (Only [b] wr (wr14.setCell ⟨b, 71, none⟩ (.int .i64 1))) := HO.out.setCell (fun _ => by simp) _
      clear c z HM
      have HM := HM'
      clear HM'
      generalize World.setCell wr14 _ _ = wr15 at *
      have c : wr15.cell? ⟨b, 76, none⟩ = some (.int .i64 5) := HM.out.cell (i := 8) rfl 4 (by omega) 76 rfl _ rfl
      have z := HM.out.free
      go_upto_region 17 with fail
      have HM' : Hid (MRow (wr15.setCell ⟨b, 76, none⟩ (.int .i64 (-1))) b [⟨4, 0, 1, 3, 5, 2, la0, 2, lc0, none, 0, 0, 0⟩, ⟨1, 0, 0, 3, 5, 2, la1, 2, lc1, none, 0, 0, 0⟩, ⟨1, 0, 1, 0, 5, 2, la2, 2, lc2, none, 0, 0, 0⟩, ⟨1, 0, 1, 2, 5, 2, la3, 2, lc3, none, 0, 0, 0⟩, ⟨1, 0, 1, 3, 4, 2, la4, 2, lc4, none, 0, 0, 0⟩, ⟨1, 0, 1, 3, 5, 3, la5, 2, lc5, none, 0, 0, 0⟩, ⟨1, 0, 1, 3, 5, 4, la6, 2, lc6, none, 0, 0, 0⟩, ⟨1, 0, 1, 3, 5, 2, la7, 2, lc7, none, 0, 0, 1⟩, ⟨1, 0, 1, 3, (-1), 2, la8, 2, lc8, none, 0, 0, 0⟩, ⟨1, 0, 1, 3, 5, 2, la9, 2, lc9, none, 0, 0, 0⟩, ⟨1, 0, 1, 3, 5, 2, la10, 2, lc10, none, 0, 0, 0⟩, ⟨1, 0, 1, 3, 5, 2, la11, 2, lc11, none, 0, 0, 0⟩, ⟨1, 0, 1, 3, 5, 2, la12, 2, lc12, none, 0, 0, 0⟩, ⟨1, 0, 1, 3, 5, 2, la13, 2, lc13, none, 0, 0, 0⟩]) := HM.out.set (i := 8) rfl 4 (by omega) 76 rfl (.int .i64 (-1)) ⟨1, 0, 1, 3, (-1), 2, la8, 2, lc8, none, 0, 0, 0⟩ rfl
      replace HO : Hid (Only [b] wr (wr15.setCell ⟨b, 76, none⟩ (.int .i64 (-1)))) := HO.out.setCell (fun _ => by simp) _
      clear c z HM
      have HM := HM'
      clear HM'
      generalize World.setCell wr15 _ _ = wr16 at *
      obtain ⟨q0, q1, q2, q3, q4, q5, q6, q7, q8⟩ := HM.out.cells (i := 9) rfl 81 rfl
      have z := HM.out.free
      go_upto_region 18 with fail
      have HM' : Hid (MRow (((((((((wr16.setCell ⟨b, 81, none⟩ (.int .i64 2)).setCell ⟨b, 82, none⟩ (.int .i64 0)).setCell ⟨b, 83, none⟩ (.int .i64 1)).setCell ⟨b, 84, none⟩ (.int .i64 3)).setCell ⟨b, 85, none⟩ (.int .i64 5)).setCell ⟨b, 86, none⟩ (.int .i64 1)).setCell ⟨b, 87, none⟩ (.slice none 0 0)).setCell ⟨b, 88, none⟩ (.slice none 0 0)).setCell ⟨b, 89, none⟩ (.int .i64 0)) b [⟨4, 0, 1, 3, 5, 2, la0, 2, lc0, none, 0, 0, 0⟩, ⟨1, 0, 0, 3, 5, 2, la1, 2, lc1, none, 0, 0, 0⟩, ⟨1, 0, 1, 0, 5, 2, la2, 2, lc2, none, 0, 0, 0⟩, ⟨1, 0, 1, 2, 5, 2, la3, 2, lc3, none, 0, 0, 0⟩, ⟨1, 0, 1, 3, 4, 2, la4, 2, lc4, none, 0, 0, 0⟩, ⟨1, 0, 1, 3, 5, 3, la5, 2, lc5, none, 0, 0, 0⟩, ⟨1, 0, 1, 3, 5, 4, la6, 2, lc6, none, 0, 0, 0⟩, ⟨1, 0, 1, 3, 5, 2, la7, 2, lc7, none, 0, 0, 1⟩, ⟨1, 0, 1, 3, (-1), 2, la8, 2, lc8, none, 0, 0, 0⟩, ⟨2, 0, 1, 3, 5, 1, none, 0, 0, none, 0, 0, 0⟩, ⟨1, 0, 1, 3, 5, 2, la10, 2, lc10, none, 0, 0, 0⟩, ⟨1, 0, 1, 3, 5, 2, la11, 2, lc11, none, 0, 0, 0⟩, ⟨1, 0, 1, 3, 5, 2, la12, 2, lc12, none, 0, 0, 0⟩, ⟨1, 0, 1, 3, 5, 2, la13, 2, lc13, none, 0, 0, 0⟩]) := HM.out.set9 (i := 9) rfl 81 rfl ⟨2, 0, 1, 3, 5, 1, none, 0, 0, none, 0, 0, 0⟩
      replace HO : Hid (Only [b] wr (((((((((wr16.setCell ⟨b, 81, none⟩ (.int .i64 2)).setCell ⟨b, 82, none⟩ (.int .i64 0)).setCell ⟨b, 83, none⟩ (.int .i64 1)).setCell ⟨b, 84, none⟩ (.int .i64 3)).setCell ⟨b, 85, none⟩ (.int .i64 5)).setCell ⟨b, 86, none⟩ (.int .i64 1)).setCell ⟨b, 87, none⟩ (.slice none 0 0)).setCell ⟨b, 88, none⟩ (.slice none 0 0)).setCell ⟨b, 89, none⟩ (.int .i64 0))) := HO.out.trans (only9 wr16 b 81 82 83 84 85 86 87 88 89 (.int .i64 2) (.int .i64 0) (.int .i64 1) (.int .i64 3) (.int .i64 5) (.int .i64 1) (.slice none 0 0) (.slice none 0 0) (.int .i64 0))
      clear q0 q1 q2 q3 q4 q5 q6 q7 q8 z HM
      have HM := HM'
      clear HM'
      generalize World.setCell (World.setCell (World.setCell (World.setCell (World.setCell (World.setCell (World.setCell (World.setCell (World.setCell wr16 _ _) _ _) _ _) _ _) _ _) _ _) _ _) _ _) _ _ = wr17 at *
      obtain ⟨q0, q1, q2, q3, q4, q5, q6, q7, q8⟩ := HM.out.cells (i := 10) rfl 90 rfl
      have z := HM.out.free
      go_upto_region 19 with fail
      have HM' : Hid (MRow (((((((((wr17.setCell ⟨b, 90, none⟩ (.int .i64 3)).setCell ⟨b, 91, none⟩ (.int .i64 0)).setCell ⟨b, 92, none⟩ (.int .i64 1)).setCell ⟨b, 93, none⟩ (.int .i64 3)).setCell ⟨b, 94, none⟩ (.int .i64 5)).setCell ⟨b, 95, none⟩ (.int .i64 0)).setCell ⟨b, 96, none⟩ (.slice none 0 0)).setCell ⟨b, 97, none⟩ (.slice none 0 0)).setCell ⟨b, 98, none⟩ (.int .i64 0)) b [⟨4, 0, 1, 3, 5, 2, la0, 2, lc0, none, 0, 0, 0⟩, ⟨1, 0, 0, 3, 5, 2, la1, 2, lc1, none, 0, 0, 0⟩, ⟨1, 0, 1, 0, 5, 2, la2, 2, lc2, none, 0, 0, 0⟩, ⟨1, 0, 1, 2, 5, 2, la3, 2, lc3, none, 0, 0, 0⟩, ⟨1, 0, 1, 3, 4, 2, la4, 2, lc4, none, 0, 0, 0⟩, ⟨1, 0, 1, 3, 5, 3, la5, 2, lc5, none, 0, 0, 0⟩, ⟨1, 0, 1, 3, 5, 4, la6, 2, lc6, none, 0, 0, 0⟩, ⟨1, 0, 1, 3, 5, 2, la7, 2, lc7, none, 0, 0, 1⟩, ⟨1, 0, 1, 3, (-1), 2, la8, 2, lc8, none, 0, 0, 0⟩, ⟨2, 0, 1, 3, 5, 1, none, 0, 0, none, 0, 0, 0⟩, ⟨3, 0, 1, 3, 5, 0, none, 0, 0, none, 0, 0, 0⟩, ⟨1, 0, 1, 3, 5, 2, la11, 2, lc11, none, 0, 0, 0⟩, ⟨1, 0, 1, 3, 5, 2, la12, 2, lc12, none, 0, 0, 0⟩, ⟨1, 0, 1, 3, 5, 2, la13, 2, lc13, none, 0, 0, 0⟩]) := HM.out.set9 (i := 10) rfl 90 rfl ⟨3, 0, 1, 3, 5, 0, none, 0, 0, none, 0, 0, 0⟩
      replace HO : Hid (Only [b] wr (((((((((wr17.setCell ⟨b, 90, none⟩ (.int .i64 3)).setCell ⟨b, 91, none⟩ (.int .i64 0)).setCell ⟨b, 92, none⟩ (.int .i64 1)).setCell ⟨b, 93, none⟩ (.int .i64 3)).setCell ⟨b, 94, none⟩ (.int .i64 5)).setCell ⟨b, 95, none⟩ (.int .i64 0)).setCell ⟨b, 96, none⟩ (.slice none 0 0)).setCell ⟨b, 97, none⟩ (.slice none 0 0)).setCell ⟨b, 98, none⟩ (.int .i64 0))) := HO.out.trans (only9 wr17 b 90 91 92 93 94 95 96 97 98 (.int .i64 3) (.int .i64 0) (.int .i64 1) (.int .i64 3) (.int .i64 5) (.int .i64 0) (.slice none 0 0) (.slice none 0 0) (.int .i64 0))
      clear q0 q1 q2 q3 q4 q5 q6 q7 q8 z HM
      have HM := HM'
      clear HM'
      generalize World.setCell (World.setCell (World.setCell (World.setCell (World.setCell (World.setCell (World.setCell (World.setCell (World.setCell wr17 _ _) _ _) _ _) _ _) _ _) _ _) _ _) _ _) _ _ = wr18 at *
      obtain ⟨q0, q1, q2, q3, q4, q5, q6, q7, q8⟩ := HM.out.cells (i := 11) rfl 99 rfl
      have z := HM.out.free
      go_upto_region 20 with fail
      have HM' : Hid (MRow (((((((((wr18.setCell ⟨b, 99, none⟩ (.int .i64 3)).setCell ⟨b, 100, none⟩ (.int .i64 0)).setCell ⟨b, 101, none⟩ (.int .i64 1)).setCell ⟨b, 102, none⟩ (.int .i64 3)).setCell ⟨b, 103, none⟩ (.int .i64 0)).setCell ⟨b, 104, none⟩ (.int .i64 0)).setCell ⟨b, 105, none⟩ (.slice none 0 0)).setCell ⟨b, 106, none⟩ (.slice none 0 0)).setCell ⟨b, 107, none⟩ (.int .i64 (-1))) b [⟨4, 0, 1, 3, 5, 2, la0, 2, lc0, none, 0, 0, 0⟩, ⟨1, 0, 0, 3, 5, 2, la1, 2, lc1, none, 0, 0, 0⟩, ⟨1, 0, 1, 0, 5, 2, la2, 2, lc2, none, 0, 0, 0⟩, ⟨1, 0, 1, 2, 5, 2, la3, 2, lc3, none, 0, 0, 0⟩, ⟨1, 0, 1, 3, 4, 2, la4, 2, lc4, none, 0, 0, 0⟩, ⟨1, 0, 1, 3, 5, 3, la5, 2, lc5, none, 0, 0, 0⟩, ⟨1, 0, 1, 3, 5, 4, la6, 2, lc6, none, 0, 0, 0⟩, ⟨1, 0, 1, 3, 5, 2, la7, 2, lc7, none, 0, 0, 1⟩, ⟨1, 0, 1, 3, (-1), 2, la8, 2, lc8, none, 0, 0, 0⟩, ⟨2, 0, 1, 3, 5, 1, none, 0, 0, none, 0, 0, 0⟩, ⟨3, 0, 1, 3, 5, 0, none, 0, 0, none, 0, 0, 0⟩, ⟨3, 0, 1, 3, 0, 0, none, 0, 0, none, 0, 0, (-1)⟩, ⟨1, 0, 1, 3, 5, 2, la12, 2, lc12, none, 0, 0, 0⟩, ⟨1, 0, 1, 3, 5, 2, la13, 2, lc13, none, 0, 0, 0⟩]) := HM.out.set9 (i := 11) rfl 99 rfl ⟨3, 0, 1, 3, 0, 0, none, 0, 0, none, 0, 0, (-1)⟩
      replace HO : Hid (Only [b] wr (((((((((wr18.setCell ⟨b, 99, none⟩ (.int .i64 3)).setCell ⟨b, 100, none⟩ (.int .i64 0)).setCell ⟨b, 101, none⟩ (.int .i64 1)).setCell ⟨b, 102, none⟩ (.int .i64 3)).setCell ⟨b, 103, none⟩ (.int .i64 0)).setCell ⟨b, 104, none⟩ (.int .i64 0)).setCell ⟨b, 105, none⟩ (.slice none 0 0)).setCell ⟨b, 106, none⟩ (.slice none 0 0)).setCell ⟨b, 107, none⟩ (.int .i64 (-1)))) := HO.out.trans (only9 wr18 b 99 100 101 102 103 104 105 106 107 (.int .i64 3) (.int .i64 0) (.int .i64 1) (.int .i64 3) (.int .i64 0) (.int .i64 0) (.slice none 0 0) (.slice none 0 0) (.int .i64 (-1)))
      clear q0 q1 q2 q3 q4 q5 q6 q7 q8 z HM
      have HM := HM'
      clear HM'
      generalize World.setCell (World.setCell (World.setCell (World.setCell (World.setCell (World.setCell (World.setCell (World.setCell (World.setCell wr18 _ _) _ _) _ _) _ _) _ _) _ _) _ _) _ _) _ _ = wr19 at *
      obtain ⟨q0, q1, q2, q3, q4, q5, q6, q7, q8⟩ := HM.out.cells (i := 12) rfl 108 rfl
      have z := HM.out.free
      go_upto_region 21 with fail
      have HM' : Hid (MRow (((((((((wr19.setCell ⟨b, 108, none⟩ (.int .i64 1)).setCell ⟨b, 109, none⟩ (.int .i64 0)).setCell ⟨b, 110, none⟩ (.int .i64 1)).setCell ⟨b, 111, none⟩ (.int .i64 3)).setCell ⟨b, 112, none⟩ (.int .i64 0)).setCell ⟨b, 113, none⟩ (.int .i64 1)).setCell ⟨b, 114, none⟩ (.slice none 0 0)).setCell ⟨b, 115, none⟩ (.slice none 0 0)).setCell ⟨b, 116, none⟩ (.int .i64 0)) b [⟨4, 0, 1, 3, 5, 2, la0, 2, lc0, none, 0, 0, 0⟩, ⟨1, 0, 0, 3, 5, 2, la1, 2, lc1, none, 0, 0, 0⟩, ⟨1, 0, 1, 0, 5, 2, la2, 2, lc2, none, 0, 0, 0⟩, ⟨1, 0, 1, 2, 5, 2, la3, 2, lc3, none, 0, 0, 0⟩, ⟨1, 0, 1, 3, 4, 2, la4, 2, lc4, none, 0, 0, 0⟩, ⟨1, 0, 1, 3, 5, 3, la5, 2, lc5, none, 0, 0, 0⟩, ⟨1, 0, 1, 3, 5, 4, la6, 2, lc6, none, 0, 0, 0⟩, ⟨1, 0, 1, 3, 5, 2, la7, 2, lc7, none, 0, 0, 1⟩, ⟨1, 0, 1, 3, (-1), 2, la8, 2, lc8, none, 0, 0, 0⟩, ⟨2, 0, 1, 3, 5, 1, none, 0, 0, none, 0, 0, 0⟩, ⟨3, 0, 1, 3, 5, 0, none, 0, 0, none, 0, 0, 0⟩, ⟨3, 0, 1, 3, 0, 0, none, 0, 0, none, 0, 0, (-1)⟩, ⟨1, 0, 1, 3, 0, 1, none, 0, 0, none, 0, 0, 0⟩, ⟨1, 0, 1, 3, 5, 2, la13, 2, lc13, none, 0, 0, 0⟩]) := HM.out.set9 (i := 12) rfl 108 rfl ⟨1, 0, 1, 3, 0, 1, none, 0, 0, none, 0, 0, 0⟩
      replace HO : Hid (Only [b] wr (((((((((wr19.setCell ⟨b, 108, none⟩ (.int .i64 1)).setCell ⟨b, 109, none⟩ (.int .i64 0)).setCell ⟨b, 110, none⟩ (.int .i64 1)).setCell ⟨b, 111, none⟩ (.int .i64 3)).setCell ⟨b, 112, none⟩ (.int .i64 0)).setCell ⟨b, 113, none⟩ (.int .i64 1)).setCell ⟨b, 114, none⟩ (.slice none 0 0)).setCell ⟨b, 115, none⟩ (.slice none 0 0)).setCell ⟨b, 116, none⟩ (.int .i64 0))) := HO.out.trans (only9 wr19 b 108 109 110 111 112 113 114 115 116 (.int .i64 1) (.int .i64 0) (.int .i64 1) (.int .i64 3) (.int .i64 0) (.int .i64 1) (.slice none 0 0) (.slice none 0 0) (.int .i64 0))
      clear q0 q1 q2 q3 q4 q5 q6 q7 q8 z HM
      have HM := HM'
      clear HM'
      generalize World.setCell (World.setCell (World.setCell (World.setCell (World.setCell (World.setCell (World.setCell (World.setCell (World.setCell wr19 _ _) _ _) _ _) _ _) _ _) _ _) _ _) _ _) _ _ = wr20 at *
      have c : wr20.cell? ⟨b, 123, none⟩ = some (.slice la13 2 lc13) := HM.out.cell (i := 13) rfl 6 (by omega) 123 rfl _ rfl
      have K9 := kept_al wr20 (.cells (rvs R0).toArray 50)
      have c' := K9.cel c
      have z := (HM.out.kept K9).free
      go_upto_region 22 with fail
      have HM' : Hid (MRow ((wr20.alloc (.cells (rvs R0).toArray 50)).setCell ⟨b, 123, none⟩ (.slice (some ⟨wr20.heap.size, 0, none⟩) 9 9)) b [⟨4, 0, 1, 3, 5, 2, la0, 2, lc0, none, 0, 0, 0⟩, ⟨1, 0, 0, 3, 5, 2, la1, 2, lc1, none, 0, 0, 0⟩, ⟨1, 0, 1, 0, 5, 2, la2, 2, lc2, none, 0, 0, 0⟩, ⟨1, 0, 1, 2, 5, 2, la3, 2, lc3, none, 0, 0, 0⟩, ⟨1, 0, 1, 3, 4, 2, la4, 2, lc4, none, 0, 0, 0⟩, ⟨1, 0, 1, 3, 5, 3, la5, 2, lc5, none, 0, 0, 0⟩, ⟨1, 0, 1, 3, 5, 4, la6, 2, lc6, none, 0, 0, 0⟩, ⟨1, 0, 1, 3, 5, 2, la7, 2, lc7, none, 0, 0, 1⟩, ⟨1, 0, 1, 3, (-1), 2, la8, 2, lc8, none, 0, 0, 0⟩, ⟨2, 0, 1, 3, 5, 1, none, 0, 0, none, 0, 0, 0⟩, ⟨3, 0, 1, 3, 5, 0, none, 0, 0, none, 0, 0, 0⟩, ⟨3, 0, 1, 3, 0, 0, none, 0, 0, none, 0, 0, (-1)⟩, ⟨1, 0, 1, 3, 0, 1, none, 0, 0, none, 0, 0, 0⟩, ⟨1, 0, 1, 3, 5, 2, some ⟨wr20.heap.size, 0, none⟩, 9, 9, none, 0, 0, 0⟩]) := (HM.out.kept K9).set (i := 13) rfl 6 (by omega) 123 rfl (.slice (some ⟨wr20.heap.size, 0, none⟩) 9 9) ⟨1, 0, 1, 3, 5, 2, some ⟨wr20.heap.size, 0, none⟩, 9, 9, none, 0, 0, 0⟩ rfl
      have O1 : Only [b] (wr20.alloc (.cells (rvs R0).toArray 50)) ((wr20.alloc (.cells (rvs R0).toArray 50)).setCell ⟨b, 123, none⟩ (.slice (some ⟨wr20.heap.size, 0, none⟩) 9 9)) := (Only.refl _ _).setCell (fun _ => by simp) _
      have HO' : Hid (Only [b] wr ((wr20.alloc (.cells (rvs R0).toArray 50)).setCell ⟨b, 123, none⟩ (.slice (some ⟨wr20.heap.size, 0, none⟩) 9 9))) := (HO.out.alloc _).trans O1
      have g13 : MsgAt ((wr20.alloc (.cells (rvs R0).toArray 50)).setCell ⟨b, 123, none⟩ (.slice (some ⟨wr20.heap.size, 0, none⟩) 9 9)) (some ⟨wr20.heap.size, 0, none⟩) 9 9 none 0 0 (List.replicate 9 (0, [])) [] := by
        have h := heap_alloc_new wr20 (.cells (rvs R0).toArray 50)
        rw [HR0.out] at h
        have g := (msgAt_nine h).apart (M := _) (by have q := O1; rw [HR0.out] at q; exact q) (by have q := HM.out.kept K9; rw [HR0.out] at q; exact q)
        rwa [← HR0.out] at g
      clear HO c c' z HM hm9 K9 O1
      generalize World.setCell (World.alloc wr20 _) _ _ = Z at *
      generalize wr20.heap.size = p9 at *
      have HB : Hid (∀ m ∈ [⟨4, 0, 1, 3, 5, 2, la0, 2, lc0, none, 0, 0, 0⟩, ⟨1, 0, 0, 3, 5, 2, la1, 2, lc1, none, 0, 0, 0⟩, ⟨1, 0, 1, 0, 5, 2, la2, 2, lc2, none, 0, 0, 0⟩, ⟨1, 0, 1, 2, 5, 2, la3, 2, lc3, none, 0, 0, 0⟩, ⟨1, 0, 1, 3, 4, 2, la4, 2, lc4, none, 0, 0, 0⟩, ⟨1, 0, 1, 3, 5, 3, la5, 2, lc5, none, 0, 0, 0⟩, ⟨1, 0, 1, 3, 5, 4, la6, 2, lc6, none, 0, 0, 0⟩, ⟨1, 0, 1, 3, 5, 2, la7, 2, lc7, none, 0, 0, 1⟩, ⟨1, 0, 1, 3, (-1), 2, la8, 2, lc8, none, 0, 0, 0⟩, ⟨2, 0, 1, 3, 5, 1, none, 0, 0, none, 0, 0, 0⟩, ⟨3, 0, 1, 3, 5, 0, none, 0, 0, none, 0, 0, 0⟩, ⟨3, 0, 1, 3, 0, 0, none, 0, 0, none, 0, 0, (-1)⟩, ⟨1, 0, 1, 3, 0, 1, none, 0, 0, none, 0, 0, 0⟩, ⟨1, 0, 1, 3, 5, 2, some ⟨p9, 0, none⟩, 9, 9, none, 0, 0, 0⟩], Bad Z m) := by
        obtain ⟨h0, h1, h2, h3, h4, h5, h6, h7, h8, h9, h10, h11, h12, h13⟩ := HG.out
        intro m hm
        simp only [List.mem_cons, List.not_mem_nil, or_false] at hm
        rcases hm with rfl | rfl | rfl | rfl | rfl | rfl | rfl | rfl | rfl | rfl | rfl | rfl | rfl | rfl
        · exact badOf (h0.apart HO'.out HM0.out) (by decide +kernel)
        · exact badOf (h1.apart HO'.out HM0.out) (by decide +kernel)
        · exact badOf (h2.apart HO'.out HM0.out) (by decide +kernel)
        · exact badOf (h3.apart HO'.out HM0.out) (by decide +kernel)
        · exact badOf (h4.apart HO'.out HM0.out) (by decide +kernel)
        · exact badOf (h5.apart HO'.out HM0.out) (by decide +kernel)
        · exact badOf (h6.apart HO'.out HM0.out) (by decide +kernel)
        · exact badOf (h7.apart HO'.out HM0.out) (by decide +kernel)
        · exact badOf (h8.apart HO'.out HM0.out) (by decide +kernel)
        · exact badNil (by decide +kernel)
        · exact badNil (by decide +kernel)
        · exact badNil (by decide +kernel)
        · exact badNil (by decide +kernel)
        · exact ⟨_, _, g13, by intro l hl; rw [List.eq_of_mem_replicate hl]; exact isB_of_mem (by simp), isW_nil, by show 9 ≤ 100; omega, (show goodM ⟨1, 0, 1, 3, 5, 2, none, 9, 0, none, 0, 0, 0⟩ (lens (List.replicate 9 (0, []))) [] = false by decide +kernel)⟩
      replace KW := KW.onl HO'.out (by intro i hi; simp at hi; omega)
      clear HG g13 HO' HM0
      obtain ⟨Lf, hLf⟩ : ∃ Lf : List MV, Lf = [⟨4, 0, 1, 3, 5, 2, la0, 2, lc0, none, 0, 0, 0⟩, ⟨1, 0, 0, 3, 5, 2, la1, 2, lc1, none, 0, 0, 0⟩, ⟨1, 0, 1, 0, 5, 2, la2, 2, lc2, none, 0, 0, 0⟩, ⟨1, 0, 1, 2, 5, 2, la3, 2, lc3, none, 0, 0, 0⟩, ⟨1, 0, 1, 3, 4, 2, la4, 2, lc4, none, 0, 0, 0⟩, ⟨1, 0, 1, 3, 5, 3, la5, 2, lc5, none, 0, 0, 0⟩, ⟨1, 0, 1, 3, 5, 4, la6, 2, lc6, none, 0, 0, 0⟩, ⟨1, 0, 1, 3, 5, 2, la7, 2, lc7, none, 0, 0, 1⟩, ⟨1, 0, 1, 3, (-1), 2, la8, 2, lc8, none, 0, 0, 0⟩, ⟨2, 0, 1, 3, 5, 1, none, 0, 0, none, 0, 0, 0⟩, ⟨3, 0, 1, 3, 5, 0, none, 0, 0, none, 0, 0, 0⟩, ⟨3, 0, 1, 3, 0, 0, none, 0, 0, none, 0, 0, (-1)⟩, ⟨1, 0, 1, 3, 0, 1, none, 0, 0, none, 0, 0, 0⟩, ⟨1, 0, 1, 3, 5, 2, some ⟨p9, 0, none⟩, 9, 9, none, 0, 0, 0⟩] := ⟨_, rfl⟩
      have hLn : Lf.length = 14 := by rw [hLf]; rfl
      rw [← hLf] at HB HM'
      clear hLf
      go_wp2_with fail
      go_loopw [3] (fun i wq => ∃ (j : Nat), i = .int .i64 (j : Nat) ∧ j ≤ 14 ∧ Kept Z wq) (fun i _ => 14 - (intOf i).toNat)
      case atStart => exact ⟨0, rfl, by omega, Kept.refl _⟩
      case round =>
        obtain ⟨j, rfl, hj, KZ⟩ := hrel
        by_cases hlt : j < 14
        · have hlt' : (j : Int) < 14 := by omega
          obtain ⟨m, hm⟩ : ∃ m, Lf[j]? = some m := ⟨_, List.getElem?_eq_getElem (by omega)⟩
          obtain ⟨k, f, t, e, o, p, la, ln, lc, ta, tn, tc, te⟩ := m
          have HCj : Hid (∀ V, Kept Z V → _) := fun V kk => (HM'.out.kept kk).cells hm (j * 9) rfl
          dsimp only at HCj
          obtain ⟨L, T, g1, g2, g3, g4, g5⟩ := HB.out _ (List.mem_of_getElem? hm)
          have HG := Lib.hid (fun V (kk : Kept Z V) => cGood (k := k) (f := f) (t := t) (e := e) (o := o) (p := p) (te := te) (g1.kept kk) g3 g4 g5)
          have HP := Lib.hid (fun V (kk : Kept Z V) => cPut (k := k) (f := f) (t := t) (e := e) (o := o) (p := p) (te := te) (g1.kept kk) g2 g3 g4)
          rw [g5] at HP
          simp only [Bool.false_eq_true, if_false] at HP
          clear g1 g2 g3 g4 g5 hm
          obtain ⟨q0, q1, q2, q3, q4, q5, q6, q7, q8⟩ := HCj.out _ KZ
          go_wp2_with fail
          refine (HG.out _ KZ).mono ?_
          rintro E V ⟨rfl, J⟩
          clear q0 q1 q2 q3 q4 q5 q6 q7 q8
          replace KZ := KZ.trans J
          clear J
          obtain ⟨q0, q1, q2, q3, q4, q5, q6, q7, q8⟩ := HCj.out _ KZ
          go_wp2_with fail
          refine (HP.out _ KZ).mono ?_
          rintro E V2 ⟨a, n, c, rfl, hS, J⟩
          clear q0 q1 q2 q3 q4 q5 q6 q7 q8
          replace KZ := KZ.trans J
          obtain rfl : n = 0 := hS.1.symm
          clear J hS
          go_wp2_with fail
          go_roundw
          case rel => exact ⟨j + 1, by go_num, by omega, KZ⟩
          case measure => simp [intOf]; omega
        · have hge : (14 : Int) ≤ j := by omega
          obtain rfl : j = 14 := by omega
          clear HM' HB
          replace KW := KW.trans KZ
          clear KZ
          go_wp2_with fail
          have ha := heap_alloc_new wr (.cells #[.int .i64 2, .int .i64 1, .int .i64 0, .int .i64 1, .int .i64 17592186044415, .int .i64 0, .slice none 0 0, .slice none 0 0, .int .i64 0] 29)
          replace KW := KW.trans (kept_al wr (.cells #[.int .i64 2, .int .i64 1, .int .i64 0, .int .i64 1, .int .i64 17592186044415, .int .i64 0, .slice none 0 0, .slice none 0 0, .int .i64 0] 29))
          generalize wr.heap.size = qa at *
          generalize World.alloc wr _ = Y at *
          refine (law_at 1 0 17592186044416 _ (by omega) (by omega) (by omega) (by omega) (by omega)).mono ?_
          rintro E V ⟨rfl, rfl⟩
          go_upto_region 29 with fail
          have hT := sl_lit .u64 Y 35 (0, 0) [17592186044416] 1 rfl (by unfold maxLen; omega)
          have hbb := two_new' Y (.cells #[.int .u64 17592186044416] 35) (.cells #[.int .i64 3, .int .i64 1, .int .i64 0, .int .i64 1048575, .int .i64 0, .int .i64 0, .slice none 0 0, .slice (some ⟨Y.heap.size, 0, none⟩) 1 1, .int .i64 4] 29)
          have K1 := kept_al (Y.alloc (.cells #[.int .u64 17592186044416] 35)) (.cells #[.int .i64 3, .int .i64 1, .int .i64 0, .int .i64 1048575, .int .i64 0, .int .i64 0, .slice none 0 0, .slice (some ⟨Y.heap.size, 0, none⟩) 1 1, .int .i64 4] 29)
          replace hT := K1.sl hT
          have K2 := (kept_al Y (.cells #[.int .u64 17592186044416] 35)).trans K1
          replace ha := K2.only.heap ha (by simp)
          replace KW := KW.trans K2
          clear K1 K2
          change Sl .u64 _ _ _ _ [17592186044416] at hT
          generalize Y.heap.size + 1 = qb at *
          generalize Y.heap.size = qt at *
          generalize World.alloc (World.alloc Y _) _ = Y2 at *
          have HA : Hid (∀ V, Kept Y2 V → V.cell? ⟨qa, 0, none⟩ = some (.int .i64 2) ∧ V.cell? ⟨qa, 1, none⟩ = some (.int .i64 1) ∧ V.cell? ⟨qa, 2, none⟩ = some (.int .i64 0) ∧ V.cell? ⟨qa, 3, none⟩ = some (.int .i64 1) ∧ V.cell? ⟨qa, 4, none⟩ = some (.int .i64 17592186044415) ∧ V.cell? ⟨qa, 5, none⟩ = some (.int .i64 0) ∧ V.cell? ⟨qa, 6, none⟩ = some (.slice none 0 0) ∧ V.cell? ⟨qa, 7, none⟩ = some (.slice none 0 0) ∧ V.cell? ⟨qa, 8, none⟩ = some (.int .i64 0)) := fun V kk => nine_cells (kk.only.heap ha (by simp))
          have HB : Hid (∀ V, Kept Y2 V → V.cell? ⟨qb, 0, none⟩ = some (.int .i64 3) ∧ V.cell? ⟨qb, 1, none⟩ = some (.int .i64 1) ∧ V.cell? ⟨qb, 2, none⟩ = some (.int .i64 0) ∧ V.cell? ⟨qb, 3, none⟩ = some (.int .i64 1048575) ∧ V.cell? ⟨qb, 4, none⟩ = some (.int .i64 0) ∧ V.cell? ⟨qb, 5, none⟩ = some (.int .i64 0) ∧ V.cell? ⟨qb, 6, none⟩ = some (.slice none 0 0) ∧ V.cell? ⟨qb, 7, none⟩ = some (.slice (some ⟨qt, 0, none⟩) 1 1) ∧ V.cell? ⟨qb, 8, none⟩ = some (.int .i64 4)) := fun V kk => nine_cells (kk.only.heap hbb (by simp))
          clear ha hbb
          have wT : IsW [17592186044416] := isW_of_mem (by decide)
          have HMa : Hid (MsgAt Y2 none 0 0 none 0 0 [] []) := msgAt_nil _
          have HMb : Hid (MsgAt Y2 none 0 0 (some ⟨qt, 0, none⟩) 1 1 [] [17592186044416]) := ⟨[], ⟨rfl, Nat.le_refl _, by unfold maxLen; omega, fun i r hi => by cases hi⟩, ⟨rfl, fun i r l h1 h2 => by cases h1⟩, hT⟩
          clear hT
          have goA : goodM ⟨2, 1, 0, 1, 17592186044415, 0, none, 0, 0, none, 0, 0, 0⟩ (lens []) [] = true := by decide +kernel
          have goB : goodM ⟨3, 1, 0, 1048575, 0, 0, none, 0, 0, none, 1, 0, 4⟩ (lens []) [17592186044416] = true := by decide +kernel
          have HPa := Lib.hid (fun V (kk : Kept Y2 V) => cPut (k := 2) (f := 1) (t := 0) (e := 1) (o := 17592186044415) (p := 0) (te := 0) (HMa.out.kept kk) (by simp) isW_nil (by omega))
          have HPb := Lib.hid (fun V (kk : Kept Y2 V) => cPut (k := 3) (f := 1) (t := 0) (e := 1048575) (o := 0) (p := 0) (te := 4) (HMb.out.kept kk) (by simp) wT (by omega))
          rw [if_pos goA] at HPa
          rw [if_pos (show goodM ⟨3, 1, 0, 1048575, 0, 0, none, 0, 0, some ⟨qt, 0, none⟩, 1, 1, 4⟩ (lens []) [17592186044416] = true from goB)] at HPb
          have HGa := Lib.hid (fun V a n c hS => cGet (V := V) (a := a) (n := n) (c := c) (k := 2) (f := 1) (t := 0) (e := 1) (o := 17592186044415) (p := 0) (te := 0) (L := []) (T := []) hS goA rfl rfl (by simp) isW_nil)
          have HGb := Lib.hid (fun V a n c hS => cGet (V := V) (a := a) (n := n) (c := c) (k := 3) (f := 1) (t := 0) (e := 1048575) (o := 0) (p := 0) (te := 4) (L := []) (T := [17592186044416]) hS goB rfl rfl (by simp) wT)
          generalize encM 2 1 1 17592186044415 0 [] [] 0 = ZA at *
          generalize encM 3 1 1048575 0 0 [] [17592186044416] 4 = ZB at *
          have KZ := Kept.refl Y2
          obtain ⟨q0, q1, q2, q3, q4, q5, q6, q7, q8⟩ := HA.out _ KZ
          go_wp2_with fail
          refine (HPa.out _ KZ).mono ?_
          rintro E Va ⟨ax, nx, cx, rfl, hS, J⟩
          replace KZ := KZ.trans J
          clear J q0 q1 q2 q3 q4 q5 q6 q7 q8
          go_wp2_with fail
          refine (HGa.out _ _ _ _ hS).mono ?_
          rintro E Vc ⟨laC, lcC, taC, tcC, rfl, hM, J⟩
          replace KZ := KZ.trans J
          clear J hS
          have HMC := Lib.hid hM
          clear hM
          go_upto_region 30 with fail
          have hx := heap_alloc_new Vc (.cells #[.int .i64 2, .int .i64 1, .int .i64 0, .int .i64 1, .int .i64 17592186044415, .int .i64 0, .slice laC 0 lcC, .slice taC 0 tcC, .int .i64 0] 29)
          have J := kept_al Vc (.cells #[.int .i64 2, .int .i64 1, .int .i64 0, .int .i64 1, .int .i64 17592186044415, .int .i64 0, .slice laC 0 lcC, .slice taC 0 tcC, .int .i64 0] 29)
          replace KZ := KZ.trans J
          replace HMC := Lib.hid (HMC.out.kept J)
          clear J
          generalize Vc.heap.size = qC at *
          generalize World.alloc Vc _ = Vcb at *
          have HC : Hid (∀ V, Kept Vcb V → V.cell? ⟨qC, 0, none⟩ = some (.int .i64 2) ∧ V.cell? ⟨qC, 1, none⟩ = some (.int .i64 1) ∧ V.cell? ⟨qC, 2, none⟩ = some (.int .i64 0) ∧ V.cell? ⟨qC, 3, none⟩ = some (.int .i64 1) ∧ V.cell? ⟨qC, 4, none⟩ = some (.int .i64 17592186044415) ∧ V.cell? ⟨qC, 5, none⟩ = some (.int .i64 0) ∧ V.cell? ⟨qC, 6, none⟩ = some (.slice laC 0 lcC) ∧ V.cell? ⟨qC, 7, none⟩ = some (.slice taC 0 tcC) ∧ V.cell? ⟨qC, 8, none⟩ = some (.int .i64 0)) := fun V kk => nine_cells (kk.only.heap hx (by simp))
          clear hx
          have KC := Kept.refl Vcb
          obtain ⟨q0, q1, q2, q3, q4, q5, q6, q7, q8⟩ := HB.out _ KZ
          go_wp2_with fail
          refine (HPb.out _ KZ).mono ?_
          rintro E Vd ⟨ay, ny, cy, rfl, hS, J⟩
          replace KZ := KZ.trans J
          replace KC := KC.trans J
          clear J q0 q1 q2 q3 q4 q5 q6 q7 q8
          go_wp2_with fail
          refine (HGb.out _ _ _ _ hS).mono ?_
          rintro E Ve ⟨laE, lcE, taE, tcE, rfl, hM, J⟩
          replace KZ := KZ.trans J
          replace KC := KC.trans J
          clear J hS
          have HME := Lib.hid hM
          clear hM
          go_upto_region 31 with fail
          have hx := heap_alloc_new Ve (.cells #[.int .i64 3, .int .i64 1, .int .i64 0, .int .i64 1048575, .int .i64 0, .int .i64 0, .slice laE 0 lcE, .slice taE 1 tcE, .int .i64 4] 29)
          have J := kept_al Ve (.cells #[.int .i64 3, .int .i64 1, .int .i64 0, .int .i64 1048575, .int .i64 0, .int .i64 0, .slice laE 0 lcE, .slice taE 1 tcE, .int .i64 4] 29)
          replace KZ := KZ.trans J
          replace KC := KC.trans J
          replace HME := Lib.hid (HME.out.kept J)
          clear J
          generalize Ve.heap.size = qE at *
          generalize World.alloc Ve _ = Veb at *
          have HE : Hid (∀ V, Kept Veb V → V.cell? ⟨qE, 0, none⟩ = some (.int .i64 3) ∧ V.cell? ⟨qE, 1, none⟩ = some (.int .i64 1) ∧ V.cell? ⟨qE, 2, none⟩ = some (.int .i64 0) ∧ V.cell? ⟨qE, 3, none⟩ = some (.int .i64 1048575) ∧ V.cell? ⟨qE, 4, none⟩ = some (.int .i64 0) ∧ V.cell? ⟨qE, 5, none⟩ = some (.int .i64 0) ∧ V.cell? ⟨qE, 6, none⟩ = some (.slice laE 0 lcE) ∧ V.cell? ⟨qE, 7, none⟩ = some (.slice taE 1 tcE) ∧ V.cell? ⟨qE, 8, none⟩ = some (.int .i64 4)) := fun V kk => nine_cells (kk.only.heap hx (by simp))
          clear hx
          have KE := Kept.refl Veb
          go_wp2_with fail
          refine (msg_get_nil _).mono ?_
          rintro E Vf ⟨rfl, J⟩
          replace KZ := KZ.trans J
          replace KC := KC.trans J
          replace KE := KE.trans J
          clear J
          go_upto_region 32 with fail
          have hx := heap_alloc_new Vf (.cells #[.int .i64 0, .int .i64 0, .int .i64 0, .int .i64 0, .int .i64 0, .int .i64 0, .slice none 0 0, .slice none 0 0, .int .i64 0] 29)
          have J := kept_al Vf (.cells #[.int .i64 0, .int .i64 0, .int .i64 0, .int .i64 0, .int .i64 0, .int .i64 0, .slice none 0 0, .slice none 0 0, .int .i64 0] 29)
          replace KZ := KZ.trans J
          replace KC := KC.trans J
          replace KE := KE.trans J
          clear J
          generalize Vf.heap.size = qN at *
          generalize World.alloc Vf _ = Vfb at *
          clear hx
          have HS1 := Lib.hid (fun V (kk : Kept Vcb V) (kk' : Kept Y2 V) => cSame (k := 2) (f := 1) (t := 0) (e := 1) (o := 17592186044415) (p := 0) (te := 0) (k' := 2) (f' := 1) (t' := 0) (e' := 1) (o' := 17592186044415) (p' := 0) (te' := 0) (HMC.out.kept kk) (HMa.out.kept kk') (by simp) (by simp))
          have HS2 := Lib.hid (fun V (kk : Kept Veb V) (kk' : Kept Y2 V) => cSame (k := 3) (f := 1) (t := 0) (e := 1048575) (o := 0) (p := 0) (te := 4) (k' := 3) (f' := 1) (t' := 0) (e' := 1048575) (o' := 0) (p' := 0) (te' := 4) (HME.out.kept kk) (HMb.out.kept kk') (by simp) (by simp))
          have HS3 := Lib.hid (fun V (kk' : Kept Y2 V) => cSame (k := 2) (f := 1) (t := 0) (e := 1) (o := 17592186044415) (p := 0) (te := 0) (k' := 3) (f' := 1) (t' := 0) (e' := 1048575) (o' := 0) (p' := 0) (te' := 4) (HMa.out.kept kk') (HMb.out.kept kk') (by simp) (by simp))
          rw [decide_eq_true (by decide)] at HS1 HS2
          rw [decide_eq_false (by decide)] at HS3
          have HGd := Lib.hid (fun V => cGood (k := 1) (f := 0) (t := 1) (e := 1) (o := 0) (p := 0) (te := 0) (msgAt_nil V) isW_nil (by omega) (g := true) (by decide +kernel))
          obtain ⟨q0, q1, q2, q3, q4, q5, q6, q7, q8⟩ := HC.out _ KC
          obtain ⟨r0, r1, r2, r3, r4, r5, r6, r7, r8⟩ := HA.out _ KZ
          go_wp2_with fail
          refine (HS1.out _ KC KZ).mono ?_
          rintro E V9 ⟨rfl, J⟩
          replace KZ := KZ.trans J
          replace KC := KC.trans J
          replace KE := KE.trans J
          clear J q0 q1 q2 q3 q4 q5 q6 q7 q8 r0 r1 r2 r3 r4 r5 r6 r7 r8
          obtain ⟨q0, q1, q2, q3, q4, q5, q6, q7, q8⟩ := HE.out _ KE
          obtain ⟨r0, r1, r2, r3, r4, r5, r6, r7, r8⟩ := HB.out _ KZ
          go_wp2_with fail
          refine (HS2.out _ KE KZ).mono ?_
          rintro E V9 ⟨rfl, J⟩
          replace KZ := KZ.trans J
          replace KC := KC.trans J
          replace KE := KE.trans J
          clear J q0 q1 q2 q3 q4 q5 q6 q7 q8 r0 r1 r2 r3 r4 r5 r6 r7 r8
          obtain ⟨q0, q1, q2, q3, q4, q5, q6, q7, q8⟩ := HA.out _ KZ
          obtain ⟨r0, r1, r2, r3, r4, r5, r6, r7, r8⟩ := HB.out _ KZ
          go_wp2_with fail
          refine (HS3.out _ KZ).mono ?_
          rintro E V9 ⟨rfl, J⟩
          replace KZ := KZ.trans J
          replace KC := KC.trans J
          replace KE := KE.trans J
          clear J q0 q1 q2 q3 q4 q5 q6 q7 q8 r0 r1 r2 r3 r4 r5 r6 r7 r8
          go_wp2_with fail
          refine (HGd.out _).mono ?_
          rintro E V9 ⟨rfl, J⟩
          replace KZ := KZ.trans J
          replace KC := KC.trans J
          replace KE := KE.trans J
          go_wp2
          exact bodyPost_ret (v := .bool true) (by simp [results, Try.results3, go_sem]) rfl ⟨rfl, KW.trans KZ⟩
end Go.Proofs.Ytpojncpblkklgaa
