/- The document's GoodEvent. -/
import Derived.Test.YteaepgbakcifkaaDoorEvD2
import Derived.BigQuiet
import Derived.Deep.CutRange
set_option linter.unusedVariables false
set_option linter.unusedSimpArgs false
namespace Go.Proofs.YteaepgbakcifkaaDoor
open Go.RowKit
abbrev evOd (e : EV) : Obj := .cells #[.int .i64 e.k, .int .i64 e.r, .int .i64 e.t, .int .i64 e.y, .int .i64 e.n, .string e.nm, .string e.ky, .string e.dt] 33 (0, 0)
theorem evd_cells {w : World} {p : Nat} {x : EV} (h : w.heap[p]? = some (evOd x)) :
    w.cell? ⟨p, 0, none⟩ = some (.int .i64 x.k) ∧ w.cell? ⟨p, 1, none⟩ = some (.int .i64 x.r) ∧ w.cell? ⟨p, 2, none⟩ = some (.int .i64 x.t) ∧ w.cell? ⟨p, 3, none⟩ = some (.int .i64 x.y) ∧ w.cell? ⟨p, 4, none⟩ = some (.int .i64 x.n) ∧ w.cell? ⟨p, 5, none⟩ = some (.string x.nm) ∧ w.cell? ⟨p, 6, none⟩ = some (.string x.ky) ∧ w.cell? ⟨p, 7, none⟩ = some (.string x.dt) :=
  ⟨at_cell h 0 _ rfl, at_cell h 1 _ rfl, at_cell h 2 _ rfl, at_cell h 3 _ rfl, at_cell h 4 _ rfl, at_cell h 5 _ rfl, at_cell h 6 _ rfl, at_cell h 7 _ rfl⟩
def topK (k : Int) : Int := if k = 9 then 1048575 else 1099511627776
/-- what the document's test tells -/
def goodD (e : EV) : Bool :=
  (decide (1 ≤ e.k) && decide (e.k ≤ 9)) && wB (hasB e.k 114) e.r 1 64 && wB (hasB e.k 116) e.t 0 15 && wB (hasB e.k 121) e.y 1 9 && wB (hasB e.k 110) e.n 1 (topK e.k) && (hasB e.k 97 && nameOk e.nm || !hasB e.k 97 && e.nm.toList.isEmpty) && (hasB e.k 107 && decide ((e.ky.size : Int) ≤ 16) || e.ky.toList.isEmpty) && (hasB e.k 100 && decide ((e.dt.size : Int) ≤ mostK e.k) || e.dt.toList.isEmpty)
/-- a world in which all that lay in X lies as it lay -/
structure KW (X : World) where
  v : World
  h : Kept X v
instance (X : World) : Nonempty (KW X) := ⟨⟨X, Kept.refl X⟩⟩
/-- what a region that draws and keeps what was there comes to: one walk, in the order of the text -/
theorem wp_region_keptq {P : Program} {X : World} {id : Nat} {Q : Exit → Act → World → Prop} {a : Act} {w : World} {l : List Oper} (hm : P.follows .mixedOrders = true) (hB : Region.lexB .any l.toArray = true) (hX : Kept X w)
    (h : wpQuiet P l.toArray (fun w' => ∃ V : KW X, w' = V.v) (fun a' => ∀ w', (∃ V : KW X, w' = V.v) → Q .normal a' w') l a) : (Code.region id l.toArray true).wp P Q a w :=
  wp_region_quiet (C := fun w' => ∃ V : KW X, w' = V.v) hm hB ⟨⟨_, hX.trans (by (unfold Kept; repeat (first | exact Below.refl _ _ | assumption | (refine Below.alloc ?_ (by simp) _) | (refine Below.setCell ?_ (by simp) _) | (refine Below.drew ?_) | (refine _root_.Go.below_drewN ?_ _))) : Kept w w.drew)⟩, rfl⟩ (by simpa using h)
theorem kq {P : Program} {f : FuncId} {args : Array Value} {X : World} {V : KW X} {v : Value} (h : ∀ W, Calls P f args W fun e w' => e = .returned v ∧ Kept W w') : Calls P f args V.v fun e w' => e = .returned v ∧ ∃ V' : KW X, w' = V'.v :=
  (h _).mono fun e w' ⟨he, k⟩ => ⟨he, ⟨w', V.h.trans k⟩, rfl⟩
theorem kept_of_same {P : Program} {f : FuncId} {args : Array Value} {v : Value} (h : ∀ W, Calls P f args W fun e w' => e = .returned v ∧ W = w') : ∀ W, Calls P f args W fun e w' => e = .returned v ∧ Kept W w' :=
  fun W => (h W).mono fun e w' ⟨he, hw⟩ => ⟨he, hw ▸ Kept.refl W⟩
theorem kept_alD (w : World) (o : Obj) : Kept w (w.alloc o) := by (unfold Kept; repeat (first | exact Below.refl _ _ | assumption | (refine Below.alloc ?_ (by simp) _) | (refine Below.setCell ?_ (by simp) _) | (refine Below.drew ?_) | (refine _root_.Go.below_drewN ?_ _)))
set_option maxRecDepth 100000 in
set_option maxHeartbeats 8000000 in
theorem rv_good_lo (e : EV) (hs : e.nm.size ≤ 281474976710656) (h1 : e.k < 1) (w : World) : Calls Tryd.prog 13 #[evV e] w fun E w' => E = .returned (.bool (goodD e)) ∧ Kept w w' := by
  have HF := Lib.hid (fun W => rv_fields e.k W)
  have HH0 := Lib.hid (fun (c : UInt8) W => rv_has e.k c W)
  have HN := Lib.hid (kept_of_same fun W => rv_name e.nm hs W)
  have HW1 := Lib.hid (kept_of_same fun W => rv_within (hasB e.k 114) e.r 1 64 W)
  have HW2 := Lib.hid (kept_of_same fun W => rv_within (hasB e.k 116) e.t 0 15 W)
  have HW3 := Lib.hid (kept_of_same fun W => rv_within (hasB e.k 121) e.y 1 9 W)
  have HW4 := Lib.hid (kept_of_same fun W => rv_within (hasB e.k 110) e.n 1 (topK e.k) W)
  obtain ⟨R, hR⟩ : ∃ R, goodD e = R := ⟨_, rfl⟩
  have HR := Lib.hid (hR.symm.trans (show goodD e = ((decide (1 ≤ e.k) && decide (e.k ≤ 9)) && wB (hasB e.k 114) e.r 1 64 && wB (hasB e.k 116) e.t 0 15 && wB (hasB e.k 121) e.y 1 9 && wB (hasB e.k 110) e.n 1 (topK e.k) && (hasB e.k 97 && nameOk e.nm || !hasB e.k 97 && e.nm.toList.isEmpty) && (hasB e.k 107 && decide ((e.ky.size : Int) ≤ 16) || e.ky.toList.isEmpty) && (hasB e.k 100 && decide ((e.dt.size : Int) ≤ mostK e.k) || e.dt.toList.isEmpty)) from rfl))
  rw [hR]
  clear hR hs

  rw [decide_eq_false (by omega : ¬ 1 ≤ e.k)] at HR
  have k9b : (e.k == 9) = false := by rw [beq_eq_false_iff_ne]; omega
  generalize topK e.k = T at *
  go_enter Tryd.func13, Tryd.ntmps13
  go_wp2_with fail
  refine (HF.out _).mono ?_
  rintro E V0 ⟨rfl, hK⟩
  have HK0 := Lib.hid (Kept.trans (show Kept w (w.alloc (evOd e)) by (unfold Kept; repeat (first | exact Below.refl _ _ | assumption | (refine Below.alloc ?_ (by simp) _) | (refine Below.setCell ?_ (by simp) _) | (refine Below.drew ?_) | (refine _root_.Go.below_drewN ?_ _)))) hK)
  have HQ0 := Lib.hid (hK.only.heap (heap_alloc_new w (evOd e)) (by simp))
  clear hK
  go_wp2_with fail
  dsimp only [List.append]
  have hd1 : decide (1 ≤ e.k) = false := decide_eq_false (by omega)
  refine wp_region_keptq (by kernel_rfl) (by kernel_rfl) (Kept.refl _) ?_
  repeat (go_big_quiet_step (fail))
  refine wpQuiet_nil ?_
  intro _ hw'
  obtain ⟨Vq, rfl⟩ := hw'
  go_wp2_with fail
  go_ret
  exact ⟨by rw [HR.out]; rfl, HK0.out.trans Vq.h⟩
set_option maxRecDepth 100000 in
set_option maxHeartbeats 8000000 in
theorem rv_good_hi (e : EV) (hs : e.nm.size ≤ 281474976710656) (h1 : 1 ≤ e.k) (h2 : 9 < e.k) (w : World) : Calls Tryd.prog 13 #[evV e] w fun E w' => E = .returned (.bool (goodD e)) ∧ Kept w w' := by
  have HF := Lib.hid (fun W => rv_fields e.k W)
  have HH0 := Lib.hid (fun (c : UInt8) W => rv_has e.k c W)
  have HN := Lib.hid (kept_of_same fun W => rv_name e.nm hs W)
  have HW1 := Lib.hid (kept_of_same fun W => rv_within (hasB e.k 114) e.r 1 64 W)
  have HW2 := Lib.hid (kept_of_same fun W => rv_within (hasB e.k 116) e.t 0 15 W)
  have HW3 := Lib.hid (kept_of_same fun W => rv_within (hasB e.k 121) e.y 1 9 W)
  have HW4 := Lib.hid (kept_of_same fun W => rv_within (hasB e.k 110) e.n 1 (topK e.k) W)
  obtain ⟨R, hR⟩ : ∃ R, goodD e = R := ⟨_, rfl⟩
  have HR := Lib.hid (hR.symm.trans (show goodD e = ((decide (1 ≤ e.k) && decide (e.k ≤ 9)) && wB (hasB e.k 114) e.r 1 64 && wB (hasB e.k 116) e.t 0 15 && wB (hasB e.k 121) e.y 1 9 && wB (hasB e.k 110) e.n 1 (topK e.k) && (hasB e.k 97 && nameOk e.nm || !hasB e.k 97 && e.nm.toList.isEmpty) && (hasB e.k 107 && decide ((e.ky.size : Int) ≤ 16) || e.ky.toList.isEmpty) && (hasB e.k 100 && decide ((e.dt.size : Int) ≤ mostK e.k) || e.dt.toList.isEmpty)) from rfl))
  rw [hR]
  clear hR hs

  rw [decide_eq_true h1, decide_eq_false (by omega : ¬ e.k ≤ 9)] at HR
  have k9b : (e.k == 9) = false := by rw [beq_eq_false_iff_ne]; omega
  generalize topK e.k = T at *
  go_enter Tryd.func13, Tryd.ntmps13
  go_wp2_with fail
  refine (HF.out _).mono ?_
  rintro E V0 ⟨rfl, hK⟩
  have HK0 := Lib.hid (Kept.trans (show Kept w (w.alloc (evOd e)) by (unfold Kept; repeat (first | exact Below.refl _ _ | assumption | (refine Below.alloc ?_ (by simp) _) | (refine Below.setCell ?_ (by simp) _) | (refine Below.drew ?_) | (refine _root_.Go.below_drewN ?_ _)))) hK)
  have HQ0 := Lib.hid (hK.only.heap (heap_alloc_new w (evOd e)) (by simp))
  clear hK
  go_wp2_with fail
  dsimp only [List.append]
  have hd1 : decide (1 ≤ e.k) = true := decide_eq_true (by omega)
  have hd2 : decide (e.k ≤ 9) = false := decide_eq_false (by omega)
  refine wp_region_keptq (by kernel_rfl) (by kernel_rfl) (Kept.refl _) ?_
  repeat (go_big_quiet_step (fail))
  refine wpQuiet_nil ?_
  intro _ hw'
  obtain ⟨Vq, rfl⟩ := hw'
  go_wp2_with fail
  go_ret
  exact ⟨by rw [HR.out]; rfl, HK0.out.trans Vq.h⟩
set_option maxRecDepth 100000 in
set_option maxHeartbeats 8000000 in
theorem rv_good_in (e : EV) (hs : e.nm.size ≤ 281474976710656) (h1 : 1 ≤ e.k) (h2 : e.k ≤ 9) (w : World) : Calls Tryd.prog 13 #[evV e] w fun E w' => E = .returned (.bool (goodD e)) ∧ Kept w w' := by
  have HF := Lib.hid (fun W => rv_fields e.k W)
  have HH0 := Lib.hid (fun (c : UInt8) W => rv_has e.k c W)
  have HN := Lib.hid (kept_of_same fun W => rv_name e.nm hs W)
  have HW1 := Lib.hid (kept_of_same fun W => rv_within (hasB e.k 114) e.r 1 64 W)
  have HW2 := Lib.hid (kept_of_same fun W => rv_within (hasB e.k 116) e.t 0 15 W)
  have HW3 := Lib.hid (kept_of_same fun W => rv_within (hasB e.k 121) e.y 1 9 W)
  have HW4 := Lib.hid (kept_of_same fun W => rv_within (hasB e.k 110) e.n 1 (topK e.k) W)
  obtain ⟨R, hR⟩ : ∃ R, goodD e = R := ⟨_, rfl⟩
  have HR := Lib.hid (hR.symm.trans (show goodD e = ((decide (1 ≤ e.k) && decide (e.k ≤ 9)) && wB (hasB e.k 114) e.r 1 64 && wB (hasB e.k 116) e.t 0 15 && wB (hasB e.k 121) e.y 1 9 && wB (hasB e.k 110) e.n 1 (topK e.k) && (hasB e.k 97 && nameOk e.nm || !hasB e.k 97 && e.nm.toList.isEmpty) && (hasB e.k 107 && decide ((e.ky.size : Int) ≤ 16) || e.ky.toList.isEmpty) && (hasB e.k 100 && decide ((e.dt.size : Int) ≤ mostK e.k) || e.dt.toList.isEmpty)) from rfl))
  rw [hR]
  clear hR hs

  rw [decide_eq_true h1, decide_eq_true h2] at HR
  obtain ⟨T, hT⟩ : ∃ T, topK e.k = T := ⟨_, rfl⟩
  rw [hT] at HW4 HR
  have HT := Lib.hid (hT.symm.trans (show topK e.k = if e.k = 9 then 1048575 else 1099511627776 from rfl))
  clear hT
  generalize hb1 : wB (hasB e.k 114) e.r 1 64 = b1 at *
  generalize hb2 : wB (hasB e.k 116) e.t 0 15 = b2 at *
  generalize hb3 : wB (hasB e.k 121) e.y 1 9 = b3 at *
  generalize hb4 : wB (hasB e.k 110) e.n 1 T = b4 at *
  generalize hez : e.nm.toList.isEmpty = ez at *
  generalize hkz : e.ky.toList.isEmpty = kz at *
  generalize hdz : e.dt.toList.isEmpty = dz at *
  generalize hkl : decide ((e.ky.size : Int) ≤ 16) = kl at *
  obtain ⟨M, hM⟩ : ∃ M, mostK e.k = M := ⟨_, rfl⟩
  rw [hM] at HF HR
  clear hM
  generalize hdl : decide ((e.dt.size : Int) ≤ M) = dl at *
  generalize nameOk e.nm = nok at *
  have H114 : Hid (∀ W : World, Calls Tryd.prog 38 #[.int .i64 e.k, .int .u8 114] W fun E w' => E = .returned (.bool (hasB e.k 114)) ∧ Kept W w') := fun W => HH0.out 114 W
  have H116 : Hid (∀ W : World, Calls Tryd.prog 38 #[.int .i64 e.k, .int .u8 116] W fun E w' => E = .returned (.bool (hasB e.k 116)) ∧ Kept W w') := fun W => HH0.out 116 W
  have H121 : Hid (∀ W : World, Calls Tryd.prog 38 #[.int .i64 e.k, .int .u8 121] W fun E w' => E = .returned (.bool (hasB e.k 121)) ∧ Kept W w') := fun W => HH0.out 121 W
  have H110 : Hid (∀ W : World, Calls Tryd.prog 38 #[.int .i64 e.k, .int .u8 110] W fun E w' => E = .returned (.bool (hasB e.k 110)) ∧ Kept W w') := fun W => HH0.out 110 W
  have H97 : Hid (∀ W : World, Calls Tryd.prog 38 #[.int .i64 e.k, .int .u8 97] W fun E w' => E = .returned (.bool (hasB e.k 97)) ∧ Kept W w') := fun W => HH0.out 97 W
  have H107 : Hid (∀ W : World, Calls Tryd.prog 38 #[.int .i64 e.k, .int .u8 107] W fun E w' => E = .returned (.bool (hasB e.k 107)) ∧ Kept W w') := fun W => HH0.out 107 W
  have H100 : Hid (∀ W : World, Calls Tryd.prog 38 #[.int .i64 e.k, .int .u8 100] W fun E w' => E = .returned (.bool (hasB e.k 100)) ∧ Kept W w') := fun W => HH0.out 100 W
  generalize hha : hasB e.k 97 = ha at *
  generalize hhk : hasB e.k 107 = hk at *
  generalize hhd : hasB e.k 100 = hd at *
  generalize hasB e.k 114 = h114 at *
  generalize hasB e.k 116 = h116 at *
  generalize hasB e.k 121 = h121 at *
  generalize hasB e.k 110 = h110 at *
  clear hb1 hb2 hb3 hb4 HH0 hha hhk hhd
  go_enter Tryd.func13, Tryd.ntmps13
  go_wp2_with fail
  refine (HF.out _).mono ?_
  rintro E V0 ⟨rfl, hK⟩
  have HK0 := Lib.hid (Kept.trans (show Kept w (w.alloc (evOd e)) by (unfold Kept; repeat (first | exact Below.refl _ _ | assumption | (refine Below.alloc ?_ (by simp) _) | (refine Below.setCell ?_ (by simp) _) | (refine Below.drew ?_) | (refine _root_.Go.below_drewN ?_ _)))) hK)
  have HQ0 := Lib.hid (hK.only.heap (heap_alloc_new w (evOd e)) (by simp))
  clear hK
  generalize w.heap.size = q at *
  have hcs := fun V : KW V0 => evd_cells (V.h.only.heap HQ0.out (by simp))
  obtain ⟨a0, a1, a2, a3, a4, a5, a6, a7⟩ : (∀ V : KW V0, V.v.cell? ⟨q, 0, none⟩ = some (.int .i64 e.k)) ∧ (∀ V : KW V0, V.v.cell? ⟨q, 1, none⟩ = some (.int .i64 e.r)) ∧ (∀ V : KW V0, V.v.cell? ⟨q, 2, none⟩ = some (.int .i64 e.t)) ∧ (∀ V : KW V0, V.v.cell? ⟨q, 3, none⟩ = some (.int .i64 e.y)) ∧ (∀ V : KW V0, V.v.cell? ⟨q, 4, none⟩ = some (.int .i64 e.n)) ∧ (∀ V : KW V0, V.v.cell? ⟨q, 5, none⟩ = some (.string e.nm)) ∧ (∀ V : KW V0, V.v.cell? ⟨q, 6, none⟩ = some (.string e.ky)) ∧ (∀ V : KW V0, V.v.cell? ⟨q, 7, none⟩ = some (.string e.dt)) :=
    ⟨fun V => (hcs V).1, fun V => (hcs V).2.1, fun V => (hcs V).2.2.1, fun V => (hcs V).2.2.2.1, fun V => (hcs V).2.2.2.2.1, fun V => (hcs V).2.2.2.2.2.1, fun V => (hcs V).2.2.2.2.2.2.1, fun V => (hcs V).2.2.2.2.2.2.2⟩
  clear hcs
  go_upto_if 15 with fail
  go_cut [6] from 14 to 15 (fun v6 wx => v6 = .int .i64 T ∧ V0 = wx)
  case first =>
    by_cases h9 : e.k = 9
    · have HT2 := Lib.hid (HT.out.trans (if_pos h9))
      have k9b : (e.k == 9) = true := beq_iff_eq.2 h9
      clear h9
      go_wp2_with fail
      go_meet
      case rel => exact ⟨by rw [HT2.out], rfl⟩
    · have HT2 := Lib.hid (HT.out.trans (if_neg h9))
      have k9b : (e.k == 9) = false := beq_eq_false_iff_ne.2 h9
      clear h9
      go_wp2_with fail
      go_meet
      case rel => exact ⟨by rw [HT2.out], rfl⟩
  case rest =>
  obtain ⟨rfl, rfl⟩ := hcut
  go_wp2_with fail
  dsimp only [List.append]
  have hd1 : decide (1 ≤ e.k) = true := decide_eq_true (by omega)
  have hd2 : decide (e.k ≤ 9) = true := decide_eq_true (by omega)
  refine wp_region_keptq (by kernel_rfl) (by kernel_rfl) (Kept.refl _) ?_

  repeat (go_big_quiet_step (fail))
  go_big_quiet_want
  go_big_quiet_op
  go_big_quiet_call (exact kq H114.out)
  repeat (go_big_quiet_step (fail))
  go_big_quiet_want
  go_big_quiet_op
  go_big_quiet_call (exact kq HW1.out)
  repeat (go_big_quiet_step (fail))
  cases b1 with
  | false =>
    repeat (go_big_quiet_step (fail))
    refine wpQuiet_nil ?_
    intro _ hw'
    obtain ⟨Vq, rfl⟩ := hw'
    go_wp2_with fail
    go_ret
    exact ⟨by rw [HR.out]; rfl, HK0.out.trans Vq.h⟩
  | true =>
    repeat (go_big_quiet_step (fail))
    go_big_quiet_want
    go_big_quiet_op
    go_big_quiet_call (exact kq H116.out)
    repeat (go_big_quiet_step (fail))
    go_big_quiet_want
    go_big_quiet_op
    go_big_quiet_call (exact kq HW2.out)
    repeat (go_big_quiet_step (fail))
    cases b2 with
    | false =>
      repeat (go_big_quiet_step (fail))
      refine wpQuiet_nil ?_
      intro _ hw'
      obtain ⟨Vq, rfl⟩ := hw'
      go_wp2_with fail
      go_ret
      exact ⟨by rw [HR.out]; rfl, HK0.out.trans Vq.h⟩
    | true =>
      repeat (go_big_quiet_step (fail))
      go_big_quiet_want
      go_big_quiet_op
      go_big_quiet_call (exact kq H121.out)
      repeat (go_big_quiet_step (fail))
      go_big_quiet_want
      go_big_quiet_op
      go_big_quiet_call (exact kq HW3.out)
      repeat (go_big_quiet_step (fail))
      cases b3 with
      | false =>
        repeat (go_big_quiet_step (fail))
        refine wpQuiet_nil ?_
        intro _ hw'
        obtain ⟨Vq, rfl⟩ := hw'
        go_wp2_with fail
        go_ret
        exact ⟨by rw [HR.out]; rfl, HK0.out.trans Vq.h⟩
      | true =>
        repeat (go_big_quiet_step (fail))
        go_big_quiet_want
        go_big_quiet_op
        go_big_quiet_call (exact kq H110.out)
        repeat (go_big_quiet_step (fail))
        go_big_quiet_want
        go_big_quiet_op
        go_big_quiet_call (exact kq HW4.out)
        repeat (go_big_quiet_step (fail))
        cases b4 with
        | false =>
          repeat (go_big_quiet_step (fail))
          refine wpQuiet_nil ?_
          intro _ hw'
          obtain ⟨Vq, rfl⟩ := hw'
          go_wp2_with fail
          go_ret
          exact ⟨by rw [HR.out]; rfl, HK0.out.trans Vq.h⟩
        | true =>
          repeat (go_big_quiet_step (fail))
          go_big_quiet_want
          go_big_quiet_op
          go_big_quiet_call (exact kq H97.out)
          repeat (go_big_quiet_step (fail))
          cases ha with
          | false =>
            repeat (go_big_quiet_step (fail))
            go_big_quiet_want
            go_big_quiet_op
            go_big_quiet_call (exact kq H97.out)
            repeat (go_big_quiet_step (fail))
            cases ez with
            | false =>
              repeat (go_big_quiet_step (fail))
              refine wpQuiet_nil ?_
              intro _ hw'
              obtain ⟨Vq, rfl⟩ := hw'
              go_wp2_with fail
              go_ret
              exact ⟨by rw [HR.out]; rfl, HK0.out.trans Vq.h⟩
            | true =>
              repeat (go_big_quiet_step (fail))
              go_big_quiet_want
              go_big_quiet_op
              go_big_quiet_call (exact kq H107.out)
              repeat (go_big_quiet_step (fail))
              cases hk with
              | false =>
                repeat (go_big_quiet_step (fail))
                cases kz with
                | false =>
                  repeat (go_big_quiet_step (fail))
                  refine wpQuiet_nil ?_
                  intro _ hw'
                  obtain ⟨Vq, rfl⟩ := hw'
                  go_wp2_with fail
                  go_ret
                  exact ⟨by rw [HR.out]; rfl, HK0.out.trans Vq.h⟩
                | true =>
                  repeat (go_big_quiet_step (fail))
                  go_big_quiet_want
                  go_big_quiet_op
                  go_big_quiet_call (exact kq H100.out)
                  repeat (go_big_quiet_step (fail))
                  cases hd with
                  | false =>
                    repeat (go_big_quiet_step (fail))
                    cases dz with
                    | false =>
                      repeat (go_big_quiet_step (fail))
                      refine wpQuiet_nil ?_
                      intro _ hw'
                      obtain ⟨Vq, rfl⟩ := hw'
                      go_wp2_with fail
                      go_ret
                      exact ⟨by rw [HR.out]; rfl, HK0.out.trans Vq.h⟩
                    | true =>
                      repeat (go_big_quiet_step (fail))
                      refine wpQuiet_nil ?_
                      intro _ hw'
                      obtain ⟨Vq, rfl⟩ := hw'
                      go_wp2_with fail
                      go_ret
                      exact ⟨by rw [HR.out]; rfl, HK0.out.trans Vq.h⟩
                  | true =>
                    repeat (go_big_quiet_step (fail))
                    cases dl with
                    | false =>
                      repeat (go_big_quiet_step (fail))
                      cases dz with
                      | false =>
                        repeat (go_big_quiet_step (fail))
                        refine wpQuiet_nil ?_
                        intro _ hw'
                        obtain ⟨Vq, rfl⟩ := hw'
                        go_wp2_with fail
                        go_ret
                        exact ⟨by rw [HR.out]; rfl, HK0.out.trans Vq.h⟩
                      | true =>
                        repeat (go_big_quiet_step (fail))
                        refine wpQuiet_nil ?_
                        intro _ hw'
                        obtain ⟨Vq, rfl⟩ := hw'
                        go_wp2_with fail
                        go_ret
                        exact ⟨by rw [HR.out]; rfl, HK0.out.trans Vq.h⟩
                    | true =>
                      repeat (go_big_quiet_step (fail))
                      refine wpQuiet_nil ?_
                      intro _ hw'
                      obtain ⟨Vq, rfl⟩ := hw'
                      go_wp2_with fail
                      go_ret
                      exact ⟨by rw [HR.out]; rfl, HK0.out.trans Vq.h⟩
              | true =>
                repeat (go_big_quiet_step (fail))
                cases kl with
                | false =>
                  repeat (go_big_quiet_step (fail))
                  cases kz with
                  | false =>
                    repeat (go_big_quiet_step (fail))
                    refine wpQuiet_nil ?_
                    intro _ hw'
                    obtain ⟨Vq, rfl⟩ := hw'
                    go_wp2_with fail
                    go_ret
                    exact ⟨by rw [HR.out]; rfl, HK0.out.trans Vq.h⟩
                  | true =>
                    repeat (go_big_quiet_step (fail))
                    go_big_quiet_want
                    go_big_quiet_op
                    go_big_quiet_call (exact kq H100.out)
                    repeat (go_big_quiet_step (fail))
                    cases hd with
                    | false =>
                      repeat (go_big_quiet_step (fail))
                      cases dz with
                      | false =>
                        repeat (go_big_quiet_step (fail))
                        refine wpQuiet_nil ?_
                        intro _ hw'
                        obtain ⟨Vq, rfl⟩ := hw'
                        go_wp2_with fail
                        go_ret
                        exact ⟨by rw [HR.out]; rfl, HK0.out.trans Vq.h⟩
                      | true =>
                        repeat (go_big_quiet_step (fail))
                        refine wpQuiet_nil ?_
                        intro _ hw'
                        obtain ⟨Vq, rfl⟩ := hw'
                        go_wp2_with fail
                        go_ret
                        exact ⟨by rw [HR.out]; rfl, HK0.out.trans Vq.h⟩
                    | true =>
                      repeat (go_big_quiet_step (fail))
                      cases dl with
                      | false =>
                        repeat (go_big_quiet_step (fail))
                        cases dz with
                        | false =>
                          repeat (go_big_quiet_step (fail))
                          refine wpQuiet_nil ?_
                          intro _ hw'
                          obtain ⟨Vq, rfl⟩ := hw'
                          go_wp2_with fail
                          go_ret
                          exact ⟨by rw [HR.out]; rfl, HK0.out.trans Vq.h⟩
                        | true =>
                          repeat (go_big_quiet_step (fail))
                          refine wpQuiet_nil ?_
                          intro _ hw'
                          obtain ⟨Vq, rfl⟩ := hw'
                          go_wp2_with fail
                          go_ret
                          exact ⟨by rw [HR.out]; rfl, HK0.out.trans Vq.h⟩
                      | true =>
                        repeat (go_big_quiet_step (fail))
                        refine wpQuiet_nil ?_
                        intro _ hw'
                        obtain ⟨Vq, rfl⟩ := hw'
                        go_wp2_with fail
                        go_ret
                        exact ⟨by rw [HR.out]; rfl, HK0.out.trans Vq.h⟩
                | true =>
                  repeat (go_big_quiet_step (fail))
                  go_big_quiet_want
                  go_big_quiet_op
                  go_big_quiet_call (exact kq H100.out)
                  repeat (go_big_quiet_step (fail))
                  cases hd with
                  | false =>
                    repeat (go_big_quiet_step (fail))
                    cases dz with
                    | false =>
                      repeat (go_big_quiet_step (fail))
                      refine wpQuiet_nil ?_
                      intro _ hw'
                      obtain ⟨Vq, rfl⟩ := hw'
                      go_wp2_with fail
                      go_ret
                      exact ⟨by rw [HR.out]; rfl, HK0.out.trans Vq.h⟩
                    | true =>
                      repeat (go_big_quiet_step (fail))
                      refine wpQuiet_nil ?_
                      intro _ hw'
                      obtain ⟨Vq, rfl⟩ := hw'
                      go_wp2_with fail
                      go_ret
                      exact ⟨by rw [HR.out]; rfl, HK0.out.trans Vq.h⟩
                  | true =>
                    repeat (go_big_quiet_step (fail))
                    cases dl with
                    | false =>
                      repeat (go_big_quiet_step (fail))
                      cases dz with
                      | false =>
                        repeat (go_big_quiet_step (fail))
                        refine wpQuiet_nil ?_
                        intro _ hw'
                        obtain ⟨Vq, rfl⟩ := hw'
                        go_wp2_with fail
                        go_ret
                        exact ⟨by rw [HR.out]; rfl, HK0.out.trans Vq.h⟩
                      | true =>
                        repeat (go_big_quiet_step (fail))
                        refine wpQuiet_nil ?_
                        intro _ hw'
                        obtain ⟨Vq, rfl⟩ := hw'
                        go_wp2_with fail
                        go_ret
                        exact ⟨by rw [HR.out]; rfl, HK0.out.trans Vq.h⟩
                    | true =>
                      repeat (go_big_quiet_step (fail))
                      refine wpQuiet_nil ?_
                      intro _ hw'
                      obtain ⟨Vq, rfl⟩ := hw'
                      go_wp2_with fail
                      go_ret
                      exact ⟨by rw [HR.out]; rfl, HK0.out.trans Vq.h⟩
          | true =>
            repeat (go_big_quiet_step (fail))
            go_big_quiet_want
            go_big_quiet_op
            go_big_quiet_call (exact kq HN.out)
            repeat (go_big_quiet_step (fail))
            cases nok with
            | false =>
              repeat (go_big_quiet_step (fail))
              go_big_quiet_want
              go_big_quiet_op
              go_big_quiet_call (exact kq H97.out)
              repeat (go_big_quiet_step (fail))
              refine wpQuiet_nil ?_
              intro _ hw'
              obtain ⟨Vq, rfl⟩ := hw'
              go_wp2_with fail
              go_ret
              exact ⟨by rw [HR.out]; rfl, HK0.out.trans Vq.h⟩
            | true =>
              repeat (go_big_quiet_step (fail))
              go_big_quiet_want
              go_big_quiet_op
              go_big_quiet_call (exact kq H107.out)
              repeat (go_big_quiet_step (fail))
              cases hk with
              | false =>
                repeat (go_big_quiet_step (fail))
                cases kz with
                | false =>
                  repeat (go_big_quiet_step (fail))
                  refine wpQuiet_nil ?_
                  intro _ hw'
                  obtain ⟨Vq, rfl⟩ := hw'
                  go_wp2_with fail
                  go_ret
                  exact ⟨by rw [HR.out]; rfl, HK0.out.trans Vq.h⟩
                | true =>
                  repeat (go_big_quiet_step (fail))
                  go_big_quiet_want
                  go_big_quiet_op
                  go_big_quiet_call (exact kq H100.out)
                  repeat (go_big_quiet_step (fail))
                  cases hd with
                  | false =>
                    repeat (go_big_quiet_step (fail))
                    cases dz with
                    | false =>
                      repeat (go_big_quiet_step (fail))
                      refine wpQuiet_nil ?_
                      intro _ hw'
                      obtain ⟨Vq, rfl⟩ := hw'
                      go_wp2_with fail
                      go_ret
                      exact ⟨by rw [HR.out]; rfl, HK0.out.trans Vq.h⟩
                    | true =>
                      repeat (go_big_quiet_step (fail))
                      refine wpQuiet_nil ?_
                      intro _ hw'
                      obtain ⟨Vq, rfl⟩ := hw'
                      go_wp2_with fail
                      go_ret
                      exact ⟨by rw [HR.out]; rfl, HK0.out.trans Vq.h⟩
                  | true =>
                    repeat (go_big_quiet_step (fail))
                    cases dl with
                    | false =>
                      repeat (go_big_quiet_step (fail))
                      cases dz with
                      | false =>
                        repeat (go_big_quiet_step (fail))
                        refine wpQuiet_nil ?_
                        intro _ hw'
                        obtain ⟨Vq, rfl⟩ := hw'
                        go_wp2_with fail
                        go_ret
                        exact ⟨by rw [HR.out]; rfl, HK0.out.trans Vq.h⟩
                      | true =>
                        repeat (go_big_quiet_step (fail))
                        refine wpQuiet_nil ?_
                        intro _ hw'
                        obtain ⟨Vq, rfl⟩ := hw'
                        go_wp2_with fail
                        go_ret
                        exact ⟨by rw [HR.out]; rfl, HK0.out.trans Vq.h⟩
                    | true =>
                      repeat (go_big_quiet_step (fail))
                      refine wpQuiet_nil ?_
                      intro _ hw'
                      obtain ⟨Vq, rfl⟩ := hw'
                      go_wp2_with fail
                      go_ret
                      exact ⟨by rw [HR.out]; rfl, HK0.out.trans Vq.h⟩
              | true =>
                repeat (go_big_quiet_step (fail))
                cases kl with
                | false =>
                  repeat (go_big_quiet_step (fail))
                  cases kz with
                  | false =>
                    repeat (go_big_quiet_step (fail))
                    refine wpQuiet_nil ?_
                    intro _ hw'
                    obtain ⟨Vq, rfl⟩ := hw'
                    go_wp2_with fail
                    go_ret
                    exact ⟨by rw [HR.out]; rfl, HK0.out.trans Vq.h⟩
                  | true =>
                    repeat (go_big_quiet_step (fail))
                    go_big_quiet_want
                    go_big_quiet_op
                    go_big_quiet_call (exact kq H100.out)
                    repeat (go_big_quiet_step (fail))
                    cases hd with
                    | false =>
                      repeat (go_big_quiet_step (fail))
                      cases dz with
                      | false =>
                        repeat (go_big_quiet_step (fail))
                        refine wpQuiet_nil ?_
                        intro _ hw'
                        obtain ⟨Vq, rfl⟩ := hw'
                        go_wp2_with fail
                        go_ret
                        exact ⟨by rw [HR.out]; rfl, HK0.out.trans Vq.h⟩
                      | true =>
                        repeat (go_big_quiet_step (fail))
                        refine wpQuiet_nil ?_
                        intro _ hw'
                        obtain ⟨Vq, rfl⟩ := hw'
                        go_wp2_with fail
                        go_ret
                        exact ⟨by rw [HR.out]; rfl, HK0.out.trans Vq.h⟩
                    | true =>
                      repeat (go_big_quiet_step (fail))
                      cases dl with
                      | false =>
                        repeat (go_big_quiet_step (fail))
                        cases dz with
                        | false =>
                          repeat (go_big_quiet_step (fail))
                          refine wpQuiet_nil ?_
                          intro _ hw'
                          obtain ⟨Vq, rfl⟩ := hw'
                          go_wp2_with fail
                          go_ret
                          exact ⟨by rw [HR.out]; rfl, HK0.out.trans Vq.h⟩
                        | true =>
                          repeat (go_big_quiet_step (fail))
                          refine wpQuiet_nil ?_
                          intro _ hw'
                          obtain ⟨Vq, rfl⟩ := hw'
                          go_wp2_with fail
                          go_ret
                          exact ⟨by rw [HR.out]; rfl, HK0.out.trans Vq.h⟩
                      | true =>
                        repeat (go_big_quiet_step (fail))
                        refine wpQuiet_nil ?_
                        intro _ hw'
                        obtain ⟨Vq, rfl⟩ := hw'
                        go_wp2_with fail
                        go_ret
                        exact ⟨by rw [HR.out]; rfl, HK0.out.trans Vq.h⟩
                | true =>
                  repeat (go_big_quiet_step (fail))
                  go_big_quiet_want
                  go_big_quiet_op
                  go_big_quiet_call (exact kq H100.out)
                  repeat (go_big_quiet_step (fail))
                  cases hd with
                  | false =>
                    repeat (go_big_quiet_step (fail))
                    cases dz with
                    | false =>
                      repeat (go_big_quiet_step (fail))
                      refine wpQuiet_nil ?_
                      intro _ hw'
                      obtain ⟨Vq, rfl⟩ := hw'
                      go_wp2_with fail
                      go_ret
                      exact ⟨by rw [HR.out]; rfl, HK0.out.trans Vq.h⟩
                    | true =>
                      repeat (go_big_quiet_step (fail))
                      refine wpQuiet_nil ?_
                      intro _ hw'
                      obtain ⟨Vq, rfl⟩ := hw'
                      go_wp2_with fail
                      go_ret
                      exact ⟨by rw [HR.out]; rfl, HK0.out.trans Vq.h⟩
                  | true =>
                    repeat (go_big_quiet_step (fail))
                    cases dl with
                    | false =>
                      repeat (go_big_quiet_step (fail))
                      cases dz with
                      | false =>
                        repeat (go_big_quiet_step (fail))
                        refine wpQuiet_nil ?_
                        intro _ hw'
                        obtain ⟨Vq, rfl⟩ := hw'
                        go_wp2_with fail
                        go_ret
                        exact ⟨by rw [HR.out]; rfl, HK0.out.trans Vq.h⟩
                      | true =>
                        repeat (go_big_quiet_step (fail))
                        refine wpQuiet_nil ?_
                        intro _ hw'
                        obtain ⟨Vq, rfl⟩ := hw'
                        go_wp2_with fail
                        go_ret
                        exact ⟨by rw [HR.out]; rfl, HK0.out.trans Vq.h⟩
                    | true =>
                      repeat (go_big_quiet_step (fail))
                      refine wpQuiet_nil ?_
                      intro _ hw'
                      obtain ⟨Vq, rfl⟩ := hw'
                      go_wp2_with fail
                      go_ret
                      exact ⟨by rw [HR.out]; rfl, HK0.out.trans Vq.h⟩
theorem rv_good (e : EV) (hs : e.nm.size ≤ 281474976710656) (w : World) : Calls Tryd.prog 13 #[evV e] w fun E w' => E = .returned (.bool (goodD e)) ∧ Kept w w' := by
  by_cases h1 : e.k < 1
  · exact rv_good_lo e hs h1 w
  · by_cases h2 : 9 < e.k
    · exact rv_good_hi e hs (by omega) h2 w
    · exact rv_good_in e hs (by omega) (by omega) w
end Go.Proofs.YteaepgbakcifkaaDoor
