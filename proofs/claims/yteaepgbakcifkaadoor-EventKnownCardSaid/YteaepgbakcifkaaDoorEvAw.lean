/- The laws' own awake (layer 15); evOf. -/
import Derived.Test.YteaepgbakcifkaaDoorEv9
import Derived.Test.YteaepgbakcifkaaDoorEv7
import Derived.Test.YteaepgbakcifkaaDoorEvM6
import Derived.Test.YteaepgbakcifkaaDoorEvD3
set_option linter.unusedVariables false
set_option linter.unusedSimpArgs false
namespace Go.Proofs.YteaepgbakcifkaaDoor
open Go.RowKit
abbrev tick : EV := ⟨6, 0, 0, 0, 7, ⟨#[]⟩, ⟨#[]⟩, ⟨#[]⟩⟩
theorem tick_good : goodE tick = true := by decide +kernel
theorem tick_show : showE tick = ⟨#[116, 105, 99, 107, 32, 55]⟩ := by
  unfold showE
  rw [if_pos tick_good]
  have h : Lib.itoa 7 = [55] := by
    rw [show (7 : Int) = ((7 : Nat) : Int) from rfl, Lib.itoa_nonneg, Lib.decDigits, dif_pos (by omega)]
    decide
  have hs : showL tick (flds tick.k) = [(⟨#[116, 105, 99, 107]⟩ : ByteArray), ⟨#[55]⟩] := by
    show [(⟨(wordK 6).toArray⟩ : ByteArray), ⟨(Lib.itoa 7).toArray⟩] = _
    rw [h, show wordK 6 = [116, 105, 99, 107] by decide]
  rw [hs]
  rfl
theorem ev_get_enc (e : EV) (h : goodE e = true) (a : Option Addr) (c : Nat) (w : World) (hS : Sl .u8 w a (encEv e).length c (encEv e)) : Calls Tryd.prog 11 #[.slice a (encEv e).length c] w fun E w' => E = .returned (.tuple #[evV e, .int .i64 0]) ∧ Kept w w' := by
  obtain ⟨h1, h2, h3⟩ := encEv_ok e h
  have := ev_get a _ c (encEv e) w hS h1 (by omega)
  rw [getE_enc h] at this
  exact this
set_option maxRecDepth 100000 in
set_option maxHeartbeats 4000000 in
theorem ev_awake {w : World} (hv : EvV w) : Calls Tryd.prog 7 #[] w fun e w' => e = .returned (.bool true) ∧ Kept w w' := by
  have HV := Lib.hid hv
  go_enter Tryd.func7, Tryd.ntmps7
  go_wp2_with fail
  refine (ev_put_yes tick tick_good _).mono ?_
  rintro E V1 ⟨a, c, rfl, hS, hK1⟩
  have HS := Lib.hid (ev_get_enc tick tick_good a c V1 hS)
  have HQ1 := Lib.hid (hK1.only.heap (heap_alloc_new w (evO tick)) (by simp))
  have HK1 := Lib.hid (Kept.trans (show Kept w (w.alloc (evO tick)) by (unfold Kept; repeat (first | exact Below.refl _ _ | assumption | (refine Below.alloc ?_ (by simp) _) | (refine Below.setCell ?_ (by simp) _) | (refine Below.drew ?_) | (refine _root_.Go.below_drewN ?_ _)))) hK1)
  clear hK1 hS
  generalize (encEv tick).length = n at *
  obtain ⟨a0, a1, a2, a3, a4, a5, a6, a7⟩ := ev_cells HQ1.out
  dsimp only [tick] at a0 a1 a2 a3 a4 a5 a6 a7
  go_wp2_with fail
  refine HS.out.mono ?_
  rintro E V2 ⟨rfl, hK2⟩
  have HQ2 := Lib.hid (heap_keep (hK2.only.heap HQ1.out (by simp)) (evO tick))
  have HX2 := Lib.hid (heap_alloc_new V2 (evO tick))
  have HK2 := Lib.hid ((HK1.out.trans hK2).trans (show Kept V2 (V2.alloc (evO tick)) by (unfold Kept; repeat (first | exact Below.refl _ _ | assumption | (refine Below.alloc ?_ (by simp) _) | (refine Below.setCell ?_ (by simp) _) | (refine Below.drew ?_) | (refine _root_.Go.below_drewN ?_ _)))))
  clear hK2 HQ1 HK1 a0 a1 a2 a3 a4 a5 a6 a7 HS
  obtain ⟨a0, a1, a2, a3, a4, a5, a6, a7⟩ := ev_cells HQ2.out
  dsimp only [tick] at a0 a1 a2 a3 a4 a5 a6 a7
  have hsh := fun (W : World) (h : EvV W) => ev_show tick h
  rw [tick_show] at hsh
  have HSh := Lib.hid hsh
  clear hsh
  go_wp2_with fail
  refine (HSh.out _ (HV.out.kept HK2.out)).mono ?_
  rintro E V3 ⟨rfl, hK3⟩
  have HQ3 := Lib.hid (hK3.only.heap HQ2.out (by simp))
  have HX3 := Lib.hid (hK3.only.heap HX2.out (by simp))
  have HK3 := Lib.hid (HK2.out.trans hK3)
  clear hK3 HQ2 HX2 HK2 a0 a1 a2 a3 a4 a5 a6 a7 HSh
  obtain ⟨a0, a1, a2, a3, a4, a5, a6, a7⟩ := ev_cells HQ3.out
  dsimp only [tick] at a0 a1 a2 a3 a4 a5 a6 a7
  have HGd := Lib.hid (fun W => ev_good tick W)
  rw [tick_good] at HGd
  go_wp2_with fail
  refine (HGd.out _).mono ?_
  rintro E V4 ⟨rfl, hK4⟩
  have HK4 := Lib.hid (HK3.out.trans hK4)
  obtain ⟨b0, b1, b2, b3, b4, b5, b6, b7⟩ := ev_cells (hK4.only.heap HX3.out (by simp))
  clear a0 a1 a2 a3 a4 a5 a6 a7
  obtain ⟨a0, a1, a2, a3, a4, a5, a6, a7⟩ := ev_cells (hK4.only.heap HQ3.out (by simp))
  dsimp only [tick] at a0 a1 a2 a3 a4 a5 a6 a7 b0 b1 b2 b3 b4 b5 b6 b7
  clear hK4 HQ3 HX3 HK3
  have HEQ : ∀ W, (binOp .eql 24 (.agg #[.int .i64 6, .int .i64 0, .int .i64 0, .int .i64 0, .int .i64 7, .string ⟨#[]⟩, .string ⟨#[]⟩, .string ⟨#[]⟩]) (.agg #[.int .i64 6, .int .i64 0, .int .i64 0, .int .i64 0, .int .i64 7, .string ⟨#[]⟩, .string ⟨#[]⟩, .string ⟨#[]⟩])).run Tryd.prog W = .ok (.bool true) W := fun W => by
    have := run_eqE tick tick W
    rw [decide_eq_true rfl] at this
    exact this
  go_wp2_with fail
  go_ret
  exact ⟨rfl, HK4.out⟩
theorem kept_alA (w : World) (o : Obj) : Kept w (w.alloc o) := by (unfold Kept; repeat (first | exact Below.refl _ _ | assumption | (refine Below.alloc ?_ (by simp) _) | (refine Below.setCell ?_ (by simp) _) | (refine Below.drew ?_) | (refine _root_.Go.below_drewN ?_ _)))
set_option maxRecDepth 100000 in
set_option maxHeartbeats 4000000 in
theorem ev_of (e : EV) (w : World) : Calls Tryd.prog 14 #[evV e] w fun E w' => E = .returned (evV e) ∧ Kept w w' := by
  go_enter Tryd.func14, Tryd.ntmps14
  go_wp2_with fail
  have hQ : ((w.alloc (.cells #[.int .i64 e.k, .int .i64 e.r, .int .i64 e.t, .int .i64 e.y, .int .i64 e.n, .string e.nm, .string e.ky, .string e.dt] 24 (0, 0))).alloc (.cells #[.int .i64 e.k, .int .i64 e.r, .int .i64 e.t, .int .i64 e.y, .int .i64 e.n, .string e.nm, .string e.ky, .string e.dt] 33 (0, 0))).heap[w.heap.size + 1]? = some (evOd e) := new_at _ (by simp)
  have hK : Kept w ((w.alloc (.cells #[.int .i64 e.k, .int .i64 e.r, .int .i64 e.t, .int .i64 e.y, .int .i64 e.n, .string e.nm, .string e.ky, .string e.dt] 24 (0, 0))).alloc (.cells #[.int .i64 e.k, .int .i64 e.r, .int .i64 e.t, .int .i64 e.y, .int .i64 e.n, .string e.nm, .string e.ky, .string e.dt] 33 (0, 0))) := (kept_alA _ _).trans (kept_alA _ _)
  generalize (w.alloc (.cells #[.int .i64 e.k, .int .i64 e.r, .int .i64 e.t, .int .i64 e.y, .int .i64 e.n, .string e.nm, .string e.ky, .string e.dt] 24 (0, 0))).alloc (.cells #[.int .i64 e.k, .int .i64 e.r, .int .i64 e.t, .int .i64 e.y, .int .i64 e.n, .string e.nm, .string e.ky, .string e.dt] 33 (0, 0)) = Z at *
  obtain ⟨d0, d1, d2, d3, d4, d5, d6, d7⟩ := evd_cells hQ
  exact bodyPost_ret (v := evV e) (by simp [results, Tryd.results14, go_sem, d0, d1, d2, d3, d4, d5, d6, d7]) rfl ⟨rfl, hK⟩
end Go.Proofs.YteaepgbakcifkaaDoor
