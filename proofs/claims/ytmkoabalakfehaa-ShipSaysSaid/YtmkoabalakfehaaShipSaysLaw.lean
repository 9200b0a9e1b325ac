/- ShipSays, whatever it is given. -/
import Derived.Test.YtmkoabalakfehaaShipSaysWalk
set_option linter.unusedVariables false
set_option linter.unusedSimpArgs false
namespace Go.Proofs.Ytmkoabalakfehaa
open Go.RowKit
abbrev TyShip : Ty := .st (.cons (.int .i64) (.cons (.int .i64) (.cons (.int .i64) (.cons (.int .i64) .nil))))
theorem repV_ship {w : World} {v : Value} {x : TyShip.den} (h : RepV w TyShip v x) : ∃ a b c d : Int, v = .agg #[.int .i64 a, .int .i64 b, .int .i64 c, .int .i64 d] ∧ -9223372036854775808 ≤ c := by
  obtain ⟨hr, cs, rfl⟩ := h
  simp only [Value.cells] at hr
  obtain ⟨_, r1, e1, _, ⟨rfl, _⟩, _, r2, rfl, _, ⟨rfl, _⟩, _, r3, rfl, _, ⟨rfl, hw⟩, _, r4, rfl, _, ⟨rfl, _⟩, g5⟩ := hr
  refine ⟨x.1, x.2.1, x.2.2.1, x.2.2.2.1, ?_, ?_⟩
  · rw [show r4 = [] from g5] at e1
    rw [show cs = #[.int .i64 x.1, .int .i64 x.2.1, .int .i64 x.2.2.1, .int .i64 x.2.2.2.1] from Array.ext' (by simpa using e1)]
  · have := wf_bd_i64 hw
    exact this.1
theorem repV_msg {w : World} {v : Value} {x : TyMsg.den} (h : RepV w TyMsg v x) : ∃ (m : MV) (R : List RV) (L : List (Int × List Int)) (T : List Int), v = .agg m.cs ∧ SlQ w m.la m.ln m.lc R ∧ BytesAt w R L ∧ (∀ l ∈ L, 0 ≤ l.1 ∧ l.1 ≤ 18446744073709551615) ∧ Sl .u64 w m.ta m.tn m.tc T ∧ IsW T := by
  obtain ⟨hr, cs, rfl⟩ := h
  simp only [Value.cells] at hr
  obtain ⟨x0, x1, x2, x3, x4, x5, x6, ⟨T, te, _⟩, _⟩ := x
  obtain ⟨_, r1, e1, _, ⟨rfl, _⟩, _, r2, rfl, _, ⟨rfl, _⟩, _, r3, rfl, _, ⟨rfl, _⟩, _, r4, rfl, _, ⟨rfl, _⟩, _, r5, rfl, _, ⟨rfl, _⟩, _, r6, rfl, _, ⟨rfl, _⟩, _, r7, rfl, _, g7, _, r8, rfl, _, g8, g9⟩ := hr
  obtain ⟨la, ln, lc, rfl, hs⟩ := rep_sl g7
  obtain ⟨ta, tn, tc, rfl, ht, wt, _⟩ := rep_tab g8
  obtain ⟨R, L, h1, h2, h3⟩ := slT_recQ hs
  refine ⟨⟨x0, x1, x2, x3, x4, x5, la, ln, lc, ta, tn, tc, te⟩, R, L, T, ?_, h1, h2, h3, ht, wt⟩
  rw [show r8 = [] from g9] at e1
  congr 1
  exact Array.ext' (by simpa [MV.cs] using e1)
theorem shipSays_law (v0 v1 v2 v3 v4 v5 : Value) (x0 : TyShip.den) (x1 : TyTab.den) (x2 : List TyRec.den) (x3 : TyMsg.den) (x4 : Int) (x5 : Bool) (w : World) (w0 : RepV w TyShip v0 x0) (w1 : RepV w TyTab v1 x1) (w2 : RepV w (.sl TyRec) v2 x2) (w3 : RepV w TyMsg v3 x3) (w4 : RepV w (.int .i64) v4 x4) (w5 : RepV w .bool v5 x5) :
    Calls Try.prog 5 #[v0, v1, v2, v3, v4, v5] w fun e w' => e = .returned (.bool true) ∧ Below w.heap.size w w' := by
  obtain ⟨who, ep, nx, ak, rfl, hnx⟩ := repV_ship w0
  obtain ⟨ta, tn, tc, T, E, rfl, hT, wT, _⟩ := repV_tab w1
  obtain ⟨la, ln, lc, rfl, hs⟩ := repV_sl w2
  obtain ⟨R, L, hQ, hB, hLw⟩ := slT_recQ hs
  obtain ⟨m, MR, ML, T2, rfl, hQM, hBM, hMw, hT2, wT2⟩ := repV_msg w3
  obtain ⟨rfl, _⟩ := repV_int w4
  obtain rfl := repV_bool w5
  exact shSays_walk who ep nx ak E x4 x5 ta tn tc T la ln lc R L m.k m.f m.t m.e m.o m.p m.te m.la m.ln m.lc m.ta m.tn m.tc MR ML T2 w hT wT hQ hB hLw hQM hBM hMw hT2 wT2 hnx
end Go.Proofs.Ytmkoabalakfehaa
