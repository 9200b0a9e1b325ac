/- ShipFits, whatever it is given. -/
import Derived.Test.YtmkoabalakfehaaShipFitsWalk
import Derived.Test.YtmkoabalakfehaaTy
set_option linter.unusedVariables false
set_option linter.unusedSimpArgs false
namespace Go.Proofs.Ytmkoabalakfehaa
open Go.RowKit
set_option maxRecDepth 100000 in
set_option maxHeartbeats 4000000 in
theorem shipFits_law (v0 v1 v2 : Value) (x0 : List Int) (x1 : Int) (x2 : List Int) (w : World) (w0 : RepV w (.sl (.int .u8)) v0 x0) (w1 : RepV w (.int .i64) v1 x1) (w2 : RepV w (.sl (.int .u8)) v2 x2) :
    Calls Try.prog 6 #[v0, v1, v2] w fun e w' => e = .returned (.bool true) ∧ Below w.heap.size w w' := by
  obtain ⟨a, n, c, rfl, hs⟩ := repV_sl w0
  obtain ⟨hz, hr⟩ := slT_int hs
  obtain ⟨rfl, _⟩ := repV_int w1
  obtain ⟨b, m, d, rfl, hs2⟩ := repV_sl w2
  clear w0 w1 w2 hs hs2
  by_cases hn : n ≤ 30
  · by_cases hm : m ≤ 30
    · exact shFits_walk a n c x0 x1 b m d w hz (isB_of_mem fun x hx => wf_bd_u8 (hr x hx)) hn hm
    · have h1 : (n : Int) ≤ 30 := by omega
      have h2 : 30 < (m : Int) := by omega
      clear hz hr
      go_enter Try.func6, Try.ntmps6
      go_wp2_with fail
      refine (awake23 _).mono ?_
      rintro e w1 ⟨rfl, K1⟩
      go_wp2
      go_ret
      exact ⟨rfl, K1⟩
  · have h1 : 30 < (n : Int) := by omega
    clear hz hr
    go_enter Try.func6, Try.ntmps6
    go_wp2_with fail
    refine (awake23 _).mono ?_
    rintro e w1 ⟨rfl, K1⟩
    go_wp2
    go_ret
    exact ⟨rfl, K1⟩
end Go.Proofs.Ytmkoabalakfehaa
