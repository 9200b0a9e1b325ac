/- SumSays: the law's walk. -/
import Derived.Test.YtciolohapanpfaaSumBoth
namespace Go.Proofs.Ytciolohapanpfaa
open Go.RowKit
set_option maxHeartbeats 1000000 in
theorem sumSays_walk (a : Option Addr) (n c : Nat) (zs : List Int) (s t m at' f to : Int) (w : World) (hS : Sl .u8 w a n c zs) (hB : IsB zs) (h0 : 0 ≤ s) (h1 : s ≤ 4294967295) (h2 : 0 ≤ t) (h3 : t ≤ 4294967295) (hm : m ≤ 9223372036854775807) (hf0 : 0 ≤ f) (hf1 : f ≤ 255) (ht0 : 0 ≤ to) (ht1 : to ≤ 255) :
    Calls Try.prog 6 #[.slice a n c, .int .u32 s, .int .u32 t, .int .i64 m, .int .i64 at', .int .u8 f, .int .u8 to] w fun e w' => e = .returned (.bool true) ∧ Below w.heap.size w w' := by
  have HB := Lib.hid hB
  have HS := Lib.hid hS
  have hnc := hS.2.1
  have hcm := hS.2.2.1
  clear hB hS
  unfold maxLen at hcm
  go_enter Try.func6, Try.ntmps6
  go_wp2_with fail
  refine (awake_any _).mono ?_
  rintro e w1 ⟨rfl, k1⟩
  have K1 : Kept w w1 := k1
  clear k1
  by_cases hn : 5000 < n
  · go_wp2_with fail
    go_ret
    exact ⟨rfl, K1⟩
  · go_wp2_with fail
    refine (sum_on s a n c zs _ h0 h1 (K1.sl HS.out) HB.out).mono ?_
    rintro e w' ⟨rfl, rfl⟩
    generalize hon : onR s zs = on at *
    have HO := Lib.hid hon
    clear hon
    go_wp2_with fail
    refine (ref_on s a n c zs _ h0 h1 (K1.sl HS.out) HB.out).mono ?_
    rintro e w2 ⟨rfl, d1⟩
    rw [HO.out]
    have K2 := K1.dr d1
    clear K1 d1
    go_wp2_with fail
    refine (sum_join s t m _ h0 h1 h2 h3 hm).mono ?_
    rintro e w' ⟨rfl, rfl⟩
    generalize hj : joinR s t m = jn at *
    have HJ := Lib.hid hj
    clear hj
    go_wp2_with fail
    refine (ref_join s t m _ h0 h1 h2 h3 hm).mono ?_
    rintro e w3 ⟨rfl, d1⟩
    rw [HJ.out]
    have K3 := K2.dr d1
    clear K2 d1
    go_wp2_with fail
    refine (sum_turn s m at' f to _ h0 h1 hm hf0 hf1 ht0 ht1).mono ?_
    rintro e w' ⟨rfl, rfl⟩
    generalize hj : turnR s m at' f to = tn at *
    have HT := Lib.hid hj
    clear hj
    go_wp2_with fail
    refine (ref_turn s m at' f to _ h0 h1 hm hf0 hf1 ht0 ht1).mono ?_
    rintro e w4 ⟨rfl, d1⟩
    rw [HT.out]
    have K4 := K3.dr d1
    clear K3 d1
    go_wp2_with fail
    refine (sum_of a n c zs _ (K4.sl HS.out) HB.out).mono ?_
    rintro e w' ⟨rfl, rfl⟩
    generalize hj : sumOf zs = so at *
    have HU := Lib.hid hj
    clear hj
    go_wp2_with fail
    refine (ref_sum a n c zs _ (K4.sl HS.out) HB.out).mono ?_
    rintro e w5 ⟨rfl, d1⟩
    rw [HU.out]
    have K5 := K4.dr d1
    clear K4 d1
    go_wp2_with fail
    refine (sum_good s _ h0 h1).mono ?_
    rintro e w' ⟨rfl, rfl⟩
    generalize hj : goodB s = gs at *
    have HG := Lib.hid hj
    clear hj
    go_wp2_with fail
    refine (ref_good s _ h0 h1).mono ?_
    rintro e w' ⟨rfl, rfl⟩
    rw [HG.out]
    go_wp2
    go_ret
    exact ⟨rfl, K5⟩
end Go.Proofs.Ytciolohapanpfaa
