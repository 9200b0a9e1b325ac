/- ShipRises, whatever it is given. -/
import Derived.Test.YtmkoabalakfehaaShipRisesWalk
import Derived.Test.YtmkoabalakfehaaShipTy
set_option linter.unusedVariables false
set_option linter.unusedSimpArgs false
namespace Go.Proofs.Ytmkoabalakfehaa
open Go.RowKit
set_option maxRecDepth 100000 in
set_option maxHeartbeats 4000000 in
theorem shipRises_law (v0 v1 : Value) (x0 : TyTab.den) (x1 : List TyMsg.den) (w : World) (w0 : RepV w TyTab v0 x0) (w1 : RepV w (.sl TyMsg) v1 x1) :
    Calls Try.prog 3 #[v0, v1] w fun e w' => e = .returned (.bool true) ∧ Below w.heap.size w w' := by
  obtain ⟨a, n, c, T, E, rfl, hT, wT, _⟩ := repV_tab w0
  obtain ⟨bb, m, d, rfl, hs⟩ := repV_sl w1
  obtain ⟨l, hM⟩ := slT_msg hs
  clear w0 w1 hs
  by_cases hq : n ≤ 40 ∧ m ≤ 30 ∧ GoodT T E ∧ E ≤ 17592186044415
  · obtain ⟨hn, hm, hg, hE⟩ := hq
    exact shRises_walk a n c T E bb m d l w hT wT hM hn hm hg hE hg.2.1
  · have HT := Lib.hid hT
    have KX := kept_al w (.cells #[.slice a n c, .int .i64 E] 24)
    have htb := two_cells (heap_alloc_new w (.cells #[.slice a n c, .int .i64 E] 24))
    have HCt : Hid (∀ V, Kept (w.alloc (.cells #[.slice a n c, .int .i64 E] 24)) V → V.cell? ⟨w.heap.size, 0, none⟩ = some (.slice a n c) ∧ V.cell? ⟨w.heap.size, 1, none⟩ = some (.int .i64 E)) := fun V kk => ⟨kk.cel htb.1, kk.cel htb.2⟩
    clear hT hM htb
    have hcs : 40 < (n : Int) ∨ ((n : Int) ≤ 40 ∧ 30 < (m : Int)) ∨ ((n : Int) ≤ 40 ∧ (m : Int) ≤ 30 ∧ ¬ GoodT T E) ∨ ((n : Int) ≤ 40 ∧ (m : Int) ≤ 30 ∧ GoodT T E ∧ 17592186044415 < E) := by
      by_cases h1 : n ≤ 40
      · by_cases h2 : m ≤ 30
        · by_cases h3 : GoodT T E
          · exact .inr (.inr (.inr ⟨by omega, by omega, h3, Int.not_le.1 fun h4 => hq ⟨h1, h2, h3, h4⟩⟩))
          · exact .inr (.inr (.inl ⟨by omega, by omega, h3⟩))
        · exact .inr (.inl ⟨by omega, by omega⟩)
      · exact .inl (by omega)
    clear hq
    go_enter Try.func3, Try.ntmps3
    go_wp2_with fail
    generalize hX : w.alloc (.cells #[.slice a n c, .int .i64 E] 24) = X at *
    refine (awake23 _).mono ?_
    rintro e w1 ⟨rfl, K1⟩
    obtain ⟨c0, c1⟩ := HCt.out _ K1
    rcases hcs with h1 | ⟨h1, h2⟩ | ⟨h1, h2, h3⟩ | ⟨h1, h2, h3, h4⟩
    · go_wp2
      go_ret
      exact ⟨rfl, KX.trans K1⟩
    · go_wp2
      go_ret
      exact ⟨rfl, KX.trans K1⟩
    · have HG := Lib.hid (ep_good a n c T E w1 ((KX.trans K1).sl HT.out) wT)
      rw [decide_eq_false h3] at HG
      go_wp2_with fail
      refine HG.out.mono ?_
      rintro e w2 ⟨rfl, K2⟩
      go_wp2
      go_ret
      exact ⟨rfl, (KX.trans K1).trans K2⟩
    · have HG := Lib.hid (ep_good a n c T E w1 ((KX.trans K1).sl HT.out) wT)
      rw [decide_eq_true h3] at HG
      go_wp2_with fail
      refine HG.out.mono ?_
      rintro e w2 ⟨rfl, K2⟩
      clear c0 c1
      obtain ⟨c0, c1⟩ := HCt.out _ (K1.trans K2)
      go_wp2
      go_ret
      exact ⟨rfl, (KX.trans K1).trans K2⟩
end Go.Proofs.Ytmkoabalakfehaa
