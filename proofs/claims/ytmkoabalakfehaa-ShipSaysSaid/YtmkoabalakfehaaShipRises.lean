/- heavy; messages in a slice. -/
import Derived.Test.YtmkoabalakfehaaShipAwake
import Derived.Test.YtmkoabalakfehaaEpBothM
set_option linter.unusedVariables false
set_option linter.unusedSimpArgs false
namespace Go.Proofs.Ytmkoabalakfehaa
open Go.RowKit
set_option maxRecDepth 100000 in
set_option maxHeartbeats 2000000 in
theorem sh_heavy (m : MV) (L : List (Int × Nat)) (w : World) (hL : SlM w m.la m.ln m.lc L) (htn : m.tn ≤ m.tc) (htc : m.tc ≤ maxLen) :
    Calls Try.prog 10 #[.agg m.cs] w fun e w' => (e = .returned (.bool true) ∨ (e = .returned (.bool false) ∧ m.ln ≤ 12)) ∧ Kept w w' := by
  obtain ⟨k, f, t, e, o, p, la, ln, lc, ta, tn, tc, te⟩ := m
  unfold MV.cs
  dsimp only at *
  unfold maxLen at htc
  have K := kept_al w (.cells #[.int .i64 k, .int .i64 f, .int .i64 t, .int .i64 e, .int .i64 o, .int .i64 p, .slice la ln lc, .slice ta tn tc, .int .i64 te] 36)
  have hh := heap_alloc_new w (.cells #[.int .i64 k, .int .i64 f, .int .i64 t, .int .i64 e, .int .i64 o, .int .i64 p, .slice la ln lc, .slice ta tn tc, .int .i64 te] 36)
  have HL := Lib.hid (hL.kept K)
  have hl := hL.1
  have hnc := hL.2.1
  have hcm := hL.2.2.1
  unfold maxLen at hcm
  have d6 := at_cell hh 6 _ rfl
  have d7 := at_cell hh 7 _ rfl
  clear hh hL
  generalize hX : w.alloc (.cells #[.int .i64 k, .int .i64 f, .int .i64 t, .int .i64 e, .int .i64 o, .int .i64 p, .slice la ln lc, .slice ta tn tc, .int .i64 te] 36) = X at *
  by_cases h1 : 12 < (ln : Int)
  · go_enter Try.func10, Try.ntmps10
    go_wp2
    go_ret
    exact ⟨.inl rfl, K⟩
  · by_cases h2 : 70 < (tn : Int)
    · go_enter Try.func10, Try.ntmps10
      go_wp2
      go_ret
      exact ⟨.inl rfl, K⟩
    · go_enter Try.func10, Try.ntmps10
      go_wp2_with fail
      go_loopw [3] (fun i wr => ∃ (j : Nat), i = .int .i64 j ∧ j ≤ ln ∧ X = wr) (fun i _ => ln - (intOf i).toNat)
      case atStart => exact ⟨0, rfl, by omega, (by first | trivial | rfl)⟩
      case round =>
        obtain ⟨j, rfl, hj, rfl⟩ := hrel
        by_cases hlt : j < ln
        · have hlt' : (j : Int) < ln := by omega
          obtain ⟨⟨s, len⟩, hsl⟩ : ∃ l, L[j]? = some l := ⟨_, List.getElem?_eq_getElem (by omega)⟩
          obtain ⟨hb, b, ob, x, d, rfl, q0, q1⟩ := HL.out.2.2.2 j _ hsl
          dsimp only at q0 q1
          by_cases h3 : 1100 < (len : Int)
          · go_wp2
            go_ret
            exact ⟨.inl rfl, K⟩
          · go_wp2
            go_roundw
            case rel => exact ⟨j + 1, by go_num, by omega, (by first | trivial | rfl)⟩
            case measure => simp [intOf]; omega
        · have hge : (ln : Int) ≤ j := by omega
          go_wp2
          go_ret
          exact ⟨.inr ⟨rfl, by omega⟩, K⟩
/-- a slice of messages -/
def SlMs (w : World) (a : Option Addr) (n c : Nat) (l : List (MV × List (Int × Nat) × List Int)) : Prop :=
  l.length = n ∧ n ≤ c ∧ c ≤ maxLen ∧ ∀ (i : Nat) (x : MV × List (Int × Nat) × List Int), l[i]? = some x → SlM w x.1.la x.1.ln x.1.lc x.2.1 ∧ Sl .u64 w x.1.ta x.1.tn x.1.tc x.2.2 ∧ IsW x.2.2 ∧ ∃ b o, a = some ⟨b, o, none⟩ ∧ ∀ j v, x.1.cs[j]? = some v → w.cell? ⟨b, o + i * 9 + j, none⟩ = some v
theorem SlMs.kept {w w' : World} {a : Option Addr} {k c : Nat} {l : List (MV × List (Int × Nat) × List Int)} (h : Kept w w') (hs : SlMs w a k c l) : SlMs w' a k c l :=
  ⟨hs.1, hs.2.1, hs.2.2.1, fun i x hi => by
    obtain ⟨h1, h2, h3, b, o, h4, h5⟩ := hs.2.2.2 i x hi
    exact ⟨h1.kept h, h.sl h2, h3, b, o, h4, fun j v hv => h.cel (h5 j v hv)⟩⟩
/-- what Take answers keeps the bounds -/
theorem takeS_bd (nx ak E : Int) (T : List Int) (m : MV) (L : List (Int × Nat)) (T2 : List Int) (hg : GoodT T E) (n0 : 0 ≤ nx) (n1 : nx ≤ E) (k1 : ak ≤ E) :
    (takeS ⟨0, 3, nx, ak⟩ (decide (GoodT T E)) (goodM m L T2) E m (meetI T E T2 m.te)).2 ≠ 0 ∧ (takeS ⟨0, 3, nx, ak⟩ (decide (GoodT T E)) (goodM m L T2) E m (meetI T E T2 m.te)).1 = ⟨0, 0, 0, 0⟩ ∨
    ∃ nx' ak', takeS ⟨0, 3, nx, ak⟩ (decide (GoodT T E)) (goodM m L T2) E m (meetI T E T2 m.te) = (⟨0, 3, nx', ak'⟩, 0) ∧ ak ≤ ak' ∧ ak' ≤ E ∧ 0 ≤ nx' ∧ nx' ≤ E := by
  unfold takeS
  dsimp only
  split
  · exact .inl ⟨by simp, rfl⟩
  · rename_i h1
    split
    · exact .inl ⟨by simp, rfl⟩
    · split
      · exact .inl ⟨by simp, rfl⟩
      · rename_i h2 h3
        split
        · rename_i h4
          exact .inr ⟨_, _, rfl, by omega, by omega, by omega, by omega⟩
        · rename_i h4
          have hgm : goodM m L T2 = true := by
            cases h : goodM m L T2
            · exact absurd (Or.inr (Or.inl h)) h1
            · rfl
          have hk3 : m.k = 3 ∧ GoodT T2 m.te := by
            unfold goodM at hgm
            simp only [Bool.and_eq_true, decide_eq_true_eq] at hgm
            have h5 := hgm.2.2.2.2
            rw [if_neg (by omega), if_neg h4] at h5
            by_cases hk : m.k = 3
            · rw [if_pos hk] at h5
              simp only [Bool.and_eq_true, decide_eq_true_eq] at h5
              exact ⟨hk, h5.2.2.2.1⟩
            · rw [if_neg hk] at h5
              cases h5
          obtain ⟨b0, b1, b2⟩ := meet_bd hg hk3.2
          exact .inr ⟨_, _, rfl, by omega, by omega, b0, b1⟩
end Go.Proofs.Ytmkoabalakfehaa
