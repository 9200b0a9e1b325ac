/- The contracts of msg over a message's fields. -/
import Derived.Test.YtnnjflljlooifaaMsGet
import Derived.Test.YtnnjflljlooifaaMsSame
set_option linter.unusedVariables false
set_option linter.unusedSimpArgs false
namespace Go.Proofs.Ytnnjflljlooifaa
open Go.RowKit
/-- a message's rows -/
def MsgAt (V : World) (la : Option Addr) (ln lc : Nat) (ta : Option Addr) (tn tc : Nat) (L : List (Int × List Int)) (T : List Int) : Prop := ∃ R, SlQ V la ln lc R ∧ BytesAt V R L ∧ Sl .u64 V ta tn tc T
theorem MsgAt.kept {V V' : World} {la : Option Addr} {ln lc : Nat} {ta : Option Addr} {tn tc : Nat} {L : List (Int × List Int)} {T : List Int} (h : MsgAt V la ln lc ta tn tc L T) (k : Kept V V') : MsgAt V' la ln lc ta tn tc L T := by
  obtain ⟨R, h1, h2, h3⟩ := h
  exact ⟨R, h1.kept k, h2.kept k, k.sl h3⟩
theorem cGood {k f t e o p te : Int} {la : Option Addr} {ln lc : Nat} {ta : Option Addr} {tn tc : Nat} {L : List (Int × List Int)} {T : List Int} {V : World} (h : MsgAt V la ln lc ta tn tc L T) (hW : IsW T) (hn : ln ≤ 100) {g : Bool} (hg : goodM ⟨k, f, t, e, o, p, la, ln, lc, ta, tn, tc, te⟩ (lens L) T = g) :
    Calls Try.prog 17 #[.agg #[.int .i64 k, .int .i64 f, .int .i64 t, .int .i64 e, .int .i64 o, .int .i64 p, .slice la ln lc, .slice ta tn tc, .int .i64 te]] V fun E w' => E = .returned (.bool g) ∧ Kept V w' := by
  obtain ⟨R, h1, h2, h3⟩ := h
  have := msg_good ⟨k, f, t, e, o, p, la, ln, lc, ta, tn, tc, te⟩ (lens L) T V (by have h := h1.slM; rwa [rvM_lens h2] at h) h3 hW hn
  rwa [hg] at this
theorem cPut {k f t e o p te : Int} {la : Option Addr} {ln lc : Nat} {ta : Option Addr} {tn tc : Nat} {L : List (Int × List Int)} {T : List Int} {V : World} (h : MsgAt V la ln lc ta tn tc L T) (hz : ∀ l ∈ L, IsB l.2) (hW : IsW T) (hn : ln ≤ 100) :
    Calls Try.prog 18 #[.agg #[.int .i64 k, .int .i64 f, .int .i64 t, .int .i64 e, .int .i64 o, .int .i64 p, .slice la ln lc, .slice ta tn tc, .int .i64 te]] V fun E w' => ∃ a n c, E = .returned (.slice a n c) ∧ Sl .u8 w' a n c (if goodM ⟨k, f, t, e, o, p, la, ln, lc, ta, tn, tc, te⟩ (lens L) T = true then encM k f e o p L T te else []) ∧ Kept V w' := by
  obtain ⟨R, h1, h2, h3⟩ := h
  exact msg_put ⟨k, f, t, e, o, p, la, ln, lc, ta, tn, tc, te⟩ R L T V h1 h2 hz h3 hW hn
theorem cPutF {k f t e o p te : Int} {la : Option Addr} {ln lc : Nat} {ta : Option Addr} {tn tc : Nat} {L : List (Int × List Int)} {T : List Int} {V : World} (h : MsgAt V la ln lc ta tn tc L T) (hz : ∀ l ∈ L, IsB l.2) (hW : IsW T) (hn : ln ≤ 100) :
    Calls Try.prog 18 #[.agg #[.int .i64 k, .int .i64 f, .int .i64 t, .int .i64 e, .int .i64 o, .int .i64 p, .slice la ln lc, .slice ta tn tc, .int .i64 te]] V fun E w' => ∃ a n c, E = .returned (.slice a n c) ∧ Sl .u8 w' a n c (if goodM ⟨k, f, t, e, o, p, la, ln, lc, ta, tn, tc, te⟩ (lens L) T = true then encM k f e o p L T te else []) ∧ Kept V w' ∧ (∀ y, a = some y → V.heap.size ≤ y.block) := by
  obtain ⟨R, h1, h2, h3⟩ := h
  exact msg_putF ⟨k, f, t, e, o, p, la, ln, lc, ta, tn, tc, te⟩ R L T V h1 h2 hz h3 hW hn
theorem cGet {k f t e o p te : Int} {la0 : Option Addr} {ln lc0 : Nat} {ta0 : Option Addr} {tn tc0 : Nat} {L : List (Int × List Int)} {T : List Int} {V : World} {a : Option Addr} {n c : Nat} (hS : Sl .u8 V a n c (encM k f e o p L T te)) (hg : goodM ⟨k, f, t, e, o, p, la0, ln, lc0, ta0, tn, tc0, te⟩ (lens L) T = true) (hl : L.length = ln) (ht : T.length = tn) (hst : ∀ l ∈ L, (0 ≤ l.1 ∧ l.1 ≤ 18446744073709551615) ∧ IsB l.2) (hW : IsW T) :
    Calls Try.prog 24 #[.slice a n c] V fun E w' => ∃ la lc ta tc, E = .returned (.tuple #[.agg #[.int .i64 k, .int .i64 f, .int .i64 t, .int .i64 e, .int .i64 o, .int .i64 p, .slice la ln lc, .slice ta tn tc, .int .i64 te], .int .i64 0]) ∧ MsgAt w' la ln lc ta tn tc L T ∧ Kept V w' := by
  refine (msg_get ⟨k, f, t, e, o, p, la0, ln, lc0, ta0, tn, tc0, te⟩ L T a n c V hS hg hl ht hst hW).mono ?_
  rintro E w' ⟨la, lc, ta, tc, R, rfl, h1, h2, h3, K⟩
  exact ⟨la, lc, ta, tc, rfl, ⟨R, h1, h2, h3⟩, K⟩
theorem cSame {k f t e o p te k' f' t' e' o' p' te' : Int} {la : Option Addr} {ln lc : Nat} {ta : Option Addr} {tn tc : Nat} {L : List (Int × List Int)} {T : List Int} {la' : Option Addr} {ln' lc' : Nat} {ta' : Option Addr} {tn' tc' : Nat} {L' : List (Int × List Int)} {T' : List Int} {V : World} (h : MsgAt V la ln lc ta tn tc L T) (h' : MsgAt V la' ln' lc' ta' tn' tc' L' T') (hz : ∀ l ∈ L, IsB l.2) (hz' : ∀ l ∈ L', IsB l.2) :
    Calls Try.prog 11 #[.agg #[.int .i64 k, .int .i64 f, .int .i64 t, .int .i64 e, .int .i64 o, .int .i64 p, .slice la ln lc, .slice ta tn tc, .int .i64 te], .agg #[.int .i64 k', .int .i64 f', .int .i64 t', .int .i64 e', .int .i64 o', .int .i64 p', .slice la' ln' lc', .slice ta' tn' tc', .int .i64 te']] V fun E w' => E = .returned (.bool (decide (k = k' ∧ f = f' ∧ t = t' ∧ e = e' ∧ o = o' ∧ p = p' ∧ te = te' ∧ T = T' ∧ L = L'))) ∧ Kept V w' := by
  obtain ⟨R, h1, h2, h3⟩ := h
  obtain ⟨R', h1', h2', h3'⟩ := h'
  exact msg_same ⟨k, f, t, e, o, p, la, ln, lc, ta, tn, tc, te⟩ ⟨k', f', t', e', o', p', la', ln', lc', ta', tn', tc', te'⟩ R R' L L' T T' V h1 h1' h2 h2' hz hz' h3 h3'
theorem isW_nil : IsW [] := isW_of_mem (by simp)
end Go.Proofs.Ytnnjflljlooifaa
