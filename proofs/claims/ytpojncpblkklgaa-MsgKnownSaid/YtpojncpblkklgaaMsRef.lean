/- What the law makes of records and of tables: the document's own. -/
import Derived.Test.YtpojncpblkklgaaMsBase
import Derived.Test.YtpojncpblkklgaaStrs
import Derived.Deep.RegionHeld3
set_option linter.unusedVariables false
set_option linter.unusedSimpArgs false
namespace Go.Proofs.Ytpojncpblkklgaa
open Go.RowKit
def rrs (L : List (Int × List Int)) : List Value := L.flatMap fun l => [.int .u64 l.1, .string (strOf l.2)]
theorem rrs_len (L : List (Int × List Int)) : (rrs L).length = L.length * 2 := by induction L with | nil => rfl | cons x l ih => simp [rrs] at ih ⊢; omega
theorem rrs_append (l m : List (Int × List Int)) : rrs (l ++ m) = rrs l ++ rrs m := by simp [rrs]
theorem rrs_at : ∀ (l : List (Int × List Int)) (i : Nat) (x : Int × List Int), l[i]? = some x → (rrs l)[i * 2]? = some (.int .u64 x.1) ∧ (rrs l)[i * 2 + 1]? = some (.string (strOf x.2))
  | [], i, x, h => by cases h
  | y :: l, 0, x, h => by
    obtain rfl : y = x := by simpa using h
    exact ⟨rfl, rfl⟩
  | y :: l, i + 1, x, h => by
    have := rrs_at l i x (by simpa using h)
    simpa [rrs, Nat.add_mul] using this
theorem elemRR : Elem Try.prog 42 72 (.agg #[.int .u64 0, .string ⟨#[]⟩]) 2 24 :=
  ⟨Try.underlying42, info_parts (by kernel_rfl), rfl, by omega⟩
/-- a slice of the reference's records that reads as L -/
def SlRR (w : World) (a : Option Addr) (k c : Nat) (L : List (Int × List Int)) : Prop :=
  L.length = k ∧ k ≤ c ∧ c ≤ maxLen ∧ ∀ (i : Nat) (l : Int × List Int), L[i]? = some l → ∃ b o, a = some ⟨b, o, none⟩ ∧ w.cell? ⟨b, o + i * 2, none⟩ = some (.int .u64 l.1) ∧ w.cell? ⟨b, o + i * 2 + 1, none⟩ = some (.string (strOf l.2))
theorem SlRR.kept {w w' : World} {a : Option Addr} {k c : Nat} {L : List (Int × List Int)} (h : Kept w w') (hs : SlRR w a k c L) : SlRR w' a k c L :=
  ⟨hs.1, hs.2.1, hs.2.2.1, fun i l hi => by obtain ⟨b, o, h1, h2, h3⟩ := hs.2.2.2 i l hi; exact ⟨b, o, h1, h.cel h2, h.cel h3⟩⟩
theorem app_slRR {w : World} {e : TypeId} {a : Option Addr} {k c : Nat} {g : Option Nat} {L : List (Int × List Int)} (h : App w e 2 (.slice a k c) k g (rrs L)) : SlRR w a k c L := by
  have hl : L.length = k := by have := h.len; rw [rrs_len] at this; omega
  obtain ⟨⟨h1, h2⟩, h3⟩ := h
  rcases h2 with ⟨hn, rfl⟩ | ⟨b, cap, cur, hv, _, hh, hnc, hcm, hcs, htake⟩
  · injection hn with e1 e2 e3
    subst e3
    have : L = [] := List.eq_nil_of_length_eq_zero (by omega)
    subst this
    exact ⟨hl, Nat.le_refl _, by unfold maxLen; omega, fun i l hi => by cases hi⟩
  · injection hv with e1 e2 e3
    subst e1 e3
    refine ⟨hl, hnc, hcm, fun i l hi => ?_⟩
    obtain ⟨q1, q2⟩ := rrs_at L i l hi
    have hc : ∀ j v, (rrs L)[j]? = some v → w.cell? ⟨b, 0 + j, none⟩ = some v := fun j v hj => by
      rw [cell_of_row w b _ cur _ _ hh, Nat.zero_add]
      rw [← htake, List.getElem?_take] at hj
      split at hj
      · rw [← Array.getElem?_toList]; exact hj
      · cases hj
    exact ⟨b, 0, rfl, hc _ _ q1, (by have h := hc _ _ q2; rwa [← Nat.add_assoc] at h)⟩
/-- records as values, and what their bytes are -/
def BytesAt (w : World) (R : List RV) (L : List (Int × List Int)) : Prop := R.length = L.length ∧ ∀ (i : Nat) (r : RV) (l : Int × List Int), R[i]? = some r → L[i]? = some l → r.at' = l.1 ∧ Sl .u8 w r.a r.n r.c l.2
theorem BytesAt.kept {w w' : World} {R : List RV} {L : List (Int × List Int)} (k : Kept w w') (h : BytesAt w R L) : BytesAt w' R L := ⟨h.1, fun i r l h1 h2 => ⟨(h.2 i r l h1 h2).1, k.sl (h.2 i r l h1 h2).2⟩⟩
set_option maxRecDepth 100000 in
set_option maxHeartbeats 4000000 in
theorem law_recsOf (a : Option Addr) (n c : Nat) (R : List RV) (L : List (Int × List Int)) (w : World) (hQ : SlQ w a n c R) (hB : BytesAt w R L) (hn : n ≤ 1000) :
    Calls Try.prog 32 #[.slice a n c] w fun e w' => ∃ a' c', e = .returned (.slice a' n c') ∧ SlRR w' a' n c' L ∧ Kept w w' := by
  have hl := hQ.1
  have hLl : L.length = n := by rw [← hB.1]; exact hl
  have hnc := hQ.2.1
  have hcm := hQ.2.2.1
  unfold maxLen at hcm
  have HQ := Lib.hid hQ
  have HB := Lib.hid hB
  clear hQ hB
  go_enter Try.func32, Try.ntmps32
  go_wp2_with fail
  go_loopw [3, 4] (fun sl i wr => ∃ (j : Nat) (a' : Option Addr) (c' : Nat) (g : Option Nat), sl = .slice a' j c' ∧ i = .int .i64 (j : Nat) ∧ j ≤ n ∧ Hid (App wr 72 2 (.slice a' j c') j g (rrs (L.take j))) ∧ Kept w wr ∧ Hid (∀ k, g = some k → w.heap.size ≤ k)) (fun _ i _ => n - (intOf i).toNat)
  case atStart => exact ⟨0, none, 0, none, rfl, rfl, by omega, app_nil _ _ _, Kept.refl _, by intro j hj; cases hj⟩
  case round =>
    obtain ⟨j, a', c', g, rfl, rfl, hj, HA, KW, HG⟩ := hrel
    by_cases hlt : j < n
    · have hlt' : (j : Int) < n := by omega
      obtain ⟨r, hr⟩ : ∃ r, R[j]? = some r := ⟨_, List.getElem?_eq_getElem (by omega)⟩
      obtain ⟨l, hll⟩ : ∃ l, L[j]? = some l := ⟨_, List.getElem?_eq_getElem (by omega)⟩
      obtain ⟨he, hs⟩ := HB.out.2 j r l hr hll
      obtain ⟨rat, ra, rn, rc⟩ := r
      obtain ⟨lat, lz⟩ := l
      dsimp only at he hs
      subst he
      obtain ⟨⟨hb0, hb1, hb2⟩, b, o, rfl, h0, h1⟩ := HQ.out.2.2.2 j _ hr
      dsimp only at hb0 hb1 hb2 h0 h1
      obtain ⟨s, hs8⟩ : ∃ s, strOf lz = s := ⟨_, rfl⟩
      have Hs8 := Lib.hid hs8
      have hcv := fun V (k : Kept w V) => run_str (P := Try.prog) (w := V) 32 9 5 Try.underlying32 Try.underlying5 Try.underlying9 (k.sl hs)
      rw [hs8] at hcv
      have HAB : Hid (App ((wr.alloc (.cells #[.int .u64 rat, .string s] 72)).drew) 72 2 (.slice a' j c') j g (rrs (L.take j))) := ((kept_al wr _).dr ⟨1, rfl⟩).only.app HA.out (by simp)
      have HH : Hid (((wr.alloc (.cells #[.int .u64 rat, .string s] 72)).drew).heap[wr.heap.size]? = some (.cells #[.int .u64 rat, .string s] 72 (0, 0))) := heap_alloc_new wr _
      have KB : Kept w ((wr.alloc (.cells #[.int .u64 rat, .string s] 72)).drew) := (KW.trans (kept_al wr _)).dr ⟨1, rfl⟩
      have HT : Hid (rrs (L.take (j + 1)) = rrs (L.take j) ++ [.int .u64 rat, .string s]) := by
        unfold Hid
        rw [List.take_add_one, hll, rrs_append, ← hs8]
        rfl
      have hgl := HA.out.lt
      have HGl := Lib.hid hgl
      clear hs hs8 hr hll hgl
      have KD : Kept w wr.drew := KW.dr ⟨1, rfl⟩
      have HC : Hid (∀ V, Kept w V → V.cell? ⟨b, o + j * 2, none⟩ = some (.int .u64 rat) ∧ V.cell? ⟨b, o + j * 2 + 1, none⟩ = some (.slice ra rn rc) ∧ (convert 32 9 (.slice ra rn rc)).run Try.prog V = .ok (.string s) V) := fun V k => ⟨k.cel h0, k.cel h1, hcv V k⟩
      clear h0 h1 hcv
      go_wp2_with fail
      go_region_held3 (fun Z => Z.cell? ⟨b, o + j * 2, none⟩ = some (.int .u64 rat) ∧ Z.cell? ⟨b, o + j * 2 + 1, none⟩ = some (.slice ra rn rc) ∧ (convert 32 9 (.slice ra rn rc)).run Try.prog Z = .ok (.string s) Z) (first | exact HC.out _ KD | exact HC.out _ KB) ((refine step_app rfl (.tmp 11) (.tmp 24) 42 42 rfl elemRR _ j _ _ rfl HAB.out _ 1 _ rfl (src_block Try.underlying42 HH.out 1 1 rfl (by simp [Value.oneCell'])) (by omega) (by unfold maxLen; omega) ?_; intro a5 c5 g5 w5 hA5 hO5 hG5; have HA5 := Lib.hid hA5; have HO5 := Lib.hid hO5; have HG5 := Lib.hid hG5; clear KD; have KD := (KB.onl hO5 (by intro q hq; exact HG.out q (by simpa using hq))); clear hA5 hO5 hG5))
      go_wp2
      go_roundw
      case rel =>
        refine ⟨j + 1, a5, c5, g5, rfl, by go_num, by omega, ?_, KD, ?_⟩
        · unfold Hid
          rw [HT.out]
          exact HA5.out
        · rcases HG5.out with rfl | rfl
          · exact HG.out
          · intro q hq
            injection hq with hq
            have := KB.size
            have := KW.size
            simp at hq
            omega
      case measure => simp [intOf]; omega
    · have hge : (n : Int) ≤ j := by omega
      obtain rfl : j = n := by omega
      go_wp2
      exact bodyPost_ret (v := .slice a' j c') (by simp [results, Try.results32, go_sem]) rfl ⟨a', c', rfl, by have := app_slRR HA.out; rwa [List.take_of_length_le (by omega)] at this, KW⟩
end Go.Proofs.Ytpojncpblkklgaa
