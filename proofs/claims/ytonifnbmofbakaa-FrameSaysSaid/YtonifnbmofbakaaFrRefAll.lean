/- The reference's AllRecs; recs. -/
import Derived.Test.YtonifnbmofbakaaFrRefGet
set_option linter.unusedVariables false
set_option linter.unusedSimpArgs false
namespace Go.Proofs.Ytonifnbmofbakaa
open Go.RowKit
def rrs (L : List (Int × List Int)) : List Value := L.flatMap fun l => [.int .u64 l.1, .string (strOf l.2)]
theorem rrs_len (L : List (Int × List Int)) : (rrs L).length = L.length * 2 := by induction L with | nil => rfl | cons x l ih => simp [rrs] at ih ⊢; omega
theorem rrs_append (l m : List (Int × List Int)) : rrs (l ++ m) = rrs l ++ rrs m := by simp [rrs]
theorem rrs_at : ∀ (l : List (Int × List Int)) (i : Nat) (x : Int × List Int), l[i]? = some x → (rrs l)[i * 2]? = some (.int .u64 x.1) ∧ (rrs l)[i * 2 + 1]? = some (.string (strOf x.2))
  | [], i, x, h => by cases h
  | y :: l, 0, x, h => by
    obtain rfl : y = x := by simpa using h
    exact ⟨rfl, rfl⟩
  | y :: l, i + 1, x, h => by
    have := rrs_at l i x (by simpa using h)
    simpa [rrs, Nat.add_mul] using this
theorem elemRR : Elem Try.prog 44 41 (.agg #[.int .u64 0, .string ⟨#[]⟩]) 2 24 :=
  ⟨Try.underlying44, info_parts (by kernel_rfl), rfl, by omega⟩
/-- a slice of the reference's records that reads as L -/
def SlRR (w : World) (a : Option Addr) (k c : Nat) (L : List (Int × List Int)) : Prop :=
  L.length = k ∧ k ≤ c ∧ c ≤ maxLen ∧ ∀ (i : Nat) (l : Int × List Int), L[i]? = some l → ∃ b o, a = some ⟨b, o, none⟩ ∧ w.cell? ⟨b, o + i * 2, none⟩ = some (.int .u64 l.1) ∧ w.cell? ⟨b, o + i * 2 + 1, none⟩ = some (.string (strOf l.2))
theorem SlRR.kept {w w' : World} {a : Option Addr} {k c : Nat} {L : List (Int × List Int)} (h : Kept w w') (hs : SlRR w a k c L) : SlRR w' a k c L :=
  ⟨hs.1, hs.2.1, hs.2.2.1, fun i l hi => by obtain ⟨b, o, h1, h2, h3⟩ := hs.2.2.2 i l hi; exact ⟨b, o, h1, h.cel h2, h.cel h3⟩⟩
theorem app_slRR {w : World} {e : TypeId} {a : Option Addr} {k c : Nat} {g : Option Nat} {L : List (Int × List Int)} (h : App w e 2 (.slice a k c) k g (rrs L)) : SlRR w a k c L := by
  have hl : L.length = k := by have := h.len; rw [rrs_len] at this; omega
  obtain ⟨⟨h1, h2⟩, h3⟩ := h
  rcases h2 with ⟨hn, rfl⟩ | ⟨b, cap, cur, hv, _, hh, hnc, hcm, hcs, htake⟩
  · injection hn with e1 e2 e3
    subst e3
    have : L = [] := List.eq_nil_of_length_eq_zero (by omega)
    subst this
    exact ⟨hl, Nat.le_refl _, by unfold maxLen; omega, fun i l hi => by cases hi⟩
  · injection hv with e1 e2 e3
    subst e1 e3
    refine ⟨hl, hnc, hcm, fun i l hi => ?_⟩
    obtain ⟨q1, q2⟩ := rrs_at L i l hi
    have hc : ∀ j v, (rrs L)[j]? = some v → w.cell? ⟨b, 0 + j, none⟩ = some v := fun j v hj => by
      rw [cell_of_row w b _ cur _ _ hh, Nat.zero_add]
      rw [← htake, List.getElem?_take] at hj
      split at hj
      · rw [← Array.getElem?_toList]; exact hj
      · cases hj
    exact ⟨b, 0, rfl, hc _ _ q1, (by have h := hc _ _ q2; rwa [← Nat.add_assoc] at h)⟩
set_option maxRecDepth 100000 in
set_option maxHeartbeats 2000000 in
theorem ref_all (a : Option Addr) (n c : Nat) (zs : List Int) (w : World) (hS : Sl .u8 w a n c zs) (hB : IsB zs) (hn2 : n ≤ 100000) :
    Calls Try.prog 15 #[.slice a n c] w fun e w' => ∃ k L nn er a' c', e = .returned (.tuple #[.slice a' k c', .int .i64 (nn : Nat), .int .i64 er]) ∧ Rd zs k L nn ∧ Stop zs nn er ∧ SlRR w' a' k c' L ∧ Kept w w' := by
  have hl := hS.1
  have hnc := hS.2.1
  have hcm := hS.2.2.1
  unfold maxLen at hcm
  have HS := Lib.hid hS
  have HB := Lib.hid hB
  clear hS hB
  go_enter Try.func15, Try.ntmps15
  go_wp2_with fail
  go_loopw [5, 6] (fun sl i wr => ∃ (k : Nat) (L : List (Int × List Int)) (nn : Nat) (a' : Option Addr) (c' : Nat) (g : Option Nat), sl = .slice a' k c' ∧ i = .int .i64 (nn : Nat) ∧ nn ≤ n ∧ 16 * k ≤ nn ∧ Hid (Rd zs k L nn) ∧ Hid (App wr 41 2 (.slice a' k c') k g (rrs L)) ∧ Kept w wr ∧ Hid (∀ j, g = some j → w.heap.size ≤ j)) (fun _ i _ => n - (intOf i).toNat)
  case atStart => exact ⟨0, [], 0, none, 0, none, rfl, rfl, by omega, by omega, ⟨rfl, rfl⟩, app_nil _ _ _, Kept.refl _, by intro j hj; cases hj⟩
  case round =>
    obtain ⟨k, L, nn, a', c', g, rfl, rfl, hnn, hk, HR, HA, KW, HG⟩ := hrel
    by_cases hlt : nn < n
    · have hlt' : (nn : Int) < n := by omega
      have x1 := fun W => run_cut_l elemB a n c .i64 nn (nn : Int) rfl (by omega) W
      have hz : Hid (zs.drop nn = (zs.take n).drop nn) := by unfold Hid; rw [List.take_of_length_le (by omega)]
      have hcut := sl_cut (KW.sl HS.out) nn n (by omega) (Nat.le_refl _)
      rw [← hz.out] at hcut
      have HGt := Lib.hid (ref_get (cutA a c nn 1) (n - nn) (c - nn) (zs.drop nn) wr hcut (isB_drop HB.out _) (by omega))
      have hcs := getR_cases (isB_drop HB.out nn)
      have hdl : (zs.drop nn).length = n - nn := by simp; omega
      rw [hdl] at hcs
      obtain ⟨⟨A8, P8, M8, E8⟩, hR8⟩ : ∃ r, getR (zs.drop nn) = r := ⟨_, rfl⟩
      have HR8 := Lib.hid hR8
      rw [hR8] at HGt hcs
      dsimp only at HGt hcs
      clear hR8 hcut hdl
      obtain ⟨s8, hs8⟩ : ∃ s8, strOf P8 = s8 := ⟨_, rfl⟩
      rw [hs8] at HGt
      have Hs8 := Lib.hid hs8
      clear hs8
      rcases hcs with ⟨he, rfl, hP0, rfl, he3⟩ | ⟨rfl, hM, hM2, hP⟩
      · have hbo : (E8 != 0) = true := by simp [he]
        clear hP0
        go_wp2_with fail
        refine HGt.out.mono ?_
        rintro e V ⟨rfl, K8⟩
        clear HGt x1
        have KV := KW.trans (K8.trans (kept_al V (.cells #[.int .u64 0, .string s8] 41)))
        have hsl := Lib.hid (app_slRR ((K8.trans (kept_al V (.cells #[.int .u64 0, .string s8] 41))).only.app HA.out (by simp)))
        unfold rrecV
        go_wp2
        exact bodyPost_ret (v := .tuple #[.slice a' k c', .int .i64 (nn : Nat), .int .i64 E8]) (by simp [results, Try.results15, go_sem]) rfl ⟨k, L, nn, E8, a', c', rfl, HR.out, .inr ⟨by omega, by rw [HR8.out], he⟩, hsl.out, KV⟩
      · obtain ⟨pl, hpl⟩ : ∃ pl, P8.length = pl := ⟨_, rfl⟩
        rw [hpl] at hM hP
        subst hM
        go_wp2_with fail
        refine HGt.out.mono ?_
        rintro e V ⟨rfl, K8⟩
        clear HGt x1
        have hb := heap_alloc_new V (.cells #[.int .u64 A8, .string s8] 41)
        have b0 := (two_cells hb).1
        have b1 := (two_cells hb).2
        have KB := K8.trans (kept_al V (.cells #[.int .u64 A8, .string s8] 41))
        have HAB := Lib.hid ((KB.only.alloc (.cells #[.int .u64 A8, .string s8] 41)).app HA.out (by simp))
        have hlb : Hid (((V.alloc (.cells #[.int .u64 A8, .string s8] 41)).alloc (.cells #[.int .u64 A8, .string s8] 41)).heap[V.heap.size + 1]? = some (.cells #[.int .u64 A8, .string s8] 41 (0, 0))) := by
          have := heap_alloc_new (V.alloc (.cells #[.int .u64 A8, .string s8] 41)) (.cells #[.int .u64 A8, .string s8] 41)
          unfold Hid
          simpa using this
        clear hb
        have hgV : Hid (∀ j, g = some j → j < wr.heap.size) := HA.out.lt
        have hw1 : IntKind.i64.wrap ((nn : Int) + (16 + (pl : Int))) = ((nn + (16 + pl) : Nat) : Int) := by rw [IntKind.wrap_i64]; push_cast; omega
        unfold rrecV
        go_wp2_with (at_builtin; refine wpList_app rfl (.tmp 27) (.tmp 29) 44 44 rfl elemRR _ k _ _ rfl HAB.out _ 1 _ rfl (src_block Try.underlying44 hlb.out 1 1 rfl (by simp [Value.oneCell'])) (by omega) (by unfold maxLen; omega) ?_; intro a5 c5 g5 w5 hA5 hO5 hG5)
        go_roundw
        case rel =>
          have hO6 : Only g.toList wr w5 := ((KB.only.alloc _).mono (by simp)).trans hO5
          have hsz2 := (KB.trans (kept_al _ (.cells #[.int .u64 A8, .string s8] 41))).size
          refine ⟨k + 1, L ++ [(A8, P8)], nn + (16 + pl), a5, c5, g5, rfl, by go_num, by omega, by omega, ⟨L, nn, A8, P8, 16 + pl, HR.out, by omega, HR8.out, rfl, rfl⟩, ?_, KW.onl hO6 ?_, ?_⟩
          · unfold Hid
            rw [rrs_append]
            have h := hA5
            rw [← Hs8.out] at h
            exact h
          · intro i hi
            exact HG.out i (by simpa using hi)
          · rcases hG5 with rfl | rfl
            · exact HG.out
            · intro j hj
              injection hj with hj
              have := KW.size
              simp at hj hsz2
              omega
        case measure => simp [intOf]; omega
    · have hge : (n : Int) ≤ nn := by omega
      obtain rfl : nn = n := by omega
      go_wp2
      exact bodyPost_ret (v := .tuple #[.slice a' k c', .int .i64 (nn : Nat), .int .i64 0]) (by simp [results, Try.results15, go_sem]) rfl ⟨k, L, nn, 0, a', c', rfl, HR.out, .inl ⟨hl.symm, rfl⟩, app_slRR HA.out, KW⟩
set_option maxRecDepth 100000 in
set_option maxHeartbeats 2000000 in
/-- alike records -/
theorem fr_recs (a : Option Addr) (k c : Nat) (a' : Option Addr) (c' : Nat) (L : List (Int × List Int)) (w : World) (hS : SlR w a k c L) (hS' : SlRR w a' k c' L) (hk : k ≤ 100000) :
    Calls Try.prog 16 #[.slice a k c, .slice a' k c'] w fun e w' => e = .returned (.bool true) ∧ Kept w w' := by
  have HS := Lib.hid hS
  have HS' := Lib.hid hS'
  have h1 := hS.2.1
  have h2 := hS.2.2.1
  have h3 := hS'.2.1
  have h4 := hS'.2.2.1
  have hL := hS.1
  unfold maxLen at h2 h4
  clear hS hS'
  go_enter Try.func16, Try.ntmps16
  go_wp2_with fail
  go_loopw [5] (fun i wr => ∃ (j : Nat), i = .int .i64 j ∧ j ≤ k ∧ Kept w wr) (fun i _ => k - (intOf i).toNat)
  case atStart => exact ⟨0, rfl, by omega, Kept.refl _⟩
  case round =>
    obtain ⟨j, rfl, hj, Kj⟩ := hrel
    by_cases hlt : j < k
    · have hlt' : (j : Int) < k := by omega
      obtain ⟨⟨ax, px⟩, hxl⟩ : ∃ l, L[j]? = some l := ⟨_, List.getElem?_eq_getElem (by omega)⟩
      obtain ⟨b, o, x, m, d, rfl, e0, e1, e2⟩ := (HS.out.kept Kj).2.2.2 j _ hxl
      obtain ⟨b', o', rfl, e3, e4⟩ := (HS'.out.kept Kj).2.2.2 j _ hxl
      have q1 := fun m => run_strN (P := Try.prog) 23 9 5 Try.underlying23 Try.underlying5 Try.underlying9 e2 m
      clear e2 hxl
      dsimp only at e0 e3 e4 q1
      have hax : (ax != ax) = false := by simp
      have htv : ((strOf px).toList != (strOf px).toList) = false := by simp
      go_wp2_with fail
      go_quiet (fail)
      go_wp2
      go_roundw
      case rel => exact ⟨j + 1, by go_num, by omega, Kj.dr ⟨_, rfl⟩⟩
      case measure => simp [intOf]; omega
    · have hge : (k : Int) ≤ j := by omega
      obtain rfl : j = k := by omega
      go_wp2
      go_ret
      exact ⟨rfl, Kj⟩
end Go.Proofs.Ytonifnbmofbakaa
