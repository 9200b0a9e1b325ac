/- EncRow: the law's walk. -/
import Derived.Test.YtciolohapanpfabEncBackLaw
import Derived.Test.YtciolohapanpfabTy
import Derived.Deep.RegionHeld3
import Derived.Deep.DrawnRows
set_option linter.unusedVariables false
set_option linter.unusedSimpArgs false
namespace Go.Proofs.Ytciolohapanpfab
open Go.RowKit
def sAt (l : List ByteArray) (k : Nat) : ByteArray := l.getD k ByteArray.empty
/-- the first k pairs, written -/
def rowK (l : List ByteArray) (n : List Int) : Nat → List Int
  | 0 => []
  | k + 1 => rowK l n k ++ (encS (ofStr (sAt l k)) ++ encU (fold (n.getD k 0)))
/-- m pairs from k on, written -/
def tlK (l : List ByteArray) (n : List Int) : Nat → Nat → List Int
  | _, 0 => []
  | k, m + 1 => encS (ofStr (sAt l k)) ++ (encU (fold (n.getD k 0)) ++ tlK l n (k + 1) m)
theorem rowK_tlK (l : List ByteArray) (n : List Int) : ∀ m k, rowK l n k ++ tlK l n k m = rowK l n (k + m)
  | 0, k => by simp [tlK]
  | m + 1, k => by
    rw [tlK, ← List.append_assoc, ← List.append_assoc, List.append_assoc (rowK l n k)]
    have := rowK_tlK l n m (k + 1)
    rw [rowK] at this
    rw [this, show k + 1 + m = k + (m + 1) by omega]
theorem rowK_len (l : List ByteArray) (n : List Int) : ∀ k, (∀ i, i < k → (sAt l i).size ≤ 100) → (rowK l n k).length ≤ 120 * k
  | 0, _ => by simp [rowK]
  | k + 1, h => by
    have h1 := rowK_len l n k (fun i hi => h i (by omega))
    have h2 := h k (by omega)
    have h3 := encU_len (fold (n.getD k 0))
    have h4 := encU_len (ofStr (sAt l k)).length
    simp only [rowK, encS, List.length_append, ofStr_len] at *
    omega
theorem rowK_isB (l : List ByteArray) (n : List Int) (hn : ∀ i, -9223372036854775808 ≤ n.getD i 0 ∧ n.getD i 0 ≤ 9223372036854775807) : ∀ k, (∀ i, i < k → (sAt l i).size ≤ 100) → IsB (rowK l n k)
  | 0, _ => by intro i; simp [rowK]
  | k + 1, h => isB_append (rowK_isB l n hn k (fun i hi => h i (by omega))) (isB_append (isB_encS _ (by have := h k (by omega); omega)) (isB_encU _ (fold_bd _ (hn k).1 (hn k).2).1 (fold_bd _ (hn k).1 (hn k).2).2))
set_option maxRecDepth 100000 in
set_option maxHeartbeats 2000000 in
theorem encRow_walk (a b : Option Addr) (m c d : Nat) (l : List ByteArray) (ns : List Int) (w : World) (hl : Sls w a m c l) (hn : Sl .i64 w b m d ns) (hns : ∀ i, -9223372036854775808 ≤ ns.getD i 0 ∧ ns.getD i 0 ≤ 9223372036854775807) (hm : m ≤ 20) :
    Calls Try.prog 5 #[.slice a m c, .slice b m d] w fun e w' => e = .returned (.bool true) ∧ Below w.heap.size w w' := by
  have HL := Lib.hid hl
  have HN := Lib.hid hn
  have HNS := Lib.hid hns
  have hmc := hl.2.1
  have hcm := hl.2.2.1
  unfold maxLen at hcm
  clear hl hn hns
  go_enter Try.func5, Try.ntmps5
  go_wp2_with fail
  refine (awake3 _).mono ?_
  rintro e w1 ⟨rfl, k1⟩
  have K1 : Kept w w1 := k1
  clear k1
  have hO := Lib.hid (outAt_nil w1)
  have K2 : Kept w (w1.alloc (.cells #[.slice none 0 0] 27)) := (K1.only.alloc _).kept
  have hsz : w.heap.size ≤ w1.heap.size := K1.size
  go_wp2_with fail
  generalize World.alloc w1 _ = W at *
  go_loopw [6] (fun i wr => ∃ (k : Nat) (g : Option Nat), k ≤ m ∧ i = .int .i64 k ∧ OutAt wr w1.heap.size g (rowK l ns k) ∧ Hid (∀ j, j < k → (sAt l j).size ≤ 100) ∧ Kept w wr ∧ Hid (∀ j, j ∈ g.toList → w.heap.size ≤ j))
    (fun i _ => m - (intOf i).toNat)
  case atStart => exact ⟨0, none, by omega, rfl, hO.out, fun j hj => by omega, K2, fun j hj => by simp at hj⟩
  case round =>
    obtain ⟨k, g, hk, rfl, hOut, hsm, K, hg⟩ := hrel
    have hrl := rowK_len l ns k hsm.out
    have HO := Lib.hid hOut
    clear hOut
    by_cases hlt : k < m
    · obtain ⟨bl, ol, rfl, hbl, hcl, hszl⟩ := HL.out.2.2.2 k hlt
      obtain ⟨bn, on', v, rfl, hcn, hv⟩ := HN.out.at k hlt
      have hlt' : (k : Int) < m := by omega
      have hs0 : sAt l k = l.getD k ByteArray.empty := rfl
      rw [← hs0] at hcl hszl
      clear hs0
      have hcl1 := K.cel hcl
      have hcn0 := Lib.hid hcn
      clear hcl hcn
      by_cases hs : (sAt l k).size ≤ 100
      · have hv0 := HNS.out k
        rw [← hv.out] at hv0
        have hS := Lib.hid (out_S w1.heap.size g (rowK l ns k) (sAt l k) wr HO.out (by omega) (by omega))
        have hI := fun g' W h => Lib.hid (out_I w1.heap.size g' (rowK l ns k ++ encS (ofStr (sAt l k))) v W hv0.1 hv0.2 h (by
          have := encU_len (ofStr (sAt l k)).length
          simp only [List.length_append, encS, ofStr_len] at *; omega))
        have hsm' : Hid (∀ j, j < k + 1 → (sAt l j).size ≤ 100) := by
          intro j hj
          rcases Nat.lt_succ_iff_lt_or_eq.1 hj with h | rfl
          · exact hsm.out j h
          · exact hs
        have hrow : Hid (rowK l ns (k + 1) = rowK l ns k ++ encS (ofStr (sAt l k)) ++ encU (fold v)) := by unfold Hid; rw [rowK, hv.out, List.append_assoc]
        clear hsm HO
        generalize sAt l k = s at *
        generalize rowK l ns k = R at *
        have hs' : (s.size : Int) ≤ 100 := by omega
        go_wp2_with fail
        refine hS.out.mono ?_
        rintro e w2 ⟨rfl, g2, oO, oo, wg⟩
        have hg2 : Hid (∀ j, j ∈ g2.toList → w.heap.size ≤ j) := by
          intro i hi
          have := K.size
          rcases wg with rfl | ⟨q, rfl, hq⟩
          · exact hg.out i hi
          · simp at hi; omega
        have Ka := K.onl oo (by intro i hi; rcases List.mem_cons.1 hi with rfl | hi; omega; exact hg.out i hi)
        have hcn2 := Ka.cel hcn0.out
        have HO2 := Lib.hid oO
        clear hS hcl1 oO oo wg
        go_wp2_with fail
        refine (hI _ _ HO2.out).out.mono ?_
        clear hI
        rintro e w3 ⟨rfl, g3, oO, oo, wg⟩
        have hg3 : Hid (∀ j, j ∈ g3.toList → w.heap.size ≤ j) := by
          intro i hi
          have := Ka.size
          rcases wg with rfl | ⟨q, rfl, hq⟩
          · exact hg2.out i hi
          · simp at hi; omega
        have Kb := Ka.onl oo (by intro i hi; rcases List.mem_cons.1 hi with rfl | hi; omega; exact hg2.out i hi)
        rw [← hrow.out] at oO
        clear hcn2
        go_wp2
        go_roundw
        case rel => exact ⟨k + 1, g3, by omega, by go_num, oO, hsm', Kb, hg3⟩
        case measure => simp [intOf]; omega
      · have hs' : (100 : Int) < (sAt l k).size := by omega
        go_wp2
        go_ret
        exact ⟨rfl, K⟩
    · obtain rfl : k = m := by omega
      obtain ⟨ao, co, hp, hSo, hio⟩ := outAt_sl HO.out
      have hc0 := one_cell hp
      have hlth := lt_heap hp
      have HB := Lib.hid (rowK_isB l ns HNS.out k hsm.out)
      have HSo := Lib.hid hSo
      have htl := rowK_tlK l ns k 0
      simp only [rowK, List.nil_append, Nat.zero_add] at htl
      have HTL := Lib.hid htl
      have hrl' : (rowK l ns k).length ≤ 2400 := by omega
      clear htl HO hSo hrl hio hlt hg
      generalize hR : rowK l ns k = R at *
      clear hR
      go_wp2_with (at_builtin; refine wpList_app rfl _ _ 25 25 rfl elemB _ 0 _ _ rfl (app_empty wr _) _ R.length _ rfl (src_sl Try.underlying25 (((Only.refl [] wr).alloc _).sl HSo.out (by intro x _; simp))) (by omega) (by unfold maxLen; omega) ?_; intro a5 c5 g5 w5 hA5 hO5 hG5; simp only [Nat.zero_add, List.nil_append] at hA5; rw [Nat.zero_add])
      have K5 : Kept w w5 := ((K.only.alloc _).then hO5 (by intro i hi hm; simp at hm; have := K.size; omega)).kept
      have hI6 := Lib.hid (inAt_app hA5 HB.out)
      have K6 : Kept w (w5.alloc (.cells #[.slice a5 R.length c5, .bool false] 35)) := (K5.only.alloc _).kept
      have hsz5 := K5.size
      clear hO5 hG5 hA5 K5 HSo HB hp hc0 hlth
      generalize World.alloc w5 _ = w6 at *
      go_loopw [8] (fun i wr => ∃ (j : Nat), j ≤ k ∧ i = .int .i64 j ∧ InAt wr 35 w5.heap.size (tlK l ns j (k - j)) false ∧ Kept w wr)
        (fun i _ => k - (intOf i).toNat)
      case atStart => exact ⟨0, by omega, rfl, by rw [Nat.sub_zero, HTL.out]; exact hI6.out, K6⟩
      case round =>
        obtain ⟨j, hj, rfl, hIn, Kj⟩ := hrel
        have HIn := Lib.hid hIn
        clear hIn
        by_cases hlt : j < k
        · obtain ⟨bl, ol, rfl, hbl, hcl, hszl⟩ := HL.out.2.2.2 j hlt
          obtain ⟨bn, on', v, rfl, hcn, hv⟩ := HN.out.at j hlt
          have hlt' : (j : Int) < k := by omega
          have hs := hsm.out j hlt
          have hs0 : sAt l j = l.getD j ByteArray.empty := rfl
          rw [← hs0] at hcl hszl
          clear hs0
          have hv0 := HNS.out j
          rw [← hv.out] at hv0
          have hstep : tlK l ns j (k - j) = encS (ofStr (sAt l j)) ++ (encU (fold v) ++ tlK l ns (j + 1) (k - (j + 1))) := by
            rw [show k - j = (k - (j + 1)) + 1 by omega, tlK, hv.out]
          rw [hstep] at HIn
          have q1 := stS_enc (ofStr (sAt l j)) (encU (fold v) ++ tlK l ns (j + 1) (k - (j + 1))) 100 (by rw [ofStr_len]; omega) (by rw [ofStr_len]; omega)
          have q2 := stI_enc v (tlK l ns (j + 1) (k - (j + 1))) hv0.1 hv0.2
          have Q1 := Lib.hid q1
          have Q2 := Lib.hid q2
          clear q1 q2 hstep
          generalize sAt l j = s at *
          generalize hT : tlK l ns (j + 1) (k - (j + 1)) = T at *
          have HT := Lib.hid hT
          clear hT
          go_wp2_with fail
          have KD : Kept w wr.drew := Kj.dr ⟨1, rfl⟩
          have HD : Hid (InAt wr.drew 35 w5.heap.size (encS (ofStr s) ++ (encU (fold v) ++ T)) false) := by
            have := ((Only.refl [] wr).drew).inAt HIn.out (by simp) (by intro a n c _ x _; simp)
            exact this
          have hbD : Hid (wr.drew.cell? ⟨w5.heap.size, 1, none⟩ = some (.bool false)) := by obtain ⟨_, _, _, hp, _⟩ := HD.out; exact at_cell hp 1 _ rfl
          have hcl0 := Lib.hid hcl
          have hcn0 := Lib.hid hcn
          clear hcl hcn HIn
          have hgo : strOf (stS 100 (encS (ofStr s) ++ (encU (fold v) ++ T), false)).1 = s := by rw [Q1.out]; exact strOf_ofStr s
          have HGO := Lib.hid hgo
          clear hgo
          go_region_held3 (fun w' => w'.cell? ⟨bl, ol + j, none⟩ = some (.string s) ∧ w'.cell? ⟨bn, on' + j, none⟩ = some (.int .i64 v) ∧ w'.cell? ⟨w5.heap.size, 1, none⟩ = some (.bool false)) (first | exact ⟨KI.cel hcl0.out, KI.cel hcn0.out, hbI.out⟩ | exact ⟨KS.cel hcl0.out, KS.cel hcn0.out, hbS.out⟩ | exact ⟨KD.cel hcl0.out, KD.cel hcn0.out, hbD.out⟩) (first | (go_at_call 14; refine (in_S w5.heap.size (encS (ofStr s) ++ (encU (fold v) ++ T), false) 100 _ (by omega) (by omega) HD.out).mono ?_; rintro e wS ⟨rfl, hIS, hOS⟩; rw [HGO.out]; have KS := KD.onl hOS (by intro i hi; simp at hi; omega); rw [Q1.out] at hIS; have HIS := Lib.hid hIS; have hbS : Hid (wS.cell? ⟨w5.heap.size, 1, none⟩ = some (.bool false)) := (by obtain ⟨_, _, _, hp, _⟩ := hIS; exact at_cell hp 1 _ rfl); clear hIS hOS) | (go_at_call 13; refine (in_I w5.heap.size (encU (fold v) ++ T, false) _ HIS.out).mono ?_; rintro e wI ⟨rfl, hII, hOI⟩; have KI := KS.onl hOI (by intro i hi; simp at hi; omega); rw [Q2.out] at hII ⊢; have HII := Lib.hid hII; have hbI : Hid (wI.cell? ⟨w5.heap.size, 1, none⟩ = some (.bool false)) := (by obtain ⟨_, _, _, hp, _⟩ := hII; exact at_cell hp 1 _ rfl); clear hII hOI))
          go_wp2
          go_roundw
          case rel => exact ⟨j + 1, by omega, by go_num, by rw [HT.out]; exact HII.out, KI⟩
          case measure => simp [intOf]; omega
        · obtain rfl : j = k := by omega
          rw [Nat.sub_self, tlK] at HIn
          go_wp2_with fail
          refine (in_End w5.heap.size ([], false) _ HIn.out).mono ?_
          rintro e w' ⟨rfl, rfl⟩
          go_wp2_with fail
          refine (in_U_any w5.heap.size ([], false) _ HIn.out).mono ?_
          rintro e w7 ⟨rfl, hI7, hO7, _, _⟩
          have K7 := Kj.onl hO7 (by intro i hi; simp at hi; omega)
          rw [show stU ([], false) = (0, [], true) by decide] at hI7
          have HI7 := Lib.hid hI7
          obtain ⟨a7, n7, c7, hp7, _⟩ := hI7
          have hc7 := at_cell hp7 1 _ rfl
          clear hO7 hp7
          go_wp2_with fail
          refine (in_End w5.heap.size ([], true) _ HI7.out).mono ?_
          rintro e w' ⟨rfl, rfl⟩
          go_wp2
          go_ret
          exact ⟨rfl, K7⟩
set_option maxRecDepth 100000 in
set_option maxHeartbeats 1000000 in
theorem encRow_law (v0 v1 : Value) (x0 : List ByteArray) (x1 : List Int) (w : World) (w0 : RepV w (.sl .str) v0 x0) (w1 : RepV w (.sl (.int .i64)) v1 x1) :
    Calls Try.prog 5 #[v0, v1] w fun e w' => e = .returned (.bool true) ∧ Below w.heap.size w w' := by
  obtain ⟨a, m, c, rfl, hs0⟩ := repV_sl w0
  obtain ⟨b, k, d, rfl, hs1⟩ := repV_sl w1
  have hl := slT_str hs0
  obtain ⟨hn, hw⟩ := slT_int hs1
  have hmc := hl.2.1
  have hcm := hl.2.2.1
  have hkd := hn.2.1
  have hdm := hn.2.2.1
  unfold maxLen at hcm hdm
  by_cases h1 : 20 < (m : Int)
  · clear w0 w1 hs0 hs1 hl hn hw
    go_enter Try.func5, Try.ntmps5
    go_wp2_with (go_at_call 8; refine (awake3 _).mono ?_; rintro e w1 ⟨rfl, K1⟩)
    go_ret
    exact ⟨rfl, K1⟩
  · by_cases h2 : k = m
    · subst h2
      refine encRow_walk a b k c d x0 x1 w hl hn (fun i => ?_) (by omega)
      by_cases hi : i < x1.length
      · rw [List.getD_eq_getElem?_getD, List.getElem?_eq_getElem hi]
        exact wf_bd_i64 (hw _ (List.getElem_mem hi))
      · rw [List.getD_eq_getElem?_getD, List.getElem?_eq_none (by omega)]
        simp
    · have h1' : (m : Int) ≤ 20 := by omega
      have h2' : ((k : Int) == m) = false := by simp; omega
      have h2'' : ((k : Int) != m) = true := by simp; omega
      clear w0 w1 hs0 hs1 hl hn hw h2
      go_enter Try.func5, Try.ntmps5
      go_wp2_with (go_at_call 8; refine (awake3 _).mono ?_; rintro e w1 ⟨rfl, K1⟩)
      go_ret
      exact ⟨rfl, K1⟩
end Go.Proofs.Ytciolohapanpfab
