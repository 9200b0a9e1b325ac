/- slices.EqualFunc of records. -/
import Derived.Test.YtnnjflljlooifaaMsSame1
import Derived.Deep.CutRange
set_option linter.unusedVariables false
set_option linter.unusedSimpArgs false
namespace Go.Proofs.Ytnnjflljlooifaa
open Go.RowKit
set_option maxRecDepth 100000 in
set_option maxHeartbeats 2000000 in
theorem recs_equal (a : Option Addr) (n c : Nat) (b : Option Addr) (m d : Nat) (R R' : List RV) (L L' : List (Int × List Int)) (w : World) (hQ : SlQ w a n c R) (hQ' : SlQ w b m d R') (hB : BytesAt w R L) (hB' : BytesAt w R' L') (hz : ∀ l ∈ L, IsB l.2) (hz' : ∀ l ∈ L', IsB l.2) :
    Calls Try.prog 22 #[.slice a n c, .slice b m d, .func (Fn.func 19) #[] #[]] w fun e w' => e = .returned (.bool (decide (L = L'))) ∧ Kept w w' := by
  have hRl := hQ.1
  have hRl' := hQ'.1
  have hn : L.length = n := by rw [← hB.1]; exact hRl
  have hm : L'.length = m := by rw [← hB'.1]; exact hRl'
  have hnc := hQ.2.1
  have hcm := hQ.2.2.1
  have hnc2 := hQ'.2.1
  have hcm2 := hQ'.2.2.1
  unfold maxLen at hcm hcm2
  have HQ := Lib.hid hQ
  have HQ' := Lib.hid hQ'
  have HB := Lib.hid hB
  have HB' := Lib.hid hB'
  have HZ := Lib.hid hz
  have HZ' := Lib.hid hz'
  clear hQ hQ' hB hB' hz hz'
  by_cases hnm : n = m
  · subst hnm
    have tnm : (n != n) = false := by simp
    generalize hgg : decide (L = L') = gg
    have HG := Lib.hid hgg
    clear hgg
    go_enter Try.func22, Try.ntmps22
    go_wp2_with fail
    go_loopw [17] (fun i wr => ∃ j : Nat, i = .int .i64 j ∧ j ≤ n ∧ Hid (Kept w wr) ∧ Hid (∀ q, q < j → L[q]? = L'[q]?)) (fun i _ => n - (intOf i).toNat)
    case atStart => exact ⟨0, rfl, by omega, Kept.refl _, fun q h => by omega⟩
    case round =>
      obtain ⟨q, rfl, hq, HK, HE⟩ := hrel
      have KW : Kept w wr := HK.out
      by_cases hlt : q < n
      · have hlt' : (q : Int) < n := by omega
        obtain ⟨r, hr⟩ : ∃ r, R[q]? = some r := ⟨_, List.getElem?_eq_getElem (by omega)⟩
        obtain ⟨l, hll⟩ : ∃ l, L[q]? = some l := ⟨_, List.getElem?_eq_getElem (by omega)⟩
        obtain ⟨r', hr'⟩ : ∃ r, R'[q]? = some r := ⟨_, List.getElem?_eq_getElem (by omega)⟩
        obtain ⟨l', hll'⟩ : ∃ l, L'[q]? = some l := ⟨_, List.getElem?_eq_getElem (by omega)⟩
        obtain ⟨he, hs⟩ := HB.out.2 q r l hr hll
        obtain ⟨he', hs'⟩ := HB'.out.2 q r' l' hr' hll'
        have iz := HZ.out l (List.mem_of_getElem? hll)
        have iz' := HZ'.out l' (List.mem_of_getElem? hll')
        obtain ⟨rat, ra, rn, rc⟩ := r
        obtain ⟨lat, lz⟩ := l
        obtain ⟨rat', ra', rn', rc'⟩ := r'
        obtain ⟨lat', lz'⟩ := l'
        dsimp only at he hs he' hs' iz iz'
        subst he he'
        obtain ⟨-, b0, o0, rfl, h0, h1⟩ := HQ.out.2.2.2 q _ hr
        obtain ⟨-, b1, o1, rfl, g0, g1⟩ := HQ'.out.2.2.2 q _ hr'
        dsimp only at h0 h1 g0 g1
        have c0 := KW.cel h0
        have c1 := KW.cel h1
        have k0 : ∀ x : Obj, (wr.alloc x).cell? ⟨b1, o1 + q * 2, none⟩ = some (.int .u64 rat') := fun x => (KW.trans (kept_al wr x)).cel g0
        have k1 : ∀ x : Obj, (wr.alloc x).cell? ⟨b1, o1 + q * 2 + 1, none⟩ = some (.slice ra' rn' rc') := fun x => (KW.trans (kept_al wr x)).cel g1
        have K2 : Kept w ((wr.alloc (.cells #[.int .u64 rat, .slice ra rn rc] 58)).alloc (.cells #[.int .u64 rat', .slice ra' rn' rc'] 58)) := KW.trans ((kept_al _ _).trans (kept_al _ _))
        have HS := Lib.hid (fun V (kk : Kept w V) => rec_same rat rat' ra rn rc ra' rn' rc' lz lz' V (kk.sl hs) (kk.sl hs') iz iz')
        have n1 := heap_keep (heap_alloc_new wr (.cells #[.int .u64 rat, .slice ra rn rc] 58)) (.cells #[.int .u64 rat', .slice ra' rn' rc'] 58)
        have n2 := two_new' wr (.cells #[.int .u64 rat, .slice ra rn rc] 58) (.cells #[.int .u64 rat', .slice ra' rn' rc'] 58)
        obtain ⟨x0, x1⟩ := two_cells n1
        obtain ⟨y0, y1⟩ := two_cells n2
        have HLL : Hid (L[q]? = some (rat, lz) ∧ L'[q]? = some (rat', lz')) := ⟨hll, hll'⟩
        clear h0 h1 g0 g1 hs hs' iz iz' hr hll hr' hll' n1 n2
        have K2' := Lib.hid K2
        clear K2 KW
        by_cases hvv : rat = rat' ∧ lz = lz'
        · obtain ⟨rfl, rfl⟩ := hvv
          have HE2 : Hid (∀ i, i < q + 1 → L[i]? = L'[i]?) := fun i h => by
            rcases Nat.lt_or_ge i q with h' | h'
            · exact HE.out i h'
            · obtain rfl : i = q := by omega
              rw [HLL.out.1, HLL.out.2]
          rw [decide_eq_true (⟨rfl, rfl⟩ : rat = rat ∧ lz = lz)] at HS
          clear HE HLL
          go_wp2_with (go_at_call 19; refine (HS.out _ K2'.out).mono ?_; rintro E V ⟨rfl, J⟩)
          go_roundw
          case rel => exact ⟨q + 1, by go_num, by omega, K2'.out.trans J, HE2.out⟩
          case measure => simp [intOf]; omega
        · have hgf : gg = false := by
            rw [← HG.out]
            refine decide_eq_false fun h => hvv ?_
            have e := HLL.out.1
            rw [h, HLL.out.2] at e
            injection e with e
            injection e with e1 e2
            exact ⟨e1.symm, e2.symm⟩
          rw [decide_eq_false hvv] at HS
          subst hgf
          clear hvv HE HG HLL
          go_wp2_with (go_at_call 19; refine (HS.out _ K2'.out).mono ?_; rintro E V ⟨rfl, J⟩)
          exact bodyPost_ret (v := .bool false) (by simp [results, Try.results22, go_sem]) rfl ⟨rfl, K2'.out.trans J⟩
      · have hge : (n : Int) ≤ q := by omega
        have hgt : gg = true := by
          rw [← HG.out]
          exact decide_eq_true (take_eq (by omega) fun i hi => HE.out i (by omega))
        subst hgt
        clear HG HE
        go_wp2
        exact bodyPost_ret (v := .bool true) (by simp [results, Try.results22, go_sem]) rfl ⟨rfl, KW⟩
  · have hf : decide (L = L') = false := decide_eq_false fun h => hnm (by rw [← hn, ← hm, h])
    rw [hf]
    have tnm : ((n : Int) != m) = true := by simp; omega
    go_enter Try.func22, Try.ntmps22
    go_wp2
    exact bodyPost_ret (v := .bool false) (by simp [results, Try.results22, go_sem]) rfl ⟨rfl, Kept.refl _⟩
end Go.Proofs.Ytnnjflljlooifaa
