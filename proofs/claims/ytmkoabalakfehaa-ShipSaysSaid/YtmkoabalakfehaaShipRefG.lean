/- The document's own Good. -/
import Derived.Test.YtmkoabalakfehaaShipRefU
import Derived.Test.YtmkoabalakfehaaShipRef4
set_option linter.unusedVariables false
set_option linter.unusedSimpArgs false
namespace Go.Proofs.Ytmkoabalakfehaa
open Go.RowKit
def rowL (L : List (Int × List Int)) : List (Int × Nat) := L.map fun l => (l.1, l.2.length)
set_option maxHeartbeats 1000000 in
theorem ref_none (a : Option Addr) (n c : Nat) (E : Int) (w : World) : Calls Try.prog 48 #[.agg #[.slice a n c, .int .i64 E]] w fun e w' => e = .returned (.bool (decide (n = 0 ∧ E = 0))) ∧ Kept w w' := by
  have K := kept_al w (.cells #[.slice a n c, .int .i64 E] 52)
  obtain ⟨d0, d1⟩ := two_cells (heap_alloc_new w (.cells #[.slice a n c, .int .i64 E] 52))
  by_cases h1 : n = 0
  · by_cases h2 : E = 0
    · have hd : decide (n = 0 ∧ E = 0) = true := decide_eq_true ⟨h1, h2⟩
      subst h1 h2
      rw [hd]
      go_enter Try.func48, Try.ntmps48
      go_wp2
      go_ret
      exact ⟨rfl, K⟩
    · have hd : decide (n = 0 ∧ E = 0) = false := decide_eq_false fun h => h2 h.2
      have h2' : (E == 0) = false := by simp [h2]
      rw [hd]
      subst h1
      clear h2 hd
      go_enter Try.func48, Try.ntmps48
      go_wp2
      go_ret
      exact ⟨rfl, K⟩
  · have hd : decide (n = 0 ∧ E = 0) = false := decide_eq_false fun h => h1 h.1
    have h1' : ((n : Int) == 0) = false := by simp; omega
    rw [hd]
    clear h1 hd
    go_enter Try.func48, Try.ntmps48
    go_wp2
    go_ret
    exact ⟨rfl, K⟩
set_option maxRecDepth 100000 in
set_option maxHeartbeats 8000000 in
theorem ref_goodM (k f t e o p te : Int) (a : Option Addr) (n c : Nat) (a2 : Option Addr) (tn c2 : Nat) (L : List (Int × List Int)) (T : List Int) (w : World)
    (hL : SlRR w a n c L) (hT : Sl .u64 w a2 tn c2 T) (hW : IsW T) (hn : n ≤ 1000) (hLw : ∀ l ∈ L, 0 ≤ l.1 ∧ l.1 ≤ 18446744073709551615) :
    Calls Try.prog 36 #[.agg #[.int .i64 k, .int .i64 f, .int .i64 t, .int .i64 e, .int .i64 o, .int .i64 p, .slice a n c, .slice a2 tn c2, .int .i64 te]] w fun e' w' => e' = .returned (.bool (goodM ⟨k, f, t, e, o, p, none, n, 0, none, tn, 0, te⟩ (rowL L) T)) ∧ Kept w w' := by
  have K := kept_al w (.cells #[.int .i64 k, .int .i64 f, .int .i64 t, .int .i64 e, .int .i64 o, .int .i64 p, .slice a n c, .slice a2 tn c2, .int .i64 te] 54)
  have hh := heap_alloc_new w (.cells #[.int .i64 k, .int .i64 f, .int .i64 t, .int .i64 e, .int .i64 o, .int .i64 p, .slice a n c, .slice a2 tn c2, .int .i64 te] 54)
  have HC : Hid (∀ Z, Kept (w.alloc (.cells #[.int .i64 k, .int .i64 f, .int .i64 t, .int .i64 e, .int .i64 o, .int .i64 p, .slice a n c, .slice a2 tn c2, .int .i64 te] 54)) Z → Z.cell? ⟨w.heap.size, 0, none⟩ = some (.int .i64 k) ∧ Z.cell? ⟨w.heap.size, 1, none⟩ = some (.int .i64 f) ∧ Z.cell? ⟨w.heap.size, 2, none⟩ = some (.int .i64 t) ∧ Z.cell? ⟨w.heap.size, 3, none⟩ = some (.int .i64 e) ∧ Z.cell? ⟨w.heap.size, 4, none⟩ = some (.int .i64 o) ∧ Z.cell? ⟨w.heap.size, 5, none⟩ = some (.int .i64 p) ∧ Z.cell? ⟨w.heap.size, 6, none⟩ = some (.slice a n c) ∧ Z.cell? ⟨w.heap.size, 7, none⟩ = some (.slice a2 tn c2) ∧ Z.cell? ⟨w.heap.size, 8, none⟩ = some (.int .i64 te)) := fun Z kk => by
    obtain ⟨x0, x1, x2, x3, x4, x5, x6, x7, x8⟩ := nine_cells hh
    exact ⟨kk.cel x0, kk.cel x1, kk.cel x2, kk.cel x3, kk.cel x4, kk.cel x5, kk.cel x6, kk.cel x7, kk.cel x8⟩
  obtain ⟨x0, x1, x2, x3, x4, x5, x6, x7, x8⟩ := HC.out _ (Kept.refl _)
  have hl := hL.1
  have hnc := hL.2.1
  have hcm := hL.2.2.1
  have htc := hT.2.1
  have htm := hT.2.2.1
  unfold maxLen at hcm htm
  have HL := Lib.hid (hL.kept K)
  have HNo := Lib.hid (fun W => ref_none a2 tn c2 te W)
  have HGT := Lib.hid (fun W (kk : Kept w W) => ref_good a2 tn c2 T te W (kk.sl hT) hW)
  have HLw := Lib.hid hLw
  clear hL hT hW hLw hh
  obtain ⟨g, hg⟩ : ∃ g, goodM ⟨k, f, t, e, o, p, none, n, 0, none, tn, 0, te⟩ (rowL L) T = g := ⟨_, rfl⟩
  rw [hg]
  unfold goodM at hg
  dsimp only at hg
  by_cases h1 : k < 1
  · have hgf : g = false := by
      rw [← hg]
      rw [if_neg (by omega), if_neg (by omega), if_neg (by omega)]; simp
    subst hgf
    clear hg
    go_enter Try.func36, Try.ntmps36
    go_wp2
    exact bodyPost_ret (v := .bool false) (by simp [results, Try.results36, go_sem]) rfl ⟨rfl, K⟩
  by_cases h5 : 3 < k
  · have hgf : g = false := by
      rw [← hg]
      rw [if_neg (by omega), if_neg (by omega), if_neg (by omega)]; simp
    subst hgf
    clear hg
    go_enter Try.func36, Try.ntmps36
    go_wp2
    exact bodyPost_ret (v := .bool false) (by simp [results, Try.results36, go_sem]) rfl ⟨rfl, K⟩
  by_cases h9 : f < 0
  · have hgf : g = false := by
      rw [← hg]
      rw [show decide ((f = 0 ∧ t = 1) ∨ (f = 1 ∧ t = 0)) = false from decide_eq_false (by omega)]; rfl
    subst hgf
    clear hg
    go_enter Try.func36, Try.ntmps36
    go_wp2
    exact bodyPost_ret (v := .bool false) (by simp [results, Try.results36, go_sem]) rfl ⟨rfl, K⟩
  by_cases h13 : 1 < f
  · have hgf : g = false := by
      rw [← hg]
      rw [show decide ((f = 0 ∧ t = 1) ∨ (f = 1 ∧ t = 0)) = false from decide_eq_false (by omega)]; rfl
    subst hgf
    clear hg
    go_enter Try.func36, Try.ntmps36
    go_wp2
    exact bodyPost_ret (v := .bool false) (by simp [results, Try.results36, go_sem]) rfl ⟨rfl, K⟩
  have hf : f = 0 ∨ f = 1 := by omega
  have htf : ((t != 1 - f) = true ∧ ¬ ((f = 0 ∧ t = 1) ∨ (f = 1 ∧ t = 0))) ∨ ((t != 1 - f) = false ∧ ((f = 0 ∧ t = 1) ∨ (f = 1 ∧ t = 0))) := by
    by_cases ht : t = 1 - f
    · exact .inr ⟨by simp [ht], by omega⟩
    · exact .inl ⟨by simp [ht], by omega⟩
  rcases htf with ⟨ht, hnt⟩ | ⟨ht, hnt⟩
  · have hgf : g = false := by rw [← hg, decide_eq_false hnt]; rfl
    subst hgf
    clear hg hnt
    go_enter Try.func36, Try.ntmps36
    go_wp2
    exact bodyPost_ret (v := .bool false) (by simp [results, Try.results36, go_sem]) rfl ⟨rfl, K⟩
  rw [decide_eq_true hnt, Bool.true_and] at hg
  clear hnt
  by_cases he0 : e < 1
  · have hgf : g = false := by rw [← hg]; first | (rw [show decide (1 ≤ e ∧ e ≤ 1048575) = false from decide_eq_false (by omega)]; simp; done) | (rw [show decide (1 ≤ e ∧ e ≤ 1048575) = false from decide_eq_false (by omega)]; simp)
    subst hgf
    clear hg
    go_enter Try.func36, Try.ntmps36
    go_wp2
    exact bodyPost_ret (v := .bool false) (by simp [results, Try.results36, go_sem]) rfl ⟨rfl, K⟩
  by_cases he1 : 1048576 ≤ e
  · have hgf : g = false := by rw [← hg]; first | (rw [show decide (1 ≤ e ∧ e ≤ 1048575) = false from decide_eq_false (by omega)]; simp; done) | (rw [show decide (1 ≤ e ∧ e ≤ 1048575) = false from decide_eq_false (by omega)]; simp)
    subst hgf
    clear hg
    go_enter Try.func36, Try.ntmps36
    go_wp2
    exact bodyPost_ret (v := .bool false) (by simp [results, Try.results36, go_sem]) rfl ⟨rfl, K⟩
  by_cases ho0 : o < 0
  · have hgf : g = false := by rw [← hg]; first | (rw [show decide (0 ≤ o ∧ o ≤ 17592186044415) = false from decide_eq_false (by omega)]; simp; done) | (rw [show decide (0 ≤ o ∧ o ≤ 17592186044415) = false from decide_eq_false (by omega)]; simp)
    subst hgf
    clear hg
    go_enter Try.func36, Try.ntmps36
    go_wp2
    exact bodyPost_ret (v := .bool false) (by simp [results, Try.results36, go_sem]) rfl ⟨rfl, K⟩
  by_cases ho1 : 17592186044416 ≤ o
  · have hgf : g = false := by rw [← hg]; first | (rw [show decide (0 ≤ o ∧ o ≤ 17592186044415) = false from decide_eq_false (by omega)]; simp; done) | (rw [show decide (0 ≤ o ∧ o ≤ 17592186044415) = false from decide_eq_false (by omega)]; simp)
    subst hgf
    clear hg
    go_enter Try.func36, Try.ntmps36
    go_wp2
    exact bodyPost_ret (v := .bool false) (by simp [results, Try.results36, go_sem]) rfl ⟨rfl, K⟩
  rw [show decide (1 ≤ e ∧ e ≤ 1048575) = true from decide_eq_true (by omega), show decide (0 ≤ o ∧ o ≤ 17592186044415) = true from decide_eq_true (by omega), Bool.true_and, Bool.true_and] at hg
  have hk : k = 1 ∨ k = 2 ∨ k = 3 := by omega
  rcases hk with rfl | rfl | rfl
  · rw [if_pos rfl] at hg
    by_cases hp0 : p < 0
    · rw [show decide (0 ≤ p ∧ p ≤ e) = false from decide_eq_false (by omega), Bool.false_and] at hg
      subst hg
      go_enter Try.func36, Try.ntmps36
      go_wp2
      exact bodyPost_ret (v := .bool false) (by simp [results, Try.results36, go_sem]) rfl ⟨rfl, K⟩
    by_cases hp1 : e < p
    · rw [show decide (0 ≤ p ∧ p ≤ e) = false from decide_eq_false (by omega), Bool.false_and] at hg
      subst hg
      go_enter Try.func36, Try.ntmps36
      go_wp2
      exact bodyPost_ret (v := .bool false) (by simp [results, Try.results36, go_sem]) rfl ⟨rfl, K⟩
    rw [show decide (0 ≤ p ∧ p ≤ e) = true from decide_eq_true (by omega), Bool.true_and] at hg
    have hop : (o = 0 ∧ (p != 0) = true ∧ decide (0 < o ∨ p = 0) = false) ∨ (((o = 0 ∧ p = 0) ∨ 0 < o) ∧ decide (0 < o ∨ p = 0) = true) := by
      by_cases h1 : o = 0
      · by_cases h2 : p = 0
        · exact .inr ⟨.inl ⟨h1, h2⟩, decide_eq_true (.inr h2)⟩
        · exact .inl ⟨h1, by simp [h2], decide_eq_false (by omega)⟩
      · exact .inr ⟨.inr (by omega), decide_eq_true (.inl (by omega))⟩
    rcases hop with ⟨rfl, hp2, hd⟩ | ⟨hop, hd⟩
    · rw [hd] at hg
      have hgf : g = false := by rw [← hg]; simp
      subst hgf
      clear hg hd
      go_enter Try.func36, Try.ntmps36
      go_wp2
      exact bodyPost_ret (v := .bool false) (by simp [results, Try.results36, go_sem]) rfl ⟨rfl, K⟩
    rw [hd, Bool.true_and] at hg
    clear hd
    obtain ⟨bo, bp, hbo, hbp, hbb⟩ : ∃ bo bp, (o == 0) = bo ∧ (p != 0) = bp ∧ (bo = false ∨ (bo = true ∧ bp = false)) := by
      refine ⟨_, _, rfl, rfl, ?_⟩
      rcases hop with ⟨h1, h2⟩ | h1
      · exact .inr ⟨by simp [h1], by simp [h2]⟩
      · exact .inl (by simp; omega)
    by_cases hn8 : 8 < n
    · have hn8' : 8 < (n : Int) := by omega
      have hgf : g = false := by rw [← hg, show decide (n ≤ 8) = false from decide_eq_false (by omega)]; simp
      subst hgf
      clear hg hop
      rcases hbb with rfl | ⟨rfl, rfl⟩
      · go_enter Try.func36, Try.ntmps36
        go_wp2
        exact bodyPost_ret (v := .bool false) (by simp [results, Try.results36, go_sem]) rfl ⟨rfl, K⟩
      · go_enter Try.func36, Try.ntmps36
        go_wp2
        exact bodyPost_ret (v := .bool false) (by simp [results, Try.results36, go_sem]) rfl ⟨rfl, K⟩
    have hn8' : (n : Int) ≤ 8 := by omega
    rw [show decide (n ≤ 8) = true from decide_eq_true (by omega), Bool.and_true] at hg
    have HG := Lib.hid hg
    clear hg hop
    rcases hbb with rfl | ⟨rfl, rfl⟩
    all_goals
      go_enter Try.func36, Try.ntmps36
      go_wp2_with fail
      refine (HNo.out _).mono ?_
      rintro e' V ⟨rfl, J1⟩
      clear x0 x1 x2 x3 x4 x5 x6 x7 x8
      have HG2 := HG.out
      clear HG
      generalize decide (tn = 0 ∧ te = 0) = dn at *
      cases dn
      · rw [Bool.false_and] at HG2
        subst HG2
        go_wp2
        exact bodyPost_ret (v := .bool false) (by simp [results, Try.results36, go_sem]) rfl ⟨rfl, (K.trans J1)⟩
      rw [Bool.true_and] at HG2
      have HG := Lib.hid HG2
      clear HG2 HNo HGT
      obtain ⟨x0, x1, x2, x3, x4, x5, x6, x7, x8⟩ := HC.out _ J1
      go_wp2_with fail
      clear x0 x1 x2 x3 x4 x5 x6 x7 x8
      go_loopw [3, 4, 5] (fun la iv xv wr => ∃ (j : Nat) (la' : Int), la = .int .i64 la' ∧ iv = .int .i64 j ∧ j ≤ n ∧ 0 ≤ la' ∧ la' ≤ e ∧ Dr V wr ∧ Hid (RowF e o la' j ((rowL L).drop j) = g)) (fun _ iv _ _ => n - (intOf iv).toNat)
      case atStart => exact ⟨0, p, rfl, rfl, by omega, by omega, by omega, Dr.refl _, HG.out⟩
      case round =>
        obtain ⟨j, la', rfl, rfl, hj, hla0, hla1, hD, HR⟩ := hrel
        have KV : Kept V wr := (Kept.refl V).dr hD
        obtain ⟨x0, x1, x2, x3, x4, x5, x6, x7, x8⟩ := HC.out _ (J1.trans KV)
        by_cases hlt : j < n
        · have hlt' : (j : Int) < n := by omega
          obtain ⟨⟨s, bz⟩, hll⟩ : ∃ l, L[j]? = some l := ⟨_, List.getElem?_eq_getElem (by omega)⟩
          obtain ⟨b, ob, rfl, q0, q1⟩ := (HL.out.kept (J1.trans KV)).2.2.2 j _ hll
          dsimp only at q0 q1
          obtain ⟨s0, s1⟩ := HLw.out _ (List.mem_of_getElem? hll)
          dsimp only at s0 s1
          have hdr : Hid ((rowL L).drop j = (s, bz.length) :: (rowL L).drop (j + 1)) := by
            unfold Hid rowL
            obtain ⟨hjl, he⟩ := List.getElem?_eq_some_iff.1 hll
            rw [List.drop_eq_getElem_cons (by simpa using hjl), List.getElem_map, he]
          have hr := HR.out
          rw [hdr.out, RowF] at hr
          obtain ⟨sz, hsz⟩ : ∃ sz, strOf bz = sz := ⟨_, rfl⟩
          have hsl : sz.size = bz.length := by rw [← hsz, strOf_size]
          rw [← hsl] at hr
          rw [hsz] at q1
          have HR2 := Lib.hid hr
          have hcs : ((ofI s != o + j) = true ∧ g = false) ∨ ((ofI s != o + j) = false ∧ epI s < la' ∧ g = false) ∨ ((ofI s != o + j) = false ∧ la' ≤ epI s ∧ e < epI s ∧ g = false) ∨ ((ofI s != o + j) = false ∧ la' ≤ epI s ∧ epI s ≤ e ∧ 1024 < (sz.size : Int) ∧ g = false) ∨ ((ofI s != o + j) = false ∧ la' ≤ epI s ∧ epI s ≤ e ∧ (sz.size : Int) ≤ 1024 ∧ RowF e o (epI s) (j + 1) ((rowL L).drop (j + 1)) = g) := by
            by_cases h1 : ofI s = o + j
            · rw [decide_eq_true h1, Bool.true_and] at hr
              by_cases h2 : la' ≤ epI s
              · by_cases h3 : epI s ≤ e
                · rw [decide_eq_true ⟨h2, h3⟩, Bool.true_and] at hr
                  by_cases h4 : sz.size ≤ 1024
                  · rw [decide_eq_true h4, Bool.true_and] at hr
                    exact .inr (.inr (.inr (.inr ⟨by simp [h1], h2, h3, by omega, hr⟩)))
                  · rw [decide_eq_false h4, Bool.false_and] at hr
                    exact .inr (.inr (.inr (.inl ⟨by simp [h1], h2, h3, by omega, hr.symm⟩)))
                · rw [decide_eq_false (fun h => h3 h.2), Bool.false_and] at hr
                  exact .inr (.inr (.inl ⟨by simp [h1], h2, by omega, hr.symm⟩))
              · rw [decide_eq_false (fun h => h2 h.1), Bool.false_and] at hr
                exact .inr (.inl ⟨by simp [h1], by omega, hr.symm⟩)
            · rw [decide_eq_false h1, Bool.false_and] at hr
              exact .inl ⟨by simp [h1], hr.symm⟩
          have hep0 : 0 ≤ epI s ∧ epI s ≤ 1048575 := by unfold epI; omega
          clear hr HR HR2 hll hsz hsl hdr
          go_wp2_with fail
          refine (ref_epoch s _ s0 s1).mono ?_
          rintro e' w' ⟨rfl, rfl⟩
          rcases hcs with ⟨h1, rfl⟩ | ⟨h1, h2, rfl⟩ | ⟨h1, h2, h3, rfl⟩ | ⟨h1, h2, h3, h4, rfl⟩ | ⟨h1, h2, h3, h4, hr⟩
          · go_upto_region 15 with fail
            go_quiet ((go_at_call 35; exact Calls.quiet_of_same (unflip (ref_off _ _ (by omega) (by omega)))))
            go_wp2
            exact bodyPost_ret (v := .bool false) (by simp [results, Try.results36, go_sem]) rfl ⟨rfl, ((K.trans (J1.trans KV)).dr ((Dr.refl _).drewN _))⟩
          · have d2 : decide (epI s < la') = true := decide_eq_true h2
            go_upto_region 15 with fail
            go_quiet ((go_at_call 35; exact Calls.quiet_of_same (unflip (ref_off _ _ (by omega) (by omega)))))
            go_wp2
            exact bodyPost_ret (v := .bool false) (by simp [results, Try.results36, go_sem]) rfl ⟨rfl, ((K.trans (J1.trans KV)).dr ((Dr.refl _).drewN _))⟩
          · have d2 : decide (epI s < la') = false := decide_eq_false (by omega)
            have d3 : decide (e < epI s) = true := decide_eq_true h3
            go_upto_region 15 with fail
            go_quiet ((go_at_call 35; exact Calls.quiet_of_same (unflip (ref_off _ _ (by omega) (by omega)))))
            go_wp2
            exact bodyPost_ret (v := .bool false) (by simp [results, Try.results36, go_sem]) rfl ⟨rfl, ((K.trans (J1.trans KV)).dr ((Dr.refl _).drewN _))⟩
          · have d2 : decide (epI s < la') = false := decide_eq_false (by omega)
            have d3 : decide (e < epI s) = false := decide_eq_false (by omega)
            have d4 : decide (1024 < (sz.size : Int)) = true := decide_eq_true h4
            go_upto_region 15 with fail
            go_quiet ((go_at_call 35; exact Calls.quiet_of_same (unflip (ref_off _ _ (by omega) (by omega)))))
            go_wp2
            exact bodyPost_ret (v := .bool false) (by simp [results, Try.results36, go_sem]) rfl ⟨rfl, ((K.trans (J1.trans KV)).dr ((Dr.refl _).drewN _))⟩
          · have HR := Lib.hid hr
            clear hr
            have d2 : decide (epI s < la') = false := decide_eq_false (by omega)
            have d3 : decide (e < epI s) = false := decide_eq_false (by omega)
            have d4 : decide (1024 < (sz.size : Int)) = false := decide_eq_false (by omega)
            go_upto_region 15 with fail
            go_quiet ((go_at_call 35; exact Calls.quiet_of_same (unflip (ref_off _ _ (by omega) (by omega)))))
            go_wp2
            go_roundw
            case rel => exact ⟨j + 1, epI s, rfl, by go_num, by omega, by omega, by omega, hD.trans ((Dr.refl _).drewN _), HR.out⟩
            case measure => simp [intOf]; omega
        · have hge : (n : Int) ≤ j := by omega
          have hr := HR.out
          rw [List.drop_of_length_le (by simp [rowL]; omega), RowF] at hr
          subst hr
          clear HR HG
          go_wp2
          exact bodyPost_ret (v := .bool true) (by simp [results, Try.results36, go_sem]) rfl ⟨rfl, (K.trans (J1.trans KV))⟩
  · rw [if_neg (by decide), if_pos rfl] at hg
    by_cases hp : p = 0
    · subst hp
      rw [show decide ((0 : Int) ≤ 0 ∧ 0 ≤ e) = true from decide_eq_true (by omega), Bool.true_and, show decide ((0 : Int) = 0) = true from rfl, Bool.true_and] at hg
      by_cases hn0 : n = 0
      · subst hn0
        rw [show decide (0 = 0) = true from rfl, Bool.and_true] at hg
        rw [hg] at HNo
        clear hg
        go_enter Try.func36, Try.ntmps36
        go_wp2_with fail
        refine (HNo.out _).mono ?_
        rintro e' V ⟨rfl, J1⟩
        go_wp2
        exact bodyPost_ret (v := .bool g) (by simp [results, Try.results36, go_sem]) rfl ⟨rfl, (K.trans J1)⟩
      · have hn0' : ((n : Int) == 0) = false := by simp; omega
        have hgf : g = false := by rw [← hg, show decide (n = 0) = false from decide_eq_false hn0]; simp
        subst hgf
        clear hg hn0
        go_enter Try.func36, Try.ntmps36
        go_wp2
        exact bodyPost_ret (v := .bool false) (by simp [results, Try.results36, go_sem]) rfl ⟨rfl, K⟩
    · have hp' : (p == 0) = false := by simp [hp]
      have hgf : g = false := by rw [← hg, show decide (p = 0) = false from decide_eq_false hp]; simp
      subst hgf
      clear hg hp
      go_enter Try.func36, Try.ntmps36
      go_wp2
      exact bodyPost_ret (v := .bool false) (by simp [results, Try.results36, go_sem]) rfl ⟨rfl, K⟩
  · rw [if_neg (by decide), if_neg (by decide), if_pos rfl] at hg
    by_cases ho : o = 0
    · subst ho
      rw [show decide ((0 : Int) = 0) = true from rfl, Bool.true_and] at hg
      by_cases hp : p = 0
      · subst hp
        rw [show decide ((0 : Int) ≤ 0 ∧ 0 ≤ e) = true from decide_eq_true (by omega), Bool.true_and, show decide ((0 : Int) = 0) = true from rfl, Bool.true_and] at hg
        by_cases hn0 : n = 0
        · subst hn0
          rw [show decide (0 = 0) = true from rfl, Bool.true_and] at hg
          have HG := Lib.hid hg
          clear hg
          go_enter Try.func36, Try.ntmps36
          go_wp2_with fail
          refine (HGT.out _ K).mono ?_
          rintro e' V ⟨rfl, J1⟩
          clear x0 x1 x2 x3 x4 x5 x6 x7 x8
          have HG2 := HG.out
          clear HG HGT HNo
          generalize decide (GoodT T te) = dn at *
          obtain ⟨x0, x1, x2, x3, x4, x5, x6, x7, x8⟩ := HC.out _ J1
          cases dn
          · rw [Bool.false_and] at HG2
            subst HG2
            go_wp2
            exact bodyPost_ret (v := .bool false) (by simp [results, Try.results36, go_sem]) rfl ⟨rfl, (K.trans J1)⟩
          · rw [Bool.true_and] at HG2
            by_cases h64 : tn ≤ 64
            · have h64' : (tn : Int) ≤ 64 := by omega
              rw [decide_eq_true h64] at HG2
              subst HG2
              go_wp2
              exact bodyPost_ret (v := .bool true) (by simp [results, Try.results36, go_sem]) rfl ⟨rfl, (K.trans J1)⟩
            · have h64' : decide ((tn : Int) ≤ 64) = false := decide_eq_false (by omega)
              rw [decide_eq_false h64] at HG2
              subst HG2
              go_wp2
              exact bodyPost_ret (v := .bool false) (by simp [results, Try.results36, go_sem]) rfl ⟨rfl, (K.trans J1)⟩
        · have hn0' : ((n : Int) == 0) = false := by simp; omega
          have hgf : g = false := by rw [← hg, show decide (n = 0) = false from decide_eq_false hn0]; simp
          subst hgf
          clear hg hn0
          go_enter Try.func36, Try.ntmps36
          go_wp2
          exact bodyPost_ret (v := .bool false) (by simp [results, Try.results36, go_sem]) rfl ⟨rfl, K⟩
      · have hp' : (p == 0) = false := by simp [hp]
        have hgf : g = false := by rw [← hg, show decide (p = 0) = false from decide_eq_false hp]; simp
        subst hgf
        clear hg hp
        go_enter Try.func36, Try.ntmps36
        go_wp2
        exact bodyPost_ret (v := .bool false) (by simp [results, Try.results36, go_sem]) rfl ⟨rfl, K⟩
    · have ho' : (o == 0) = false := by simp [ho]
      have hgf : g = false := by rw [← hg, show decide (o = 0) = false from decide_eq_false ho]; simp
      subst hgf
      clear hg ho
      go_enter Try.func36, Try.ntmps36
      go_wp2
      exact bodyPost_ret (v := .bool false) (by simp [results, Try.results36, go_sem]) rfl ⟨rfl, K⟩
end Go.Proofs.Ytmkoabalakfehaa
