/- Graphs, the document's: Short. -/
import Derived.Test.YtboohafebkkdbaaGrR5
import Derived.Test.YtboohafebkkdbaaGrOwn
set_option linter.unusedVariables false
set_option linter.unusedSimpArgs false
namespace Go.Proofs.Ytboohafebkkdbaa
open Go.RowKit
theorem stpV_way {N : Int} {E : List Ed} (hg : goodG N E = true) (a : Int) (i : Nat) : 0 < stpV N E a i ↔ Way E a (i : Int) := by
  rw [← farL_way hg a (i : Int) (by omega)]
  have := dst_bd hg a (i : Int)
  unfold stpV
  unfold dst at this ⊢
  split <;> omega
theorem ex_succ {P : Nat → Prop} (q : Nat) : (∃ n, n < q + 1 ∧ P n) ↔ (∃ n, n < q ∧ P n) ∨ P q := by
  constructor
  · rintro ⟨n, h1, h2⟩
    by_cases h : n = q
    · subst h; exact .inr h2
    · exact .inl ⟨n, by omega, h2⟩
  · rintro (⟨n, h1, h2⟩ | h)
    · exact ⟨n, by omega, h2⟩
    · exact ⟨q, by omega, h⟩
theorem shortL_cyc {N : Int} {E : List Ed} (h : cyclicB N E = true) : shortL N E = E := by
  unfold shortL
  rw [List.filter_eq_self]
  intro e _
  rw [h]; rfl
set_option maxRecDepth 100000 in
set_option maxHeartbeats 16000000 in
theorem r_short {w : World} {s : Option Addr} {m c : Nat} {E : List Ed} (N : Int) (hE : SlE w s m c E) (hm : m ≤ 900) :
    Calls Try.prog 18 #[.agg #[.int .i64 N, .slice s m c]] w fun e w' => ∃ (a : Option Addr) (k c' : Nat), e = .returned (.agg #[.int .i64 N, .slice a k c']) ∧ SlE w' a k c' (shortL N E) ∧ Kept w w' ∧ k ≤ m := by
  have hl := hE.1
  have hnc := hE.2.1
  have K0 : Kept w ((w.alloc (.cells #[.int .i64 N, .slice s m c] 40)).alloc (.cells #[.int .i64 0, .slice none 0 0] 40)) := (kept_al w _).trans (kept_al _ _)
  have h0 : ((w.alloc (.cells #[.int .i64 N, .slice s m c] 40)).alloc (.cells #[.int .i64 0, .slice none 0 0] 40)).heap[w.heap.size]? = some (.cells #[.int .i64 N, .slice s m c] 40 (0, 0)) := (kept_al _ _).only.heap (heap_alloc_new w _) (by simp)
  have h1 : ((w.alloc (.cells #[.int .i64 N, .slice s m c] 40)).alloc (.cells #[.int .i64 0, .slice none 0 0] 40)).heap[w.heap.size + 1]? = some (.cells #[.int .i64 0, .slice none 0 0] 40 (0, 0)) := by
    have := heap_alloc_new (w.alloc (.cells #[.int .i64 N, .slice s m c] 40)) (.cells #[.int .i64 0, .slice none 0 0] 40)
    simpa using this
  have HE := Lib.hid hE
  have H0 := Lib.hid h0
  have H1 := Lib.hid h1
  have HK0 := Lib.hid K0
  clear hE h0 h1 K0
  go_enter Try.func18, Try.ntmps18
  go_upto_region 1 with fail
  generalize World.alloc (World.alloc w _) _ = X at *
  generalize hbx : w.heap.size = bx at *
  have b0 := at_cell H0.out 0 _ rfl
  have b1 := at_cell H0.out 1 _ rfl
  have HGd := Lib.hid (r_good N (HE.out.kept HK0.out) hm)
  have hXb := lt_heap H1.out
  have hend : cyclicB N E = true → ∀ V, Kept X V → ∃ (a : Option Addr) (k c' : Nat), (Value.agg #[.int .i64 N, .slice s m c]) = .agg #[.int .i64 N, .slice a k c'] ∧ SlE ((V.setCell ⟨bx + 1, 0, none⟩ (.int .i64 N)).setCell ⟨bx + 1, 1, none⟩ (.slice s m c)) a k c' (shortL N E) ∧ Kept w ((V.setCell ⟨bx + 1, 0, none⟩ (.int .i64 N)).setCell ⟨bx + 1, 1, none⟩ (.slice s m c)) ∧ k ≤ m := fun hcy V hV => by
    have o1 : Only [bx + 1] V (V.setCell ⟨bx + 1, 0, none⟩ (.int .i64 N)) := (Only.refl _ _).setCell (fun _ => by simp) _
    have o2 : Only [bx + 1] V ((V.setCell ⟨bx + 1, 0, none⟩ (.int .i64 N)).setCell ⟨bx + 1, 1, none⟩ (.slice s m c)) := o1.setCell (fun _ => by simp) _
    have hk : Kept w ((V.setCell ⟨bx + 1, 0, none⟩ (.int .i64 N)).setCell ⟨bx + 1, 1, none⟩ (.slice s m c)) := (HK0.out.trans hV).onl o2 (by intro q hq; have := List.mem_singleton.1 hq; omega)
    exact ⟨s, m, c, rfl, by rw [shortL_cyc hcy]; exact HE.out.kept hk, hk, Nat.le_refl _⟩
  have HEnd := Lib.hid hend
  clear hend
  go_wp2_with fail
  refine HGd.out.mono ?_
  rintro E1 V1 ⟨rfl, hK1⟩
  replace b0 := hK1.cel b0
  replace b1 := hK1.cel b1
  have HK1 := Lib.hid hK1
  clear hK1 HGd
  cases hg : goodG N E with
  | false =>
    have hcy : cyclicB N E = true := by unfold cyclicB; rw [hg]; rfl
    have HF := Lib.hid (HEnd.out hcy V1 HK1.out)
    have r1 := HK1.out.only.heap H1.out (by simp)
    have f2 := one_free r1 0
    have f3 := one_free r1 1
    have e0 := at_cell r1 0 _ rfl
    have e1 := at_cell r1 1 _ rfl
    clear hg hcy
    go_wp2
    have d := at_set (at_set r1 0 (.int .i64 N)) 1 (.slice s m c)
    have d0 := at_cell d 0 _ rfl
    have d1 := at_cell d 1 _ rfl
    exact bodyPost_ret (v := .agg #[.int .i64 N, .slice s m c]) (by simp [results, Try.results18, go_sem, d0, d1]) rfl (by obtain ⟨a, k, c', h, h2⟩ := HF.out; exact ⟨a, k, c', by rw [h], h2⟩)
  | true =>
    have HG : Hid (goodG N E = true) := hg
    have hN := good_N hg
    clear hg
    have HCy := Lib.hid (r_cycle N (HE.out.kept (HK0.out.trans HK1.out)) hm)
    go_wp2_with fail
    refine HCy.out.mono ?_
    rintro E2 V2 ⟨ca, ck, cc, rfl, hSc, hK2, hck, -⟩
    have hcl := hSc.1
    have HCl := Lib.hid hcl
    replace b0 := hK2.cel b0
    replace b1 := hK2.cel b1
    have HK2 := Lib.hid (HK1.out.trans hK2)
    clear hK2 HCy hSc hcl
    by_cases hc0 : 0 < ck
    · have g2 : (0 : Int) < ck := by omega
      have hcy : cyclicB N E = true := by
        unfold cyclicB
        rw [HG.out, HCl.out]
        simp [hc0]
      have HF := Lib.hid (HEnd.out hcy V2 HK2.out)
      have r1 := HK2.out.only.heap H1.out (by simp)
      have f2 := one_free r1 0
      have f3 := one_free r1 1
      have e0 := at_cell r1 0 _ rfl
      have e1 := at_cell r1 1 _ rfl
      clear hcy
      go_wp2
      have d := at_set (at_set r1 0 (.int .i64 N)) 1 (.slice s m c)
      have d0 := at_cell d 0 _ rfl
      have d1 := at_cell d 1 _ rfl
      exact bodyPost_ret (v := .agg #[.int .i64 N, .slice s m c]) (by simp [results, Try.results18, go_sem, d0, d1]) rfl (by obtain ⟨a, k, c', h, h2⟩ := HF.out; exact ⟨a, k, c', by rw [h], h2⟩)
    · obtain rfl : ck = 0 := by omega
      have HCN : Hid (cyclicB N E = false) := by
        unfold Hid cyclicB
        rw [HG.out, HCl.out]
        simp
      obtain ⟨k0, rfl⟩ : ∃ k0 : Nat, N = k0 := ⟨N.toNat, by omega⟩
      have KA := kept_al V2 (.cells #[.int .i64 (k0 : Nat), .slice none 0 0] 40)
      have hR := heap_alloc_new V2 (.cells #[.int .i64 (k0 : Nat), .slice none 0 0] 40)
      have hwz := HK2.out.size
      have H0A := Lib.hid (KA.only.heap (HK2.out.only.heap H0.out (by simp)) (by simp))
      have H1A := Lib.hid (KA.only.heap (HK2.out.only.heap H1.out (by simp)) (by simp))
      have HKA := Lib.hid ((HK0.out.trans HK2.out).trans KA)
      have hz0 := at_cell (heap_alloc_new V2 (.cells #[.int .i64 0, .slice none 0 0] 40)) 0 _ rfl
      clear KA HEnd hc0
      obtain ⟨bs, hbs⟩ : ∃ bs, V2.heap.size = bs := ⟨_, rfl⟩
      rw [hbs] at hR
      have HR := Lib.hid hR
      clear hR
      go_wp2_with fail
      generalize World.alloc V2 _ = A at *
      have hAz := lt_heap HR.out
      have hbb : bx + 1 < bs := by omega
      clear hz0 b0 b1
      go_loopw [4] (fun v4 wr => ∃ (j r : Nat) (a' : Option Addr) (c' : Nat) (g : Option Nat), v4 = .int .i64 (j : Nat) ∧ j ≤ m ∧ r ≤ j ∧ Hid (wr.heap[bx]? = some (.cells #[.int .i64 (k0 : Nat), .slice s m c] 40 (0, 0))) ∧ Hid (wr.heap[bx + 1]? = some (.cells #[.int .i64 0, .slice none 0 0] 40 (0, 0))) ∧ Hid (wr.heap[bs]? = some (.cells #[.int .i64 (k0 : Nat), .slice a' r c'] 40 (0, 0))) ∧ Hid (App wr 34 2 (.slice a' r c') r g (edVs ((E.take j).filter fun e => cyclicB k0 E || !aroundB k0 E e))) ∧ Kept w wr ∧ Hid (∀ k, g = some k → bs < k)) (fun v4 _ => m - (intOf v4).toNat)
      case atStart => exact ⟨0, 0, none, 0, none, rfl, by omega, by omega, H0A.out, H1A.out, HR.out, app_nil _ _ _, HKA.out, by intro k hk; cases hk⟩
      case round =>
        obtain ⟨j, r, a', c', g, rfl, hj, hr, HX0, HX1, HX2, HA, KW, HGb⟩ := hrel
        have x1 := at_cell HX0.out 1 (.slice s m c) rfl
        by_cases hlt : j < m
        · have hlt' : (j : Int) < m := by omega
          obtain ⟨⟨xa, xb⟩, hx⟩ : ∃ x, E[j]? = some x := ⟨_, List.getElem?_eq_getElem (by omega)⟩
          have hrn := good_mem HG.out (List.mem_of_getElem? hx)
          dsimp only at hrn
          obtain ⟨yn, rfl⟩ : ∃ yn : Nat, xb = yn := ⟨xb.toNat, by omega⟩
          obtain ⟨ba, o, rfl, q0, q1⟩ := (HE.out.kept KW).at hx
          dsimp only at q0 q1
          have HX := Lib.hid hx
          have hyn : yn < k0 := by omega
          have HFs := Lib.hid (filt_step (fun e => cyclicB k0 E || !aroundB k0 E e) E j _ hx)
          clear hx hrn
          go_wp2_with fail
          go_quiet (fail)
          go_wp2_with fail
          have HKY := Lib.hid ((Kept.refl wr).dr ((Dr.refl wr).drewN nq))
          clear q0 q1 x1
          generalize wr.drewN nq = Y at *
          go_loopw [7, 8] (fun v7 v8 wx => ∃ (o : Bool) (q : Nat), v7 = .bool o ∧ v8 = .int .i64 (q : Nat) ∧ q ≤ k0 ∧ Hid (o = true ↔ ∃ n : Nat, n < q ∧ hasE E (xa, (n : Int)) = true ∧ n ≠ yn ∧ 0 < stpV k0 E (n : Int) yn) ∧ Hid (Kept wr wx)) (fun _ v8 _ => k0 - (intOf v8).toNat)
          case atStart => exact ⟨false, 0, rfl, rfl, by omega, ⟨fun h => (by cases h), fun ⟨n, h, _⟩ => by omega⟩, HKY.out⟩
          case round =>
            obtain ⟨o', q, rfl, rfl, hq, HI, HKq⟩ := hrel
            have HXq := Lib.hid (HKq.out.only.heap HX0.out (by simp))
            have c0 := at_cell HXq.out 0 (.int .i64 (k0 : Nat)) rfl
            by_cases hlq : q < k0
            · have hlq' : (q : Int) < k0 := by omega
              have HEx := Lib.hid (ex_succ (P := fun n : Nat => hasE E (xa, (n : Int)) = true ∧ n ≠ yn ∧ 0 < stpV k0 E (n : Int) yn) q)
              cases o' with
              | true =>
                have HI2 : Hid (true = true ↔ ∃ n : Nat, n < q + 1 ∧ hasE E (xa, (n : Int)) = true ∧ n ≠ yn ∧ 0 < stpV k0 E (n : Int) yn) := ⟨fun _ => HEx.out.2 (.inl (HI.out.1 rfl)), fun _ => rfl⟩
                clear HI
                go_wp2_with fail
                go_roundw
                case rel => exact ⟨true, q + 1, rfl, by go_num, by omega, HI2, HKq.out⟩
                case measure => simp [intOf]; omega
              | false =>
                have HNo : Hid (¬ ∃ n : Nat, n < q ∧ hasE E (xa, (n : Int)) = true ∧ n ≠ yn ∧ 0 < stpV k0 E (n : Int) yn) := fun h => by have := HI.out.2 h; cases this
                have hoff : ¬ (hasE E (xa, (q : Int)) = true ∧ q ≠ yn ∧ 0 < stpV k0 E (q : Int) yn) → Hid (false = true ↔ ∃ n : Nat, n < q + 1 ∧ hasE E (xa, (n : Int)) = true ∧ n ≠ yn ∧ 0 < stpV k0 E (n : Int) yn) := fun hn => ⟨fun h => (by cases h), fun h => (HEx.out.1 h).elim (fun h => absurd h HNo.out) (fun h => absurd h hn)⟩
                have HOff := Lib.hid hoff
                clear hoff HI
                by_cases hqy : q = yn
                · have f1 : ((q : Int) != yn) = false := by simp [hqy]
                  have HI2 := HOff.out (fun h => h.2.1 hqy)
                  have HI2 := Lib.hid HI2
                  clear hqy
                  go_wp2_with fail
                  go_roundw
                  case rel => exact ⟨false, q + 1, rfl, by go_num, by omega, HI2.out, HKq.out⟩
                  case measure => simp [intOf]; omega
                · have f1 : ((q : Int) != yn) = true := by simp; omega
                  have HQy : Hid (q ≠ yn) := hqy
                  have HHs := Lib.hid (r_has (k0 : Int) xa (q : Int) (HE.out.kept (KW.trans HKq.out)) hm)
                  have c1 := at_cell HXq.out 1 _ rfl
                  clear hqy
                  go_wp2_with fail
                  refine HHs.out.mono ?_
                  rintro E3 V3 ⟨rfl, hK3⟩
                  have HK3 := Lib.hid (HKq.out.trans hK3)
                  replace c0 := hK3.cel c0
                  replace c1 := hK3.cel c1
                  clear hK3 HHs
                  cases hcc : hasE E (xa, (q : Int)) with
                  | false =>
                    have HI2 := HOff.out (fun h => by rw [hcc] at h; cases h.1)
                    have HI2 := Lib.hid HI2
                    clear hcc
                    go_wp2_with fail
                    go_roundw
                    case rel => exact ⟨false, q + 1, rfl, by go_num, by omega, HI2.out, HK3.out⟩
                    case measure => simp [intOf]; omega
                  | true =>
                    have HStp := Lib.hid (r_steps k0 (q : Int) (HE.out.kept (KW.trans HK3.out)) hm HG.out)
                    have HCc := Lib.hid hcc
                    clear hcc
                    go_wp2_with fail
                    refine HStp.out.mono ?_
                    rintro E4 V4 ⟨fa, fc, rfl, hSf, hK4⟩
                    obtain ⟨bf, of', kv', rfl, hkc, hkv⟩ := hSf.at yn hyn
                    have hfc := hSf.2.1
                    have hkv2 : kv' = stpV k0 E (q : Int) yn := by rw [hkv.out, stpL_at (by simpa using hyn)]
                    have HKV := Lib.hid hkv2
                    have HK4 := Lib.hid (HK3.out.trans hK4)
                    clear hSf hkv hkv2 hK4 HStp c0 c1
                    by_cases hp : 0 < kv'
                    · have HI2 : Hid (true = true ↔ ∃ n : Nat, n < q + 1 ∧ hasE E (xa, (n : Int)) = true ∧ n ≠ yn ∧ 0 < stpV k0 E (n : Int) yn) := ⟨fun _ => HEx.out.2 (.inr ⟨HCc.out, HQy.out, by rw [← HKV.out]; exact hp⟩), fun _ => rfl⟩
                      go_wp2_with fail
                      go_roundw
                      case rel => exact ⟨true, q + 1, rfl, by go_num, by omega, ⟨fun _ => HI2.out.1 (by trivial), fun _ => rfl⟩, HK4.out⟩
                      case measure => simp [intOf]; omega
                    · have HI2 := HOff.out (fun h => hp (by rw [HKV.out]; exact h.2.2))
                      have HI2 := Lib.hid HI2
                      go_wp2_with fail
                      go_roundw
                      case rel => exact ⟨false, q + 1, by congr 1; exact decide_eq_false (by omega), by go_num, by omega, HI2.out, HK4.out⟩
                      case measure => simp [intOf]; omega
            · obtain rfl : q = k0 := by omega
              have HAr : Hid (o' = aroundB q E (xa, (yn : Int))) := by
                unfold Hid
                rw [Bool.eq_iff_iff, HI.out, around_iff HG.out xa yn (by omega)]
                constructor
                · rintro ⟨n, h1, h2, h3, h4⟩
                  exact ⟨n, hasE_iff.1 h2, by omega, (stpV_way HG.out _ _).1 h4⟩
                · rintro ⟨n, h1, h2, h3⟩
                  have := (good_mem HG.out h1).2.1
                  dsimp only at this
                  obtain ⟨n', rfl⟩ : ∃ n' : Nat, n = n' := ⟨n.toNat, by omega⟩
                  exact ⟨n', by omega, hasE_iff.2 h1, by omega, (stpV_way HG.out _ _).2 h3⟩
              have HX1q := Lib.hid (HKq.out.only.heap HX1.out (by simp))
              have HX2q := Lib.hid (HKq.out.only.heap HX2.out (by simp))
              have HAq := Lib.hid (HKq.out.only.app HA.out (by simp))
              have HKWq := Lib.hid (KW.trans HKq.out)
              clear HI HKq
              cases o' with
              | true =>
                have HF1 : Hid ((E.take (j + 1)).filter (fun e => cyclicB q E || !aroundB q E e) = (E.take j).filter (fun e => cyclicB q E || !aroundB q E e)) := by unfold Hid; rw [HFs.out, if_neg (by rw [HCN.out, ← HAr.out]; simp)]
                go_wp2_with fail
                go_roundw
                case rel => exact ⟨j + 1, r, a', c', g, by go_num, by omega, by omega, HXq.out, HX1q.out, HX2q.out, by rw [HF1.out]; exact HAq.out, HKWq.out, HGb⟩
                case measure => simp [intOf]; omega
              | false =>
                have HT : Hid (edVs ((E.take (j + 1)).filter (fun e => cyclicB q E || !aroundB q E e)) = edVs ((E.take j).filter (fun e => cyclicB q E || !aroundB q E e)) ++ [.int .i64 xa, .int .i64 (yn : Nat)]) := by
                  unfold Hid
                  rw [HFs.out, if_pos (by rw [HCN.out, ← HAr.out]; rfl)]
                  exact edVs_snoc _ _ _
                obtain ⟨b2, o2, hbo, q0, q1⟩ := (HE.out.kept HKWq.out).at HX.out
                injection hbo with hbo
                injection hbo with e1 e2
                subst e1 e2
                dsimp only at q0 q1
                have x1 := at_cell HXq.out 1 _ rfl
                have y1 := at_cell HX2q.out 1 _ rfl
                have hsz := lt_heap HX2q.out
                have HAB : Hid (App ((wr.drewN 1).alloc (.cells #[.int .i64 xa, .int .i64 (yn : Nat)] 34)) 34 2 (.slice a' r c') r g (edVs ((E.take j).filter (fun e => cyclicB q E || !aroundB q E e)))) := (((Only.refl [] wr).drewN 1).alloc _).app HAq.out (by simp)
                have hgq : bs ∉ g.toList := by intro hmm; have := HGb.out _ (by simpa using hmm); omega
                clear HAr HFs
                go_wp2_with fail
                go_region_law (refine step_app rfl (.tmp 71) (.tmp 77) 38 38 rfl elemA2 _ r _ _ rfl HAB.out _ 1 _ rfl (src_block Try.underlying38 (heap_alloc_new (wr.drewN 1) _) 1 1 rfl (by simp [Value.oneCell'])) (by omega) (by unfold maxLen; omega) ?_; intro a5 c5 g5 w5 hA5 hO5 hG5; have q2 := hO5.heap (heap_keep (w := wr.drewN 1) HX2q.out _) hgq; have q3 := at_cell q2 1 _ rfl; have q4 := one_free q2 1)
                all_goals (
                  go_wp2
                  go_roundw
                  case rel =>
                    have hn0 : bx ∉ g.toList := by intro hmm; have := HGb.out _ (by simpa using hmm); omega
                    have hn1 : bx + 1 ∉ g.toList := by intro hmm; have := HGb.out _ (by simpa using hmm); omega
                    have k0' := hO5.heap (heap_keep (w := wr.drewN 1) HXq.out _) hn0
                    have k1' := hO5.heap (heap_keep (w := wr.drewN 1) HX1q.out _) hn1
                    have hg5 : ∀ k, g5 = some k → bs < k := by
                      rcases hG5 with rfl | rfl
                      · exact HGb.out
                      · intro q hq
                        injection hq with hq
                        simp at hq
                        omega
                    have KAq : Kept w ((wr.drewN 1).alloc (.cells #[.int .i64 xa, .int .i64 (yn : Nat)] 34)) := (HKWq.out.dr ⟨1, rfl⟩).trans (kept_al _ _)
                    have K5 : Kept w w5 := KAq.onl hO5 (by intro q hq; have := HGb.out q (by simpa using hq); omega)
                    refine ⟨j + 1, r + 1, a5, c5, g5, by go_num, by omega, by omega, ((Only.refl [bs] w5).setCell (fun _ => by simp) _).heap k0' (by simp; omega), ((Only.refl [bs] w5).setCell (fun _ => by simp) _).heap k1' (by simp; omega), at_set q2 1 _, ?_, K5.onl ((Only.refl [bs] w5).setCell (fun _ => by simp) _) (by intro q hq; have := List.mem_singleton.1 hq; omega), hg5⟩
                    unfold Hid
                    rw [HT.out]
                    exact ((Only.refl [bs] w5).setCell (fun _ => by simp) _).app hA5 (by intro k hk hmm; have := hg5 k hk; simp at hmm; omega)
                  case measure => simp [intOf]; omega)
        · have hge : (m : Int) ≤ j := by omega
          obtain rfl : j = m := by omega
          have e0 := at_cell HX1.out 0 _ rfl
          have e1 := at_cell HX1.out 1 _ rfl
          have y0 := at_cell HX2.out 0 _ rfl
          have y1 := at_cell HX2.out 1 _ rfl
          have f2 := one_free HX1.out 0
          have f3 := one_free HX1.out 1
          have hA2 := HA.out
          rw [List.take_of_length_le (by omega)] at hA2
          go_wp2
          have o1 : Only [bx + 1] wr (wr.setCell ⟨bx + 1, 0, none⟩ (.int .i64 (k0 : Nat))) := (Only.refl _ _).setCell (fun _ => by simp) _
          have o2 : Only [bx + 1] wr ((wr.setCell ⟨bx + 1, 0, none⟩ (.int .i64 (k0 : Nat))).setCell ⟨bx + 1, 1, none⟩ (.slice a' r c')) := o1.setCell (fun _ => by simp) _
          have d := at_set (at_set HX1.out 0 (.int .i64 (k0 : Nat))) 1 (.slice a' r c')
          have d0 := at_cell d 0 _ rfl
          have d1 := at_cell d 1 _ rfl
          have hA3 := o2.app hA2 (by intro k hk hmm; have := HGb.out k hk; simp at hmm; omega)
          refine bodyPost_ret (v := .agg #[.int .i64 (k0 : Nat), .slice a' r c']) (by simp [results, Try.results18, go_sem, d0, d1]) rfl ⟨a', r, c', rfl, slE_app hA3, KW.onl o2 (by intro q hq; have := List.mem_singleton.1 hq; omega), by omega⟩
end Go.Proofs.Ytboohafebkkdbaa
