/- Orders: the longest way has one node more than the deepest level. -/
import Derived.Test.YtmejphlpcgochaaToAw
import Derived.Test.YtmejphlpcgochaaGrTy
import Derived.Test.YtmejphlpcgochaaGr11
set_option linter.unusedVariables false
set_option linter.unusedSimpArgs false
namespace Go.Proofs.Ytmejphlpcgochaa
open Go.RowKit
theorem foldl_max_le (l : List Int) : ∀ (m : Int), m ≤ l.foldl max m ∧ ∀ x ∈ l, x ≤ l.foldl max m := by
  induction l with
  | nil => exact fun m => ⟨Int.le_refl _, fun x h => by cases h⟩
  | cons y l ih =>
    intro m
    have h := ih (max m y)
    rw [List.foldl_cons]
    refine ⟨by have := h.1; omega, fun x hx => ?_⟩
    rcases List.mem_cons.1 hx with rfl | hx
    · have := h.1; omega
    · exact h.2 x hx
theorem foldl_max_is (l : List Int) : ∀ (m : Int), l.foldl max m = m ∨ l.foldl max m ∈ l := by
  induction l with
  | nil => exact fun m => .inl rfl
  | cons y l ih =>
    intro m
    rw [List.foldl_cons]
    rcases ih (max m y) with h | h
    · rw [h]
      rcases (by omega : max m y = m ∨ max m y = y) with e | e
      · exact .inl e
      · rw [e]; exact .inr (List.mem_cons_self ..)
    · exact .inr (List.mem_cons_of_mem _ h)
/-- the greatest, told otherwise -/
theorem maxL_is {l : List Int} (hl : l ≠ []) {mo : Int} (h1 : mo ∈ l) (h2 : ∀ x ∈ l, x ≤ mo) : maxL l = mo := by
  cases l with
  | nil => exact absurd rfl hl
  | cons y l =>
    unfold maxL
    show l.foldl max y = mo
    have ha := foldl_max_le l y
    have hb := foldl_max_is l y
    have h3 : l.foldl max y ∈ y :: l := by
      rcases hb with h | h
      · rw [h]; exact List.mem_cons_self ..
      · exact List.mem_cons_of_mem _ h
    have h4 := h2 _ h3
    rcases List.mem_cons.1 h1 with rfl | h5
    · have := ha.1; omega
    · have := ha.2 _ h5; omega
theorem longT_is {N : Int} {E : List Ed} {d : List Int} (h : levT N E = some d) {mo : Int} (h1 : mo = -1 ∨ mo ∈ d) (h2 : ∀ x ∈ d, x ≤ mo) (h3 : -1 ≤ mo) : longT N E = mo + 1 := by
  unfold longT
  rw [h]
  have hb := (lev_mem_bd h).2.2.2
  by_cases hd : d = []
  · subst hd
    rcases h1 with h1 | h1
    · show (if ([] : List Int) = [] then (0 : Int) else _) = _
      rw [if_pos rfl]; omega
    · cases h1
  · show (if d = [] then (0 : Int) else maxL d + 1) = _
    rw [if_neg hd]
    rcases h1 with h1 | h1
    · obtain ⟨x, hx⟩ := List.exists_mem_of_ne_nil d hd
      have := h2 x hx
      have := hb x hx
      omega
    · rw [maxL_is hd h1 h2]
theorem longT_short {N : Int} {E : List Ed} {d : List Int} (h : levT N E = some d) : longT N (shortL N E) = longT N E := by
  obtain ⟨l, ho, rfl⟩ := levT_some h
  obtain ⟨hg, ht⟩ := orderT_some ho
  have hc : cycleL N E = [] := (cyc_none hg).2 (ht.acyc hg)
  have hcs := short_cyc hg hc
  cases ho' : orderT N (shortL N E) with
  | none => exact absurd hcs ((orderT_none (short_good hg)).1 ho')
  | some l' =>
    have h1 : levT N (shortL N E) = some (lvF N (shortL N E) l') := by unfold levT; rw [ho']; rfl
    unfold longT
    rw [h, h1, lev_short hg ho ho']
theorem lev_noedge {N : Int} {d : List Int} (h : levT N [] = some d) : ∀ x ∈ d, x = 0 := by
  obtain ⟨l, ho, rfl⟩ := levT_some h
  obtain ⟨h1, h2, h3⟩ := lvF_spec ho
  intro x hx
  obtain ⟨i, hi⟩ := List.getElem?_of_mem hx
  have hil := (List.getElem?_eq_some_iff.1 hi).1
  have hgd : (lvF N [] l).getD i 0 = x := by rw [List.getD_eq_getElem?_getD, hi]; rfl
  rcases h2.is (i : Int) (by omega) (by omega) with h4 | ⟨a, ha, _⟩
  · rw [← hgd]; exact h4
  · cases ha
set_option maxRecDepth 100000 in
set_option maxHeartbeats 16000000 in
theorem topoLong_law (v0 : Value) (x0 : TyGraph.den) (w : World) (w0 : RepV w TyGraph v0 x0) :
    Calls Try.prog 7 #[v0] w fun e w' => e = .returned (.bool true) ∧ Below w.heap.size w w' := by
  obtain ⟨N, s, m, c, E, rfl, hE, hNb⟩ := repV_graph w0
  have hl := hE.1
  have hnc := hE.2.1
  have hB0 := heap_alloc_new w (.cells #[.int .i64 N, .slice s m c] 24)
  have K0 := kept_al w (.cells #[.int .i64 N, .slice s m c] 24)
  have HE := Lib.hid hE
  have HAw := Lib.hid (awake11 (w.alloc (.cells #[.int .i64 N, .slice s m c] 24)))
  have HK0 := Lib.hid K0
  have HB := Lib.hid hB0
  clear w0 hE K0 hB0
  go_enter Try.func7, Try.ntmps7
  go_wp2_with fail
  generalize World.alloc w _ = X0 at *
  generalize hbx : w.heap.size = bx at *
  refine HAw.out.mono ?_
  rintro E1 V1 ⟨rfl, hK1⟩
  have HB1 := Lib.hid (hK1.only.heap HB.out (by simp))
  have HK1 := Lib.hid (HK0.out.trans hK1)
  have b0 := at_cell HB1.out 0 _ rfl
  have b1 := at_cell HB1.out 1 _ rfl
  clear hK1 HAw
  have HLv := Lib.hid (t_levels N (HE.out.kept HK1.out))
  go_wp2_with fail
  refine HLv.out.mono ?_
  rintro E4 V4 ⟨la, lk, lc, rfl, hSl, hK4, hlk, -⟩
  have HK4 := Lib.hid (HK1.out.trans hK4)
  replace b0 := hK4.cel b0
  replace b1 := hK4.cel b1
  have HB4 := Lib.hid (hK4.only.heap HB1.out (by simp))
  have hSl1 := hSl
  clear hK4 HLv hSl
  by_cases hm : m ≤ 60
  · have g1 : ¬ (60 : Int) < m := by omega
    cases hlv : levT N E with
    | none =>
      clear hlv hSl1
      simp only [Option.isSome_none, Option.isSome_some]
      go_wp2_with fail
      go_ret
      first | exact ⟨rfl, HK4.out⟩ | exact ⟨rfl, hbx ▸ (HK4.out : Below w.heap.size w _)⟩
    | some d =>
      rw [hlv] at hSl1
      have hSd : Sl .i64 V4 la lk lc d := hSl1
      have HSd := Lib.hid hSd
      have hdl := hSd.1
      have hdc := hSd.2.1
      have hbd := lev_mem_bd hlv
      have HBd := Lib.hid hbd.2.2.2
      have HIs := Lib.hid (fun mo => longT_is hlv (mo := mo))
      have HSt := Lib.hid (longT_short hlv)
      have hlkN : (lk : Int) = N := by omega
      have HNo : Hid (E = [] → ∀ x ∈ d, x = 0) := fun h => by subst h; exact lev_noedge hlv
      have hN16 := hbd.2.2.1
      clear hlv hSl1 hSd hbd
      subst hlkN
      simp only [Option.isSome_none, Option.isSome_some]
      go_wp2_with fail
      go_loopw [5, 6] (fun v5 v6 wx => ∃ (mo : Int) (j : Nat), v5 = .int .i64 mo ∧ v6 = .int .i64 (j : Nat) ∧ j ≤ lk ∧ -1 ≤ mo ∧ mo ≤ 16 ∧ Hid (mo = -1 ∨ mo ∈ d) ∧ Hid (∀ x ∈ d.take j, x ≤ mo) ∧ Hid (Kept V4 wx)) (fun _ v6 _ => lk - (intOf v6).toNat)
      case atStart => exact ⟨-1, 0, rfl, rfl, by omega, by omega, by omega, .inl rfl, fun a ha => by simp at ha, Kept.refl _⟩
      case round =>
        obtain ⟨mo, j, rfl, rfl, hj, hmo1, hmo2, HM1, HM2, HKj⟩ := hrel
        by_cases hlj : j < lk
        · have hlj' : (j : Int) < lk := by omega
          obtain ⟨x, hx⟩ : ∃ x, d[j]? = some x := ⟨_, List.getElem?_eq_getElem (by omega)⟩
          obtain ⟨b2, o2, v, rfl, hac, hav⟩ := (HKj.out.sl HSd.out).at j hlj
          have hva : v = x := by rw [hav.out, List.getD_eq_getElem?_getD, hx]; rfl
          subst hva
          have hvb := HBd.out v (List.mem_of_getElem? hx)
          have HTk := Lib.hid (fun b => take_succ_memI hx b)
          have HMem := Lib.hid (List.mem_of_getElem? hx)
          clear hx hav
          by_cases hgt : mo < v
          · have HM4 : Hid (∀ x ∈ d.take (j + 1), x ≤ v) := fun b hb => by
              rcases (HTk.out b).1 hb with h | rfl
              · have := HM2.out b h; omega
              · exact Int.le_refl _
            go_wp2_with fail
            go_roundw
            case rel => exact ⟨v, j + 1, rfl, by go_num, by omega, by omega, by omega, .inr HMem.out, HM4, HKj.out⟩
            case measure => simp [intOf]; omega
          · have HM4 : Hid (∀ x ∈ d.take (j + 1), x ≤ mo) := fun b hb => by
              rcases (HTk.out b).1 hb with h | rfl
              · exact HM2.out b h
              · omega
            go_wp2_with fail
            go_roundw
            case rel => exact ⟨mo, j + 1, rfl, by go_num, by omega, hmo1, hmo2, HM1.out, HM4, HKj.out⟩
            case measure => simp [intOf]; omega
        · have hall : ∀ x ∈ d, x ≤ mo := fun x hx => HM2.out x (by rw [List.take_of_length_le (by omega)]; exact hx)
          have hlg := HIs.out mo HM1.out hall hmo1
          have HKW := Lib.hid (HK4.out.trans HKj.out)
          have HBW := Lib.hid (HKj.out.only.heap HB4.out (by simp))
          have c0 := at_cell HBW.out 0 (.int .i64 (lk : Nat)) rfl
          have c1 := at_cell HBW.out 1 (.slice s m c) rfl
          have HLg := Lib.hid (t_long (lk : Int) (HE.out.kept HKW.out))
          rw [hlg] at HLg
          have HLs : Hid (longT (lk : Int) (shortL lk E) = mo + 1) := by unfold Hid; rw [HSt.out, hlg]
          have hsecond : 0 < m ∨ lk = 0 ∨ mo = 0 := by
            by_cases h0 : 0 < m
            · exact .inl h0
            · right
              have hE0 : E = [] := List.length_eq_zero_iff.1 (by omega)
              by_cases h1 : lk = 0
              · exact .inl h1
              · right
                obtain ⟨x, hx⟩ : ∃ x, d[0]? = some x := ⟨_, List.getElem?_eq_getElem (by omega)⟩
                have hxm := List.mem_of_getElem? hx
                have h3 := HNo.out hE0
                have h4 := h3 x hxm
                have h5 := hall x hxm
                rcases HM1.out with h6 | h6
                · omega
                · exact h3 mo h6
          clear hlg hall b0 b1 HNo HIs HSt
          have f8 : ((mo + 1 : Int) == mo + 1) = true := beq_self_eq_true _
          rcases hsecond with h | h | h
          · have f1 : (0 : Int) < m := by omega
            go_wp2_with fail
            refine HLg.out.mono ?_
            rintro E6 V6 ⟨rfl, hK6⟩
            have HK6 := Lib.hid (HKW.out.trans hK6)
            replace c0 := hK6.cel c0
            replace c1 := hK6.cel c1
            clear hK6 HLg
            have HSh := Lib.hid (g_short (lk : Int) (HE.out.kept HK6.out) (by omega))
            go_wp2_with fail
            refine HSh.out.mono ?_
            rintro E7 V7 ⟨sa, sk, sc, rfl, hSs, hK7, hsk⟩
            have HK7 := Lib.hid (HK6.out.trans hK7)
            have HL2 := Lib.hid (t_long (lk : Int) hSs)
            rw [HLs.out] at HL2
            clear hSs hK7 HSh c0 c1
            go_wp2_with fail
            refine HL2.out.mono ?_
            rintro E8 V8 ⟨rfl, hK8⟩
            have HK8 := Lib.hid (HK7.out.trans hK8)
            clear hK8 HL2
            have f9 : ((mo + 1 : Int) == mo + 1) = true := beq_self_eq_true _
            go_wp2_with fail
            go_ret
            first | exact ⟨rfl, HK8.out⟩ | exact ⟨rfl, hbx ▸ (HK8.out : Below w.heap.size w _)⟩
          · by_cases h0 : 0 < m
            · have f1 : (0 : Int) < m := by omega
              clear h
              go_wp2_with fail
              refine HLg.out.mono ?_
              rintro E6 V6 ⟨rfl, hK6⟩
              have HK6 := Lib.hid (HKW.out.trans hK6)
              replace c0 := hK6.cel c0
              replace c1 := hK6.cel c1
              clear hK6 HLg
              have HSh := Lib.hid (g_short (lk : Int) (HE.out.kept HK6.out) (by omega))
              go_wp2_with fail
              refine HSh.out.mono ?_
              rintro E7 V7 ⟨sa, sk, sc, rfl, hSs, hK7, hsk⟩
              have HK7 := Lib.hid (HK6.out.trans hK7)
              have HL2 := Lib.hid (t_long (lk : Int) hSs)
              rw [HLs.out] at HL2
              clear hSs hK7 HSh c0 c1
              go_wp2_with fail
              refine HL2.out.mono ?_
              rintro E8 V8 ⟨rfl, hK8⟩
              have HK8 := Lib.hid (HK7.out.trans hK8)
              clear hK8 HL2
              have f9 : ((mo + 1 : Int) == mo + 1) = true := beq_self_eq_true _
              go_wp2_with fail
              go_ret
              first | exact ⟨rfl, HK8.out⟩ | exact ⟨rfl, hbx ▸ (HK8.out : Below w.heap.size w _)⟩
            · have f1 : ¬ (0 : Int) < m := by omega
              have f2 : ((lk : Int) == 0) = true := by simp [h]
              clear h
              go_wp2_with fail
              refine HLg.out.mono ?_
              rintro E6 V6 ⟨rfl, hK6⟩
              have HK6 := Lib.hid (HKW.out.trans hK6)
              replace c0 := hK6.cel c0
              replace c1 := hK6.cel c1
              clear hK6 HLg
              have HSh := Lib.hid (g_short (lk : Int) (HE.out.kept HK6.out) (by omega))
              go_wp2_with fail
              refine HSh.out.mono ?_
              rintro E7 V7 ⟨sa, sk, sc, rfl, hSs, hK7, hsk⟩
              have HK7 := Lib.hid (HK6.out.trans hK7)
              have HL2 := Lib.hid (t_long (lk : Int) hSs)
              rw [HLs.out] at HL2
              clear hSs hK7 HSh c0 c1
              go_wp2_with fail
              refine HL2.out.mono ?_
              rintro E8 V8 ⟨rfl, hK8⟩
              have HK8 := Lib.hid (HK7.out.trans hK8)
              clear hK8 HL2
              have f9 : ((mo + 1 : Int) == mo + 1) = true := beq_self_eq_true _
              go_wp2_with fail
              go_ret
              first | exact ⟨rfl, HK8.out⟩ | exact ⟨rfl, hbx ▸ (HK8.out : Below w.heap.size w _)⟩
          · by_cases h0 : 0 < m
            · have f1 : (0 : Int) < m := by omega
              clear h
              go_wp2_with fail
              refine HLg.out.mono ?_
              rintro E6 V6 ⟨rfl, hK6⟩
              have HK6 := Lib.hid (HKW.out.trans hK6)
              replace c0 := hK6.cel c0
              replace c1 := hK6.cel c1
              clear hK6 HLg
              have HSh := Lib.hid (g_short (lk : Int) (HE.out.kept HK6.out) (by omega))
              go_wp2_with fail
              refine HSh.out.mono ?_
              rintro E7 V7 ⟨sa, sk, sc, rfl, hSs, hK7, hsk⟩
              have HK7 := Lib.hid (HK6.out.trans hK7)
              have HL2 := Lib.hid (t_long (lk : Int) hSs)
              rw [HLs.out] at HL2
              clear hSs hK7 HSh c0 c1
              go_wp2_with fail
              refine HL2.out.mono ?_
              rintro E8 V8 ⟨rfl, hK8⟩
              have HK8 := Lib.hid (HK7.out.trans hK8)
              clear hK8 HL2
              have f9 : ((mo + 1 : Int) == mo + 1) = true := beq_self_eq_true _
              go_wp2_with fail
              go_ret
              first | exact ⟨rfl, HK8.out⟩ | exact ⟨rfl, hbx ▸ (HK8.out : Below w.heap.size w _)⟩
            · have f1 : ¬ (0 : Int) < m := by omega
              by_cases h1 : lk = 0
              · have f2 : ((lk : Int) == 0) = true := by simp [h1]
                clear h1 h
                go_wp2_with fail
                refine HLg.out.mono ?_
                rintro E6 V6 ⟨rfl, hK6⟩
                have HK6 := Lib.hid (HKW.out.trans hK6)
                replace c0 := hK6.cel c0
                replace c1 := hK6.cel c1
                clear hK6 HLg
                have HSh := Lib.hid (g_short (lk : Int) (HE.out.kept HK6.out) (by omega))
                go_wp2_with fail
                refine HSh.out.mono ?_
                rintro E7 V7 ⟨sa, sk, sc, rfl, hSs, hK7, hsk⟩
                have HK7 := Lib.hid (HK6.out.trans hK7)
                have HL2 := Lib.hid (t_long (lk : Int) hSs)
                rw [HLs.out] at HL2
                clear hSs hK7 HSh c0 c1
                go_wp2_with fail
                refine HL2.out.mono ?_
                rintro E8 V8 ⟨rfl, hK8⟩
                have HK8 := Lib.hid (HK7.out.trans hK8)
                clear hK8 HL2
                have f9 : ((mo + 1 : Int) == mo + 1) = true := beq_self_eq_true _
                go_wp2_with fail
                go_ret
                first | exact ⟨rfl, HK8.out⟩ | exact ⟨rfl, hbx ▸ (HK8.out : Below w.heap.size w _)⟩
              · have f2 : ((lk : Int) == 0) = false := by simp [h1]
                have f3 : ((mo : Int) == 0) = true := by simp [h]
                clear h h1
                go_wp2_with fail
                refine HLg.out.mono ?_
                rintro E6 V6 ⟨rfl, hK6⟩
                have HK6 := Lib.hid (HKW.out.trans hK6)
                replace c0 := hK6.cel c0
                replace c1 := hK6.cel c1
                clear hK6 HLg
                have HSh := Lib.hid (g_short (lk : Int) (HE.out.kept HK6.out) (by omega))
                go_wp2_with fail
                refine HSh.out.mono ?_
                rintro E7 V7 ⟨sa, sk, sc, rfl, hSs, hK7, hsk⟩
                have HK7 := Lib.hid (HK6.out.trans hK7)
                have HL2 := Lib.hid (t_long (lk : Int) hSs)
                rw [HLs.out] at HL2
                clear hSs hK7 HSh c0 c1
                go_wp2_with fail
                refine HL2.out.mono ?_
                rintro E8 V8 ⟨rfl, hK8⟩
                have HK8 := Lib.hid (HK7.out.trans hK8)
                clear hK8 HL2
                have f9 : ((mo + 1 : Int) == mo + 1) = true := beq_self_eq_true _
                go_wp2_with fail
                go_ret
                first | exact ⟨rfl, HK8.out⟩ | exact ⟨rfl, hbx ▸ (HK8.out : Below w.heap.size w _)⟩
  · have g1 : (60 : Int) < m := by omega
    go_wp2_with fail
    go_ret
    first | exact ⟨rfl, HK4.out⟩ | exact ⟨rfl, hbx ▸ (HK4.out : Below w.heap.size w _)⟩
end Go.Proofs.Ytmejphlpcgochaa
