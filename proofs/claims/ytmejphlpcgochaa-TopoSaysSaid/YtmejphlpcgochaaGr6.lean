/- Graphs: how far: the walk. -/
import Derived.Test.YtmejphlpcgochaaGr5
import Derived.Laws.MakeOwn
set_option linter.unusedVariables false
set_option linter.unusedSimpArgs false
namespace Go.Proofs.Ytmejphlpcgochaa
open Go.RowKit
def rowI (l : List Int) : Obj := .cells (ivs l).toArray 3 (0, 0)
theorem rowI_at {w : World} {b : Nat} {l : List Int} (h : w.heap[b]? = some (rowI l)) (i : Nat) (hi : i < l.length) : w.cell? ⟨b, i, none⟩ = some (.int .i64 (l.getD i 0)) := by
  refine at_cell h i _ ?_
  rw [List.getElem?_toArray]
  unfold ivs
  rw [List.getElem?_map, List.getElem?_eq_getElem hi]
  simp [List.getD_eq_getElem?_getD, hi]
theorem rowI_set {w : World} {b : Nat} {l : List Int} (h : w.heap[b]? = some (rowI l)) (i : Nat) (v : Int) : (w.setCell ⟨b, i, none⟩ (.int .i64 v)).heap[b]? = some (rowI (l.set i v)) := by
  have := at_set h i (.int .i64 v)
  rw [this]
  unfold rowI ivs
  simp
theorem rowI_sl {w : World} {b : Nat} {l : List Int} (h : w.heap[b]? = some (rowI l)) (n : Nat) (hl : l.length = n) (hn : n ≤ 1000) : Sl .i64 w (some ⟨b, 0, none⟩) n n l := by
  refine ⟨hl, Nat.le_refl _, by unfold maxLen; omega, fun i hi => ⟨b, 0, rfl, lt_heap h, ?_⟩⟩
  rw [Nat.zero_add]
  exact rowI_at h i (by omega)
theorem rowI_free {w : World} {b : Nat} {l : List Int} (h : w.heap[b]? = some (rowI l)) (i : Nat) : w.frozen? ⟨b, i, none⟩ = false := one_free h i
theorem made_row (w : World) (n : Nat) (hn : n ≤ 1000) : (Instr.makeSlice 29 (.int .i64 (n : Int)) (.int .i64 (n : Int))).run Try.prog w = .ok (.slice (some ⟨w.heap.size, 0, none⟩) n n) (w.alloc (rowI (List.replicate n 0))) := by
  obtain ⟨i, hi, hz, hs, hb⟩ := elemI.hi
  have h := run_make (P := Try.prog) w 29 3 i _ elemI.ht hi hz .i64 .i64 n n (by omega) (Int.le_refl _) (by rw [hb]; omega) (by omega)
  rw [h, hs]
  simp only [Int.toNat_natCast, Nat.mul_one]
  congr 2
  unfold rowI ivs
  congr 1
  apply Array.ext'
  apply List.ext_getElem?
  intro j
  by_cases hj : j < n
  · simp [madeCells, Value.cells, hj, Nat.mod_one]
  · simp [madeCells, Value.cells, hj]
theorem fold_take {α β : Type} (f : β → α → β) (l : List α) (q : Nat) (x : α) (st : β) (hx : l[q]? = some x) : (l.take (q + 1)).foldl f st = f ((l.take q).foldl f st) x := by
  rw [List.take_add_one, hx, List.foldl_append]; rfl
set_option maxRecDepth 100000 in
set_option maxHeartbeats 8000000 in
theorem g_far {w : World} {s : Option Addr} {m c : Nat} {E : List Ed} (k0 : Nat) (n : Int) (hE : SlE w s m c E) (hm : m ≤ 900) (hg : goodG k0 E = true) :
    Calls Try.prog 29 #[.agg #[.int .i64 (k0 : Nat), .slice s m c], .int .i64 n] w fun e w' => ∃ (a : Option Addr) (c' : Nat), e = .returned (.slice a k0 c') ∧ Sl .i64 w' a k0 c' (farL k0 E n) ∧ Kept w w' := by
  have hN := good_N hg
  have hl := hE.1
  have hB0 := heap_alloc_new w (.cells #[.int .i64 (k0 : Nat), .slice s m c] 24)
  have K0 := kept_al w (.cells #[.int .i64 (k0 : Nat), .slice s m c] 24)
  have hz0 : (w.alloc (.cells #[.int .i64 (k0 : Nat), .slice s m c] 24)).heap.size = w.heap.size + 1 := by simp
  have b0 := at_cell hB0 0 _ rfl
  have b1 := at_cell hB0 1 _ rfl
  have hmk := fun W => made_row W k0 (by omega)
  have HE := Lib.hid hE
  have HG := Lib.hid hg
  have HK0 := Lib.hid K0
  have HB := Lib.hid hB0
  clear hE K0 hB0
  go_enter Try.func29, Try.ntmps29
  go_upto_region 1 with fail
  generalize World.alloc w _ = X0 at *
  generalize hbx : w.heap.size = bx at *
  clear hbx
  have hrow : (X0.alloc (rowI (List.replicate k0 0))).heap[bx + 1]? = some (rowI (List.replicate k0 0)) := by rw [← hz0]; exact heap_alloc_new X0 _
  have KX := kept_al X0 (rowI (List.replicate k0 0))
  have KX2 := KX.trans (kept_al _ (.cells #[.int .i64 n] 3))
  have hrow2 := heap_keep hrow (.cells #[.int .i64 n] 3)
  have hz1 : (X0.alloc (rowI (List.replicate k0 0))).heap.size = bx + 2 := by simp [hz0]
  have hat := sl_lit .i64 (X0.alloc (rowI (List.replicate k0 0))) 3 (0, 0) [n] 1 rfl (by unfold maxLen; omega)
  rw [hz1] at hat
  have HAt := Lib.hid hat
  have HRow := Lib.hid hrow2
  have HKX := Lib.hid KX2
  clear hrow KX KX2 hrow2 hat
  go_wp2_with fail
  have HAt2 : Hid (Sl .i64 ((X0.alloc (rowI (List.replicate k0 0))).alloc (.cells #[.int .i64 n] 3)) (some ⟨bx + 2, 0, none⟩) 1 1 [n]) := HAt.out
  generalize World.alloc (World.alloc X0 _) _ = X at *
  have hXz := HKX.out.size
  have hbo := lt_heap HRow.out
  have HF0 : Hid (farL k0 E n = farF k0 E (k0 + 3 - 1) ((1 : Nat) : Int) (List.replicate k0 0) [n]) := by unfold Hid farL; simp
  have HZ0 : Hid (zers (List.replicate k0 (0 : Int)) = k0) := by unfold Hid zers; simp [List.countP_replicate]
  clear hmk b0 b1 HAt hz1
  go_loopw [6, 7] (fun v6 v7 wr => ∃ (sN : Nat) (out at' : List Int) (aa : Option Addr) (na ca : Nat), v6 = .slice aa na ca ∧ v7 = .int .i64 (sN : Nat) ∧ 1 ≤ sN ∧ sN ≤ k0 + 3 ∧ out.length = k0 ∧ Hid (farL k0 E n = farF k0 E (k0 + 3 - sN) (sN : Int) out at') ∧ Hid (Sl .i64 wr aa na ca at') ∧ Hid (wr.heap[bx + 1]? = some (rowI out)) ∧ Hid (Kept X0 wr) ∧ na ≤ 17 ∧ Hid (at' ≠ [] → zers out + 2 ≤ k0 + 3 - sN) ∧ Hid (∀ y, aa = some y → y.block ≠ bx + 1)) (fun _ v7 _ => k0 + 4 - (intOf v7).toNat)
  case atStart => exact ⟨1, List.replicate k0 0, [n], _, 1, 1, rfl, rfl, by omega, by omega, by simp, HF0.out, HAt2.out, HRow.out, HKX.out, by omega, fun _ => by rw [HZ0.out]; omega, fun y hy => by injection hy with hy; subst hy; show bx + 2 ≠ bx + 1; omega⟩
  case round =>
    obtain ⟨sN, out, at', aa, na, ca, rfl, rfl, hs1, hs2, hol, HF, HSa, HR, HK, hna, HZ, HNe⟩ := hrel
    have hal := HSa.out.1
    have hac := HSa.out.2.1
    by_cases h0 : 0 < na
    · have h0' : (0 : Int) < (na : Int) := by omega
      have hne : at' ≠ [] := by intro e; rw [e] at hal; simp at hal; omega
      have hz := HZ.out hne
      obtain ⟨f, hf⟩ : ∃ f, k0 + 3 - sN = f + 1 := ⟨k0 + 3 - sN - 1, by omega⟩
      have HF2 : Hid (farL k0 E n = farF k0 E f ((sN : Int) + 1) (at'.foldl (stepA k0 E sN) (out, [])).1 (at'.foldl (stepA k0 E sN) (out, [])).2) := by
        unfold Hid
        rw [HF.out, hf, farF, if_neg hne]
      obtain ⟨rz, HRZ⟩ : ∃ rz, Hid (wr.heap.size = rz) := ⟨_, rfl⟩
      have HRb : bx + 1 < rz := by have := lt_heap HR.out; have := HRZ.out; omega
      have hR1 := HR
      have hK1 := HK
      have hS1 := HSa
      have hz1 : rz ≤ wr.heap.size := by have := HRZ.out; omega
      have HIn : Hid (∀ y, aa = some y → y.block < rz) := fun y hy => by
        obtain ⟨b', o', e1, e2, _⟩ := HSa.out.2.2.2 0 h0
        rw [hy] at e1
        injection e1 with e1
        rw [e1]
        have := HRZ.out
        show b' < rz
        omega
      have HFf := Lib.hid hf
      clear HF HR HK hf
      go_wp2_with fail
      go_loopw [8, 25] (fun v8 v25 wr => ∃ (i rn : Nat) (st : FS) (ax : Option Addr) (cx : Nat) (gx : Option Nat), v8 = .slice ax rn cx ∧ v25 = .int .i64 (i : Nat) ∧ i ≤ na ∧ st.1.length = k0 ∧ rn ≤ i * 900 ∧ Hid (st = (at'.take i).foldl (stepA k0 E sN) (out, [])) ∧ Hid (App wr 3 1 (.slice ax rn cx) rn gx (ivs st.2)) ∧ Hid (wr.heap[bx + 1]? = some (rowI st.1)) ∧ Hid (Kept X0 wr) ∧ Hid (∀ k ∈ gx.toList, rz ≤ k) ∧ rz ≤ wr.heap.size ∧ Hid (Sl .i64 wr aa na ca at')) (fun _ v25 _ => na - (intOf v25).toNat)
      case atStart => exact ⟨0, 0, (out, []), none, 0, none, rfl, rfl, by omega, hol, by omega, rfl, app_nil _ _ _, hR1.out, hK1.out, (by intro k hk; simp at hk), hz1, hS1.out⟩
      case round =>
        obtain ⟨i, rn, st, ax, cx, gx, rfl, rfl, hi, hstl, hrn, HSt, HAx, HRo, HKx, HGx, hrz, HSt'⟩ := hrel
        by_cases hlt : i < na
        · have hlt' : (i : Int) < na := by omega
          obtain ⟨a, hai⟩ : ∃ a, at'[i]? = some a := ⟨_, List.getElem?_eq_getElem (by omega)⟩
          obtain ⟨ba, oa, av, haa, hac2, hav⟩ := HSt'.out.at i hlt
          have hav2 : av = a := by rw [hav.out, List.getD_eq_getElem?_getD, hai]; rfl
          subst hav2
          subst haa
          have HAI := Lib.hid hai
          have HBW := HKx.out.only.heap HB.out (by simp)
          have x0 := at_cell HBW 0 _ rfl
          have x1 := at_cell HBW 1 _ rfl
          have HBh := Lib.hid (g_behind (k0 : Int) av (HE.out.kept (HK0.out.trans HKx.out)) hm)
          clear hai hav HBW
          go_wp2_with fail
          refine HBh.out.mono ?_
          rintro E1 V1 ⟨bb, bk, bc, rfl, hSb, hK1b, hbk, hnew⟩
          have HSb := Lib.hid hSb
          have hbl := hSb.1
          have hbc := hSb.2.1
          have HA1 := Lib.hid (hK1b.only.app HAx.out (by simp))
          have HR1 := Lib.hid (hK1b.only.heap HRo.out (by simp))
          have HKx1 := Lib.hid (HKx.out.trans hK1b)
          have HS1 := Lib.hid (hK1b.sl HSt'.out)
          have hz2 : rz ≤ V1.heap.size := by have := hK1b.size; omega
          obtain ⟨uz, HUZ⟩ : ∃ uz, Hid (wr.heap.size = uz) := ⟨_, rfl⟩
          obtain ⟨vz, HVZ⟩ : ∃ vz, Hid (V1.heap.size = vz) := ⟨_, rfl⟩
          have HInB : Hid (∀ y, bb = some y → 0 < bk → uz ≤ y.block ∧ y.block < vz) := fun y hy hb => by
            obtain ⟨b', o', e1, e2, _⟩ := HSb.out.2.2.2 0 hb
            have h1 := hnew y hy
            rw [hy] at e1
            injection e1 with e1
            rw [e1] at h1 ⊢
            have h2 := HVZ.out
            have h3 := HUZ.out
            show uz ≤ b' ∧ b' < vz
            replace h1 : wr.heap.size ≤ b' := h1
            omega
          have huv : uz ≤ vz := by have h1 := HUZ.out; have h2 := HVZ.out; have := hK1b.size; omega
          have hru : rz ≤ uz := by have h1 := HUZ.out; omega
          have HG1 : Hid (∀ k ∈ gx.toList, rz ≤ k ∧ (k < uz ∨ vz ≤ k)) := fun k hk => by
            have h1 := HAx.out.lt k (by simpa using hk)
            have h2 := HUZ.out
            exact ⟨HGx.out k hk, .inl (by omega)⟩
          have hz3 : vz ≤ V1.heap.size := by have := HVZ.out; omega
          clear hSb hK1b HBh x0 x1 hac2 hnew
          go_wp2_with fail
          go_loopw [8, 33] (fun v8 v33 wr => ∃ (q r2 : Nat) (st2 : FS) (a2 : Option Addr) (c2 : Nat) (g2 : Option Nat), v8 = .slice a2 r2 c2 ∧ v33 = .int .i64 (q : Nat) ∧ q ≤ bk ∧ st2.1.length = k0 ∧ r2 ≤ rn + q ∧ Hid (st2 = ((besL k0 E av 0).take q).foldl (stepB sN) st) ∧ Hid (App wr 3 1 (.slice a2 r2 c2) r2 g2 (ivs st2.2)) ∧ Hid (wr.heap[bx + 1]? = some (rowI st2.1)) ∧ Hid (Kept X0 wr) ∧ Hid (∀ k ∈ g2.toList, rz ≤ k ∧ (k < uz ∨ vz ≤ k)) ∧ vz ≤ wr.heap.size ∧ Hid (Sl .i64 wr (some ⟨ba, oa, none⟩) na ca at') ∧ Hid (Sl .i64 wr bb bk bc (besL k0 E av 0))) (fun _ v33 _ => bk - (intOf v33).toNat)
          case atStart => exact ⟨0, rn, st, ax, cx, gx, rfl, rfl, by omega, hstl, by omega, rfl, HA1, HR1, HKx1, HG1, hz3, HS1, HSb⟩
          case round =>
            obtain ⟨q, r2, st2, a2, c2, g2, rfl, rfl, hq, hst2, hr2, HSt2, HA2, HR2, HK2, HG2, hvz, HSa2, HSb2⟩ := hrel
            by_cases hqk : q < bk
            · have hqk' : (q : Int) < bk := by omega
              obtain ⟨b, hbq⟩ : ∃ b, (besL k0 E av 0)[q]? = some b := ⟨_, List.getElem?_eq_getElem (by omega)⟩
              have hbr := besL_in HG.out (List.mem_of_getElem? hbq)
              obtain ⟨bn, rfl⟩ : ∃ bn : Nat, b = bn := ⟨b.toNat, by omega⟩
              obtain ⟨b3, o3, bv, hb3, hbc2, hbv⟩ := HSb2.out.at q hqk
              have hbv2 : bv = (bn : Int) := by rw [hbv.out, List.getD_eq_getElem?_getD, hbq]; rfl
              rw [hbv2] at hbc2
              subst hb3
              have hib := HInB.out _ rfl (by omega)
              dsimp only at hib
              have HStep := Lib.hid (fold_take (stepB sN) (besL k0 E av 0) q (bn : Int) st hbq)
              rw [← HSt2.out] at HStep
              have hbn : (bn : Int) < k0 := hbr.2
              have hoc := rowI_at HR2.out bn (by omega)
              have hof := rowI_free HR2.out bn
              clear hbq hbv hbv2 hbr bv
              obtain ⟨ov, HOv⟩ : ∃ ov, Hid (st2.1.getD bn 0 = ov) := ⟨_, rfl⟩
              rw [HOv.out] at hoc
              by_cases hzo : ov = 0
              · have hz : st2.1.getD bn 0 = 0 := by rw [HOv.out]; exact hzo
                have hzb : (ov == 0) = true := by simp [hzo]
                clear hzo
                have HSt3 : Hid (stepB sN st2 (bn : Int) = (st2.1.set bn sN, st2.2 ++ [(bn : Int)])) := by unfold Hid stepB; rw [if_pos (by simpa using hz)]; simp
                have hRs := rowI_set HR2.out bn (sN : Int)
                have OS : Only [bx + 1] wr (wr.setCell ⟨bx + 1, bn, none⟩ (.int .i64 (sN : Nat))) := (Only.refl _ _).setCell (fun _ => by simp) _
                have KL := kept_al (wr.setCell ⟨bx + 1, bn, none⟩ (.int .i64 (sN : Nat))) (.cells #[.int .i64 (bn : Nat)] 3)
                have O2 := OS.trans (KL.only.mono (T := [bx + 1]) (by simp))
                have hsz1 : (wr.setCell ⟨bx + 1, bn, none⟩ (.int .i64 (sN : Nat))).heap.size = wr.heap.size := by simp [World.setCell]
                have hbl2 := heap_alloc_new (wr.setCell ⟨bx + 1, bn, none⟩ (.int .i64 (sN : Nat))) (.cells #[.int .i64 (bn : Nat)] 3)
                rw [hsz1] at hbl2
                have HSrc := Lib.hid (src_block (P := Try.prog) (size := 1) Try.underlying29 hbl2 1 1 rfl (by simp [Value.oneCell']))
                have HRs := Lib.hid (KL.only.heap hRs (by simp))
                have HAp := Lib.hid (O2.app HA2.out (by intro k hk hm; have := (HG2.out k (by rw [hk]; simp)).1; simp at hm; omega))
                have HO2 := Lib.hid O2
                have HLs : Hid (((wr.setCell ⟨bx + 1, bn, none⟩ (.int .i64 (sN : Nat))).alloc (.cells #[.int .i64 (bn : Nat)] 3)).heap.size = wr.heap.size + 1) := by unfold Hid; simp [World.setCell]
                clear hz hRs OS KL O2 hbl2
                go_wp2_with (at_builtin; refine wpList_app rfl (.tmp 46) (.tmp 48) 29 29 rfl elemI _ r2 _ _ rfl HAp.out _ 1 _ rfl HSrc.out (by omega) (by unfold maxLen; omega) ?_; intro a5 c5 g5 w5 hA5 hO5 hG5; have HA5 := Lib.hid hA5; have HO5 := Lib.hid hO5; have HG5 := Lib.hid hG5; clear hA5 hO5 hG5)
                have hg1 : ∀ i ∈ g5.toList, rz ≤ i ∧ (i < uz ∨ vz ≤ i) := by
                  intro i hi
                  rcases HG5.out with h | h
                  · rw [h] at hi; exact HG2.out i hi
                  · rw [h, HLs.out] at hi; simp at hi; omega
                have hgo : bx + 1 ∉ g2.toList := fun h => by have := (HG2.out _ h).1; omega
                have hR5 := HO5.out.heap HRs.out hgo
                have hO6 : Only ((bx + 1) :: g2.toList) wr w5 := (HO2.out.mono (by intro k _ hk; simp at hk; simp [hk])).trans (HO5.out.mono (by intro k _ hk; simp at hk ⊢; exact .inr hk))
                have hK5 : Kept X0 w5 := HK2.out.onl hO6 (by intro i hi; rcases List.mem_cons.1 hi with h | h; omega; have := (HG2.out i h).1; omega)
                have hSa5 := hO6.sl HSa2.out (by
                  intro y hy hm
                  have h1 := HNe.out y hy
                  have h2 := HIn.out y hy
                  rcases List.mem_cons.1 hm with h | h
                  · exact h1 h
                  · have := (HG2.out _ h).1; omega)
                have hSb5 := hO6.sl HSb2.out (by
                  intro y hy hm
                  injection hy with hy
                  subst hy
                  rcases List.mem_cons.1 hm with h | h
                  · replace h : b3 = bx + 1 := h; omega
                  · have h2 := HG2.out _ h; replace h2 : rz ≤ b3 ∧ (b3 < uz ∨ vz ≤ b3) := h2; omega)
                have hz5 := hO6.size
                go_roundw
                case rel => exact ⟨q + 1, r2 + 1, (st2.1.set bn sN, st2.2 ++ [(bn : Int)]), a5, c5, g5, rfl, by go_num, by omega, by simp [hst2], by omega, by rw [HStep.out, HSt3.out]; exact rfl, by rw [ivs_app]; exact HA5.out, hR5, hK5, hg1, by omega, hSa5, hSb5⟩
                case measure => simp [intOf]; omega
              · have hz : ¬ st2.1.getD bn 0 = 0 := by rw [HOv.out]; exact hzo
                have hzb : (ov == 0) = false := by simp [hzo]
                clear hzo
                have HSt3 : Hid (stepB sN st2 (bn : Int) = st2) := by unfold Hid stepB; rw [if_neg (by simpa using hz)]
                clear hz
                go_wp2_with fail
                go_roundw
                case rel => exact ⟨q + 1, r2, st2, a2, c2, g2, rfl, by go_num, by omega, hst2, by omega, by rw [HStep.out, HSt3.out]; exact rfl, HA2, HR2, HK2, HG2, hvz, HSa2, HSb2⟩
                case measure => simp [intOf]; omega
            · have hge : (bk : Int) ≤ q := by omega
              obtain rfl : q = bk := by omega
              have HSt4 : Hid (st2 = (at'.take (i + 1)).foldl (stepA k0 E sN) (out, [])) := by
                unfold Hid
                rw [fold_take (stepA k0 E sN) at' i av _ HAI.out, ← HSt.out, HSt2.out, List.take_of_length_le (by omega)]
                rfl
              go_wp2_with fail
              go_roundw
              case rel => exact ⟨i + 1, r2, st2, a2, c2, g2, rfl, by go_num, by omega, hst2, by omega, HSt4, HA2, HR2, HK2, fun k hk => (HG2.out k hk).1, by omega, HSa2⟩
              case measure => simp [intOf]; omega
        · have hge : (na : Int) ≤ i := by omega
          obtain rfl : i = na := by omega
          have hst := HSt.out
          rw [List.take_of_length_le (by omega)] at hst
          have hzz := foldA_zer HG.out (sN : Int) (by omega) at' (out, []) (by simpa using congrArg (Int.ofNat) hol)
          rw [← hst] at hzz
          rw [← hst] at HF2
          have hr2 : st.2.length = rn := by have := HAx.out.len; rw [ivs_len] at this; omega
          have hzo := zers_le out
          simp only [List.length_nil, Nat.add_zero] at hzz
          have HZ2 : Hid (st.2 ≠ [] → zers st.1 + 2 ≤ k0 + 3 - (sN + 1)) := fun hne2 => by
            have : 0 < st.2.length := List.length_pos_iff.2 hne2
            omega
          have HF3 : Hid (farL k0 E n = farF k0 E (k0 + 3 - (sN + 1)) ((sN + 1 : Nat) : Int) st.1 st.2) := by
            unfold Hid
            have hff := HFf.out
            rw [HF2.out, show k0 + 3 - (sN + 1) = f from by omega]
            rfl
          have HNx : Hid (∀ y, ax = some y → y.block ≠ bx + 1) := fun y hy => by
            subst hy
            have := HGx.out y.block (by rw [app_blkI HAx.out]; simp)
            omega
          have HSl := Lib.hid (app_sl HAx.out)
          clear hst
          go_wp2_with fail
          go_roundw
          case rel => exact ⟨sN + 1, st.1, st.2, ax, rn, cx, rfl, by go_num, by omega, by omega, hstl, HF3, HSl, HRo, HKx, by omega, HZ2, HNx⟩
          case measure => simp [intOf]; omega
    · have h0' : ¬ (0 : Int) < (na : Int) := by omega
      obtain rfl : at' = [] := List.eq_nil_of_length_eq_zero (by omega)
      have HFF : Hid (farL k0 E n = out) := by unfold Hid; rw [HF.out, farF_nil]
      have hRS := Lib.hid (rowI_sl HR.out k0 hol (by omega))
      have HKF := Lib.hid (HK0.out.trans HK.out)
      go_wp2_with fail
      go_ret
      exact ⟨_, _, rfl, by rw [HFF.out]; exact hRS.out, HKF.out⟩
end Go.Proofs.Ytmejphlpcgochaa
