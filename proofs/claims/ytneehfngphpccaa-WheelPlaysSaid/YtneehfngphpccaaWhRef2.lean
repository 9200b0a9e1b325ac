/- The document's wheel: Drop, At, Next. -/
import Derived.Test.YtneehfngphpccaaWhRef1
import Derived.Deep.RegionLaw
set_option linter.unusedVariables false
set_option linter.unusedSimpArgs false
namespace Go.Proofs.Ytneehfngphpccaa
open Go.RowKit
theorem elemD : Elem Try.prog 44 43 (duV (0, 0, 0)) 3 24 :=
  ⟨Try.underlying44, info_parts (by kernel_rfl), rfl, by omega⟩
theorem app0 {w : World} {e : TypeId} {k size : Nat} (h : w.heap[k]? = some (.cells #[] e (0, 0))) : App w e size (.slice (some ⟨k, 0, none⟩) 0 0) 0 (some k) [] :=
  ⟨⟨by simp, .inr ⟨k, 0, #[], rfl, Nat.zero_le _, h, Nat.le_refl _, Nat.zero_le _, by simp, by simp⟩⟩, rfl⟩
theorem srcD_take {P : Program} {w : World} {e' tx : TypeId} {a : Option Addr} {n c : Nat} {L : List Du} (hk : P.underlying tx = some (.slice e')) (h : SlD w a n c L) (i : Nat) (hi : i ≤ n) : Src P 3 tx (.slice a i c) i (duVs (L.take i)) w := by
  obtain ⟨hl, hnc, hcm, hc⟩ := h
  have hil : (duVs (L.take i)).length = i * 3 := by rw [duVs_len, List.length_take, Nat.min_eq_left (by omega)]
  rcases Nat.eq_zero_or_pos i with h0 | h0
  · subst h0
    cases a with
    | none => exact Src.ofNil w hk c
    | some x => exact Src.ofSlice w hk x 0 c _ rfl (fun j u hu => by simp [duVs] at hu) (by simp [duVs])
  · obtain ⟨b, o, rfl, hlt, hcell⟩ := hc (by omega)
    refine Src.ofSlice w hk _ i c _ hil (fun j u hu => ?_) (duVs_one _)
    rw [add_one]
    refine hcell j u ?_
    have hsp : duVs L = duVs (L.take i) ++ duVs (L.drop i) := by rw [← duVs_app, List.take_append_drop]
    rw [hsp, List.getElem?_append_left (List.getElem?_eq_some_iff.1 hu).1]
    exact hu
theorem srcD_drop {P : Program} {w : World} {e' tx : TypeId} {a : Option Addr} {n c : Nat} {L : List Du} (hk : P.underlying tx = some (.slice e')) (h : SlD w a n c L) (i : Nat) (hi : i ≤ n) : Src P 3 tx (.slice (cutA a c i 3) (n - i) (c - i)) (n - i) (duVs (L.drop i)) w := by
  obtain ⟨hl, hnc, hcm, hc⟩ := h
  have hil : (duVs (L.drop i)).length = (n - i) * 3 := by rw [duVs_len, List.length_drop, hl]
  rcases Nat.eq_zero_or_pos (n - i) with h0 | h0
  · rw [h0] at hil ⊢
    have hz : duVs (L.drop i) = [] := List.eq_nil_of_length_eq_zero (by simpa using hil)
    rw [hz]
    cases cutA a c i 3 with
    | none => exact Src.ofNil w hk _
    | some x => exact Src.ofSlice w hk x 0 _ _ rfl (fun j u hu => by simp at hu) (by simp)
  · obtain ⟨b, o, rfl, hlt, hcell⟩ := hc (by omega)
    unfold cutA
    rw [if_neg (by omega)]
    simp only [Option.map_some, add_one]
    refine Src.ofSlice w hk _ _ _ _ hil (fun j u hu => ?_) (duVs_one _)
    rw [add_one, Nat.add_assoc]
    refine hcell _ u ?_
    have hsp : duVs L = duVs (L.take i) ++ duVs (L.drop i) := by rw [← duVs_app, List.take_append_drop]
    have hlt2 : (duVs (L.take i)).length = i * 3 := by rw [duVs_len, List.length_take, Nat.min_eq_left (by omega)]
    rw [hsp, List.getElem?_append_right (by rw [hlt2]; omega), hlt2, Nat.add_sub_cancel_left]
    exact hu
theorem slD_app {w : World} {e : TypeId} {a : Option Addr} {n c : Nat} {g : Option Nat} {L : List Du} (h : App w e 3 (.slice a n c) n g (duVs L)) : SlD w a n c L := by
  have hl : L.length = n := by have := h.len; rw [duVs_len] at this; omega
  obtain ⟨⟨h1, h2⟩, h3⟩ := h
  rcases h2 with ⟨hv, h0⟩ | ⟨b, cap, cur, hv, _, hh, hnc, hcm, hcs, htake⟩
  · injection hv with e1 e2 e3
    subst e3
    exact ⟨hl, by omega, by unfold maxLen; omega, fun h => by omega⟩
  · injection hv with e1 e2 e3
    subst e1 e3
    refine ⟨hl, hnc, hcm, fun _ => ⟨b, 0, rfl, lt_heap hh, fun j u hu => ?_⟩⟩
    rw [cell_of_row w b _ cur _ _ hh, Nat.zero_add]
    rw [← htake, List.getElem?_take] at hu
    split at hu
    · rw [← Array.getElem?_toList]; exact hu
    · cases hu
theorem app_blk {w : World} {e : TypeId} {size n c : Nat} {y : Addr} {g : Option Nat} {xs : List Value} (h : App w e size (.slice (some y) n c) n g xs) : g = some y.block := by
  obtain ⟨_, h3⟩ := h
  exact h3.symm
theorem RfAt.store {w w6 : World} {p : Nat} {now : Int} {s : Option Addr} {n c : Nat} {L : List Du} (h : RfAt w p now s n c L) (k : Kept w w6) {e : TypeId} {a6 : Option Addr} {n6 c6 : Nat} {g6 : Option Nat} {L6 : List Du} (hA : App w6 e 3 (.slice a6 n6 c6) n6 g6 (duVs L6)) (hg : ∀ i ∈ g6.toList, w.heap.size ≤ i) :
    RfAt (w6.setCell ⟨p, 1, none⟩ (.slice a6 n6 c6)) p now a6 n6 c6 L6 ∧ Only [p] w (w6.setCell ⟨p, 1, none⟩ (.slice a6 n6 c6)) := by
  have hp := lt_heap h.box
  have O : Only [p] w6 (w6.setCell ⟨p, 1, none⟩ (.slice a6 n6 c6)) := (Only.refl _ _).setCell (fun _ => by simp) _
  have hoff : 0 < n6 → inB a6 [p] := fun _ y hy hm => by
    subst hy
    have := hg y.block (by rw [app_blk hA]; simp)
    simp at hm
    omega
  exact ⟨⟨at_set (k.only.heap h.box (by simp)) 1 _, (slD_app hA).only O hoff, hoff⟩, (k.only.mono (by simp)).trans O⟩
def dropD (a b : Int) : List Du → List Du
  | [] => []
  | x :: l => if x.1 = a ∧ x.2.1 = b then l else x :: dropD a b l
theorem fndD_spec (a b : Int) : ∀ (L : List Du) (i : Nat), (fndD a b L i = -1 ∧ dropD a b L = L ∧ ∀ x ∈ L, ¬ (x.1 = a ∧ x.2.1 = b)) ∨ ∃ k x, fndD a b L i = ((i + k : Nat) : Int) ∧ L[k]? = some x ∧ x.1 = a ∧ x.2.1 = b ∧ dropD a b L = L.take k ++ L.drop (k + 1)
  | [], i => .inl ⟨rfl, rfl, by simp⟩
  | x :: l, i => by
    by_cases h : x.1 = a ∧ x.2.1 = b
    · exact .inr ⟨0, x, by simp [fndD, h], rfl, h.1, h.2, by simp [dropD, h]⟩
    · rcases fndD_spec a b l (i + 1) with ⟨h1, h2, h3⟩ | ⟨k, y, h1, h2, h3, h4, h5⟩
      · refine .inl ⟨by rw [fndD, if_neg h]; exact h1, by rw [dropD, if_neg h, h2], fun y hy => ?_⟩
        rcases List.mem_cons.1 hy with rfl | hy
        · exact h
        · exact h3 y hy
      · exact .inr ⟨k + 1, y, by rw [fndD, if_neg h, h1]; congr 1; omega, by simpa using h2, h3, h4, by rw [dropD, if_neg h, h5]; simp⟩
def hasD (a b : Int) (L : List Du) : Bool := decide (0 ≤ fndD a b L 0)
set_option maxRecDepth 100000 in
set_option maxHeartbeats 4000000 in
theorem rf_drop {w : World} {p : Nat} {now : Int} {s : Option Addr} {n c : Nat} {L : List Du} (h : RfAt w p now s n c L) (hn : n ≤ 1000) (a b : Int) : Calls Try.prog 16 #[.pointer (some ⟨p, 0, none⟩), .int .i64 a, .int .i64 b] w fun e w' => e = .returned (.bool (hasD a b L)) ∧ Only [p] w w' ∧ ∃ s' n' c', RfAt w' p now s' n' c' (dropD a b L) := by
  have HF := Lib.hid (rf_find h hn a b)
  have hl := h.row.1
  have hnc := h.row.2.1
  have hcm := h.row.2.2.1
  unfold maxLen at hcm
  have HH := Lib.hid h
  rcases fndD_spec a b L 0 with ⟨h1, h2, h3⟩ | ⟨k, x, h1, h2, h3, h4, h5⟩
  · rw [h1] at HF
    have hb : hasD a b L = false := by unfold hasD; rw [h1]; rfl
    rw [h2]
    clear h
    go_enter Try.func16, Try.ntmps16
    go_wp2_with fail
    refine HF.out.mono ?_
    rintro E V ⟨rfl, rfl⟩
    go_wp2
    go_ret
    exact ⟨ret_bool hb.symm, Only.refl _ _, s, n, c, HH.out⟩
  · rw [Nat.zero_add] at h1
    rw [h1] at HF
    have hb : hasD a b L = true := by unfold hasD; rw [h1]; exact decide_eq_true (by omega)
    have hk : k < n := by rw [← hl]; exact (List.getElem?_eq_some_iff.1 h2).1
    have HDr := Lib.hid h5
    have hwr : IntKind.i64.wrap ((k : Int) + 1) = k + 1 := by rw [IntKind.wrap_i64]; omega
    have hs1 : ∀ W, (Instr.slice 44 (.slice s n c) none (some (.int .i64 (k : Int))) none).run Try.prog W = .ok (.slice s k c) W := fun W => run_cut_h elemD _ _ _ .i64 k _ rfl (by omega) W
    have hs2 : ∀ W, (Instr.slice 44 (.slice s n c) (some (.int .i64 ((k : Int) + 1))) none none).run Try.prog W = .ok (.slice (cutA s c (k + 1) 3) (n - (k + 1)) (c - (k + 1))) W := fun W => run_cut_l elemD s n c .i64 (k + 1) _ (by omega) (by omega) W
    obtain ⟨AC, hAC⟩ : ∃ AC, cutA s c (k + 1) 3 = AC := ⟨_, rfl⟩
    have HS1 := Lib.hid (fun V (kk : Kept w V) => srcD_take (P := Try.prog) (tx := 44) Try.underlying44 (h.row.kept kk) k (by omega))
    have HS2 := Lib.hid (fun V (kk : Kept w V) => srcD_drop (P := Try.prog) (tx := 44) Try.underlying44 (h.row.kept kk) (k + 1) (by omega))
    rw [hAC] at hs2 HS2
    have HC : Hid (∀ V, Kept w V → V.cell? ⟨p, 1, none⟩ = some (.slice s n c) ∧ V.frozen? ⟨p, 1, none⟩ = false) := fun V kk => ⟨(h.keep kk).cells.2, one_free (h.keep kk).box 1⟩
    clear h h1 h2 h3 h4 h5 hAC
    go_enter Try.func16, Try.ntmps16
    go_wp2_with fail
    refine HF.out.mono ?_
    rintro E V ⟨rfl, rfl⟩
    go_wp2_with fail
    have KD : Kept w w.drew := (Kept.refl _).dr ⟨1, rfl⟩
    have K0 : Kept w ((w.alloc (.cells #[] 43)).drew) := (kept_al _ _).dr ⟨1, rfl⟩
    have hA0 : Hid (((w.alloc (.cells #[] 43)).drew).heap[w.heap.size]? = some (.cells #[] 43 (0, 0))) := heap_alloc_new w _
    obtain ⟨c0, f0⟩ := HC.out _ KD
    obtain ⟨c1, f1⟩ := HC.out _ K0
    go_region_law (first
      | (refine step_app rfl (.tmp 15) (.tmp 21) 44 44 rfl elemD _ 0 _ _ rfl (app0 hA0.out) _ k _ rfl (HS1.out _ K0) (by omega) (by unfold maxLen; omega) ?_; intro a5 c5 g5 w5 hA5 hO5 hG5; rw [Nat.zero_add, List.nil_append] at hA5; rw [Nat.zero_add]; have KE : Kept w w5 := K0.onl hO5 (by intro i hi; simp at hi; omega); have HA5 := Lib.hid hA5; have HG5 : Hid (∀ i ∈ g5.toList, w.heap.size ≤ i) := (by intro i hi; rcases hG5 with rfl | rfl <;> simp at hi <;> omega); obtain ⟨c5', f5⟩ := HC.out _ KE; clear hA5 hO5 hG5)
      | (refine step_app rfl (.tmp 22) (.tmp 29) 44 44 rfl elemD _ k _ _ rfl HA5.out _ (n - (k + 1)) _ rfl (HS2.out _ KE) (by omega) (by unfold maxLen; omega) ?_; intro a6 c6 g6 w6 hA6 hO6 hG6; have KF : Kept w w6 := KE.onl hO6 (by intro i hi; exact HG5.out i hi); have HA6 := Lib.hid hA6; have HG6 : Hid (∀ i ∈ g6.toList, w.heap.size ≤ i) := (by intro i hi; rcases hG6 with rfl | rfl; exact HG5.out i hi; have := KE.size; simp at hi; omega); obtain ⟨c6', f6⟩ := HC.out _ KF; clear hA6 hO6 hG6))
    all_goals (
      have hF := HH.out.store KF (L6 := L.take k ++ L.drop (k + 1)) (by rw [duVs_app]; exact HA6.out) HG6.out
      go_wp2
      go_ret
      first | exact ⟨ret_bool hb.symm, hF.2, _, _, _, by rw [HDr.out]; exact hF.1⟩ | skip)
end Go.Proofs.Ytneehfngphpccaa
