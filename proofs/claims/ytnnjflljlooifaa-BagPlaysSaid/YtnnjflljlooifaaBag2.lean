/- The bag: Put of an ack. -/
import Derived.Test.YtnnjflljlooifaaBag1
set_option linter.unusedVariables false
set_option linter.unusedSimpArgs false
namespace Go.Proofs.Ytnnjflljlooifaa
open Go.RowKit
def putE (x : Int × Int) (A : List (Int × Int)) : Int := if ackOk x = false then 1 else if 64 ≤ A.length then 6 else 0
def putA (x : Int × Int) (A : List (Int × Int)) : List (Int × Int) := if putE x A = 0 then A ++ [x] else A
theorem bagW_push {X w W1 w5 : World} {p : Nat} {g : Option Nat} {a : Option Addr} {c : Nat} {R : List BV} {A : List (Int × Int)} {x : Int × Int} {a5 : Option Addr} {c5 : Nat} {g5 : Option Nat} {a1 : Option Addr} {n1 c1 : Nat}
    (h : BagW X w p g A) (hb : BagAt w p g a c R A) (k : Kept w W1) (o : Only g.toList W1 w5) (hA5 : App w5 53 1 (.slice a5 (A.length + 1) c5) (A.length + 1) g5 (bvs R ++ [.slice a1 n1 c1])) (hg5 : g5 = g ∨ g5 = some W1.heap.size)
    (hS : Sl .u8 W1 a1 n1 c1 (ackB x)) (hf : ∀ y, a1 = some y → w.heap.size ≤ y.block) (hx : ackOk x = true ∧ AckTo x) (hl : A.length < 64) :
    BagW X (w5.setCell ⟨p, 0, none⟩ (.slice a5 (A.length + 1) c5)) p g5 (A ++ [x]) ∧ Only (p :: g.toList) w (w5.setCell ⟨p, 0, none⟩ (.slice a5 (A.length + 1) c5)) := by
  have hRl : R.length = A.length := by have := hb.app.len; unfold bvs at this; rw [List.length_map] at this; omega
  have hpw := lt_heap hb.box
  have hks := k.size
  have hpg : ∀ b, g = some b → p ≠ b := fun b hbb => by have := h.went b hbb; have := h.pX; omega
  have hgw : ∀ b, g = some b → b < w.heap.size := hb.app.lt
  have hpg5 : p ∉ g5.toList := by
    rcases hg5 with rfl | rfl
    · intro hm
      cases g5 with
      | none => simp at hm
      | some b => simp at hm; exact hpg b rfl hm
    · simp; omega
  have hpgl : p ∉ g.toList := by
    intro hm
    cases g with
    | none => simp at hm
    | some b => simp at hm; exact hpg b rfl hm
  have O2 : Only [p] w5 (w5.setCell ⟨p, 0, none⟩ (.slice a5 (A.length + 1) c5)) := (Only.refl _ _).setCell (fun _ => by simp) _
  have OT : Only (p :: g.toList) W1 (w5.setCell ⟨p, 0, none⟩ (.slice a5 (A.length + 1) c5)) := (o.mono (by intro i _ hm; exact List.mem_cons_of_mem _ hm)).then O2 (by intro i _ hm; simp at hm; simp [hm])
  have OW : Only (p :: g.toList) w (w5.setCell ⟨p, 0, none⟩ (.slice a5 (A.length + 1) c5)) := (k.only.mono (by simp)).then OT (by intro i _ hm; exact hm)
  have hsub : ∀ i, i < W1.heap.size → i ∈ p :: g5.toList → i ∈ p :: g.toList := by
    intro i hi hm
    rcases List.mem_cons.1 hm with rfl | hm
    · simp
    · rcases hg5 with rfl | rfl
      · exact List.mem_cons_of_mem _ hm
      · simp at hm; omega
  refine ⟨⟨⟨a5, c5, R ++ [⟨a1, n1, c1⟩], ?_, ?_, ?_⟩, ?_, h.pX, ?_, ?_, ?_⟩, OW⟩
  · have hh := o.heap (k.only.heap hb.box (by simp)) hpgl
    rw [List.length_append, List.length_singleton]
    exact one_set hh _
  · have := O2.app hA5 (by intro b hbb; simp; rintro rfl; exact hpg5 (by rw [hbb]; simp))
    rw [List.length_append, List.length_singleton]
    unfold bvs at this ⊢
    rw [List.map_append]
    exact this
  · intro i r y hr hy
    rcases Nat.lt_or_ge i A.length with hi | hi
    · rw [List.getElem?_append_left (by omega)] at hr hy
      exact (hb.row.only OW (fun j hj hm => hsub j (by omega) hm)) i r y hr hy
    · rw [List.getElem?_append_right (by omega)] at hr hy
      obtain ⟨j, hj⟩ : ∃ j, i = A.length + j := ⟨i - A.length, by omega⟩
      subst hj
      rw [hRl, Nat.add_sub_cancel_left] at hr
      rw [Nat.add_sub_cancel_left] at hy
      cases j with
      | succ j => simp at hr
      | zero =>
        obtain rfl : (⟨a1, n1, c1⟩ : BV) = r := by simpa using hr
        obtain rfl : x = y := by simpa using hy
        have hpos := ackB_pos x
        obtain ⟨b, o', hab, hbl, _⟩ := hS.2.2.2 0 (by rw [← hS.1]; exact hpos)
        have hfr := hf _ hab
        dsimp only at hfr ⊢
        have hne : ∀ y, a1 = some y → y.block < W1.heap.size ∧ y.block ∉ p :: g.toList := by
          intro y hy
          rw [hab] at hy
          injection hy with hy
          subst hy
          refine ⟨hbl, fun hm => ?_⟩
          rcases List.mem_cons.1 hm with hm | hm
          · simp at hm; omega
          · cases g with
            | none => simp at hm
            | some b' => have := hgw b' rfl; simp at hm; omega
        exact ⟨OT.sl hS (fun y hy => (hne y hy).2), fun y hy => ⟨Nat.lt_of_lt_of_le (hne y hy).1 OT.size, fun hm => (hne y hy).2 (hsub _ (hne y hy).1 hm)⟩⟩
  · have hX := h.only.size
    exact h.only.then OW (by
      intro i hi hm
      rcases List.mem_cons.1 hm with rfl | hm
      · simp
      · cases g with
        | none => simp at hm
        | some b => have := h.went b rfl; simp at hm; omega)
  · intro b hbb
    have hX := h.only.size
    rcases hg5 with rfl | rfl
    · exact h.went b hbb
    · injection hbb with hbb; omega
  · intro y hy
    rcases List.mem_append.1 hy with hy | hy
    · exact h.ok y hy
    · obtain rfl : y = x := by simpa using hy
      exact hx
  · rw [List.length_append, List.length_singleton]; omega
set_option maxRecDepth 100000 in
set_option maxHeartbeats 4000000 in
theorem bag_put {X : World} (p : Nat) (g : Option Nat) (A : List (Int × Int)) (n d : Int) (la ta : Option Addr) (lc tc : Nat) (w : World) (hB : BagW X w p g A) (hM : MsgAt w la 0 lc ta 0 tc [] []) (hd : d = 0 ∨ d = 1) :
    Calls Try.prog 8 #[.pointer (some ⟨p, 0, none⟩), .agg #[.int .i64 2, .int .i64 (1 - d), .int .i64 d, .int .i64 1, .int .i64 n, .int .i64 0, .slice la 0 lc, .slice ta 0 tc, .int .i64 0]] w fun e w' =>
      e = .returned (.int .i64 (putE (n, d) A)) ∧ ∃ g', BagW X w' p g' (putA (n, d) A) ∧ Only (p :: g.toList) w w' := by
  have HM := Lib.hid hM
  have HG := Lib.hid (fun V (kk : Kept w V) => cGood (k := 2) (f := 1 - d) (t := d) (e := 1) (o := n) (p := 0) (te := 0) (hM.kept kk) isW_nil (by omega) (ack_good n d hd la ta lc tc))
  have HP := Lib.hid (fun V (kk : Kept w V) => cPutF (k := 2) (f := 1 - d) (t := d) (e := 1) (o := n) (p := 0) (te := 0) (hM.kept kk) (by simp) isW_nil (by omega))
  rw [ack_good n d hd la ta lc tc] at HP
  have HB := Lib.hid hB
  obtain ⟨⟨a, c, R, hbat⟩, hBo, hpX, hgw, hok, hfew⟩ := hB
  have hbat0 := hbat
  obtain ⟨hBx, hBa, hBr⟩ := hbat0
  have hBp := lt_heap hBx
  have K0 := kept_al w (.cells #[.int .i64 2, .int .i64 (1 - d), .int .i64 d, .int .i64 1, .int .i64 n, .int .i64 0, .slice la 0 lc, .slice ta 0 tc, .int .i64 0] 33)
  have hq := heap_alloc_new w (.cells #[.int .i64 2, .int .i64 (1 - d), .int .i64 d, .int .i64 1, .int .i64 n, .int .i64 0, .slice la 0 lc, .slice ta 0 tc, .int .i64 0] 33)
  have hpg : p ∉ g.toList := by
    intro h
    cases g with
    | none => simp at h
    | some b => have := hgw b rfl; simp at h; omega
  have hqg : w.heap.size ∉ g.toList := by
    intro h
    cases g with
    | none => simp at h
    | some b => have := hBa.lt b rfl; simp at h; omega
  go_enter Try.func8, Try.ntmps8
  go_upto_region 1 with fail
  have hbx := K0.only.heap hBx (by simp)
  have HAp := Lib.hid (K0.only.app hBa (by simp))
  obtain ⟨q, hqe⟩ : ∃ q, w.heap.size = q := ⟨_, rfl⟩
  rw [hqe] at hq hqg ⊢
  generalize World.alloc w _ = Y at *
  have HC : Hid (∀ V, Only g.toList Y V → V.cell? ⟨p, 0, none⟩ = some (.slice a A.length c) ∧ V.cell? ⟨q, 0, none⟩ = some (.int .i64 2) ∧ V.cell? ⟨q, 1, none⟩ = some (.int .i64 (1 - d)) ∧ V.cell? ⟨q, 2, none⟩ = some (.int .i64 d) ∧ V.cell? ⟨q, 3, none⟩ = some (.int .i64 1) ∧ V.cell? ⟨q, 4, none⟩ = some (.int .i64 n) ∧ V.cell? ⟨q, 5, none⟩ = some (.int .i64 0) ∧ V.cell? ⟨q, 6, none⟩ = some (.slice la 0 lc) ∧ V.cell? ⟨q, 7, none⟩ = some (.slice ta 0 tc) ∧ V.cell? ⟨q, 8, none⟩ = some (.int .i64 0)) := fun V kk => ⟨at_cell (kk.heap hbx hpg) 0 _ rfl, nine_cells (kk.heap hq hqg)⟩
  have HF : Hid (∀ V, Only g.toList Y V → V.frozen? ⟨p, 0, none⟩ = false) := fun V kk => one_free (kk.heap hbx hpg) 0
  have HX : Hid (∀ V, Only g.toList Y V → V.heap[p]? = some (.cells #[.slice a A.length c] 51 (0, 0))) := fun V kk => kk.heap hbx hpg
  obtain ⟨_, q0, q1, q2, q3, q4, q5, q6, q7, q8⟩ := HC.out _ (Only.refl _ _)
  have HZ := Lib.hid hq
  have hqp : q ≠ p := by omega
  clear hbx hq hM
  go_wp2_with fail
  refine (HG.out _ K0).mono ?_
  rintro E V ⟨rfl, J⟩
  clear q0 q1 q2 q3 q4 q5 q6 q7 q8
  have KV := K0.trans J
  have KV0 := KV.size
  have OV : Only g.toList Y V := J.only.mono (by simp)
  clear J
  cases hg : ackOk (n, d) with
  | false =>
    go_wp2
    go_ret
    have h1 : putE (n, d) A = 1 := if_pos hg
    refine ⟨ret_int h1.symm, g, ?_, KV.only.mono (by simp)⟩
    rw [show putA (n, d) A = A from if_neg (by rw [h1]; decide)]
    exact HB.out.keep KV
  | true =>
    obtain ⟨c0, _⟩ := HC.out _ OV
    rw [hg] at HP
    simp only [if_true] at HP
    by_cases hf0 : 64 ≤ A.length
    · have hf' : (64 : Int) ≤ A.length := by omega
      go_wp2
      go_ret
      have h1 : putE (n, d) A = 6 := by unfold putE; rw [if_neg (by rw [hg]; decide), if_pos hf0]
      refine ⟨ret_int h1.symm, g, ?_, KV.only.mono (by simp)⟩
      rw [show putA (n, d) A = A from if_neg (by rw [h1]; decide)]
      exact HB.out.keep KV
    · have hf' : ¬ (64 : Int) ≤ A.length := by omega
      go_wp2_with fail
      clear c0
      have KD : Only g.toList Y V.drew := OV.drew
      have KW : Kept w V.drew := KV.dr ⟨1, rfl⟩
      have c0 := (HC.out _ KD).1
      have f0 := HF.out _ KD
      have HQ : Hid (∀ V, Only (p :: g.toList) Y V → V.cell? ⟨q, 0, none⟩ = some (.int .i64 2) ∧ V.cell? ⟨q, 1, none⟩ = some (.int .i64 (1 - d)) ∧ V.cell? ⟨q, 2, none⟩ = some (.int .i64 d) ∧ V.cell? ⟨q, 3, none⟩ = some (.int .i64 1) ∧ V.cell? ⟨q, 4, none⟩ = some (.int .i64 n) ∧ V.cell? ⟨q, 5, none⟩ = some (.int .i64 0) ∧ V.cell? ⟨q, 6, none⟩ = some (.slice la 0 lc) ∧ V.cell? ⟨q, 7, none⟩ = some (.slice ta 0 tc) ∧ V.cell? ⟨q, 8, none⟩ = some (.int .i64 0)) := fun V kk => nine_cells (kk.heap HZ.out (by intro h; rcases List.mem_cons.1 h with h | h; exact hqp h; exact hqg h))
      have hlen : Hid (A.length < 64) := by unfold Hid; omega
      obtain ⟨q0, q1, q2, q3, q4, q5, q6, q7, q8⟩ := (HC.out _ KD).2
      go_region_law (first
        | (refine step_app rfl (.tmp 20) (.tmp 23) 49 49 rfl elemBB _ A.length _ _ rfl HAB.out _ 1 _ rfl (src_block Try.underlying49 HH.out 1 1 rfl (by simp [Value.oneCell'])) (by have := hlen.out; omega) (by have := hlen.out; unfold maxLen; omega) ?_; intro a5 c5 g5 w5 hA5 hO5 hG5; have HA5 := Lib.hid hA5; have HO5 := Lib.hid hO5; have HG5 := Lib.hid hG5; clear KD; have KD := KC.trans hO5; clear KC; have cw := (HC.out _ KD).1; have hf := HF.out _ KD; have KQ : Only (p :: g.toList) Y (w5.setCell ⟨p, 0, none⟩ (.slice a5 (A.length + 1) c5)) := (KD.mono (by intro i _ h; exact List.mem_cons_of_mem _ h)).setCell (fun _ => by simp) _; clear hA5 hO5 hG5)
        | (go_simp; go_at_call 18; clear q0 q1 q2 q3 q4 q5 q6 q7 q8; refine (HP.out _ KW).mono ?_; rintro E V1 ⟨a1, n1, c1, rfl, hS, J, hF⟩; replace KW := KW.trans J; have HAB : Hid (App (V1.alloc (.cells #[.slice a1 n1 c1] 53)) 53 1 (.slice a A.length c) A.length g (bvs R)) := (KW.trans (kept_al V1 _)).only.app hBa (by simp); have HH : Hid ((V1.alloc (.cells #[.slice a1 n1 c1] 53)).heap[V1.heap.size]? = some (.cells #[.slice a1 n1 c1] 53 (0, 0))) := heap_alloc_new V1 _; replace KD : Only g.toList Y V1 := KD.trans (J.only.mono (by simp)); have KC : Only g.toList Y (V1.alloc (.cells #[.slice a1 n1 c1] 53)) := KD.alloc _; have c1 := (HC.out _ KD).1; have c2 := (HC.out _ KC).1; have f1 := HF.out _ KD; have f2 := HF.out _ KC; have HS := Lib.hid hS; have HSf := Lib.hid hF; clear hS hF J))
      all_goals (
        go_wp2
        go_ret
        have h1 : putE (n, d) A = 0 := by unfold putE; rw [if_neg (by rw [hg]; decide), if_neg hf0]
        have h2 : putA (n, d) A = A ++ [(n, d)] := if_pos h1
        rw [h2]
        have hh := bagW_push (x := (n, d)) HB.out hbat (KW.trans (kept_al V1 _)) HO5.out HA5.out HG5.out ((kept_al V1 _).sl HS.out) (fun y hy => Nat.le_trans KV0 (HSf.out y hy)) ⟨hg, hd⟩ hlen.out
        first | exact ⟨ret_int h1.symm, g5, hh⟩ | exact ⟨ret_int h1.symm, ⟨g5, hh.1⟩, hh.2⟩)
end Go.Proofs.Ytnnjflljlooifaa
