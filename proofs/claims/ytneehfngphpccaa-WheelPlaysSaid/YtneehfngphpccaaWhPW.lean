/- The wheel beside the document's. -/
import Derived.Test.YtneehfngphpccaaWhRef5
import Derived.Test.YtneehfngphpccaaWhOnceM
set_option linter.unusedVariables false
set_option linter.unusedSimpArgs false
namespace Go.Proofs.Ytneehfngphpccaa
open Go.RowKit
/-- the row's elements lie in neither of the wheel's blocks: by what lies there -/
theorem row_off {w : World} {p q : Nat} {now : Int} {L0 : List Du} (h : WhL w p q now L0) {s : Option Addr} {n c : Nat} {L : List Du} (hr : SlD w s n c L) (hn : 0 < n) : inB s [p, q] := by
  obtain ⟨M, ck, hM, _⟩ := h
  obtain ⟨x, hx⟩ : ∃ x, L[0]? = some x := ⟨_, List.getElem?_eq_getElem (by rw [hr.1]; exact hn)⟩
  obtain ⟨b, o, hs, q0, q1, q2⟩ := hr.at hx
  intro y hy hm
  rw [hs] at hy
  injection hy with hy
  subst hy
  simp only [List.mem_cons, List.not_mem_nil, or_false] at hm
  rcases hm with rfl | rfl
  · have hb := hM.box
    simp only [World.cell?, hb] at q0 q1 q2
    have hlt : ∀ j v, (#[Value.int .i64 now, Value.map (some q)] : Array Value)[j]? = some v → j = 0 ∧ v = .int .i64 now ∨ j = 1 ∧ v = .map (some q) := by
      intro j v hv
      rcases j with _ | _ | j
      · simp at hv; exact .inl ⟨rfl, hv.symm⟩
      · simp at hv; exact .inr ⟨rfl, hv.symm⟩
      · simp at hv
    rcases hlt _ _ q1 with ⟨h1, _⟩ | ⟨_, h2⟩
    · omega
    · cases h2
  · have hb := hM.map
    unfold MapAt at hb
    simp [World.cell?, hb] at q0
structure PW (X w : World) (p q pr : Nat) (nx : Int) (Lx : List Du) (nr : Int) (Lr : List Du) : Prop where
  x : WS X w p q nx Lx
  r : ∃ s n c, RfAt w pr nr s n c Lr
  hpr : X.heap.size ≤ pr
  np : pr ≠ p
  nq : pr ≠ q
theorem PW.goX {X w w' : World} {p q pr : Nat} {nx nx' : Int} {Lx Lx' : List Du} {nr : Int} {Lr : List Du} (h : PW X w p q pr nx Lx nr Lr) (hW : WS X w' p q nx' Lx') (O : Only [p, q] w w') : PW X w' p q pr nx' Lx' nr Lr := by
  obtain ⟨s, n, c, hr⟩ := h.r
  exact ⟨hW, ⟨s, n, c, O.heap hr.box (by simp; exact ⟨h.np, h.nq⟩), hr.row.only O (fun hn => row_off h.x.wh hr.row hn), hr.off⟩, h.hpr, h.np, h.nq⟩
theorem PW.goR {X w w' : World} {p q pr : Nat} {nx : Int} {Lx : List Du} {nr nr' : Int} {Lr Lr' : List Du} (h : PW X w p q pr nx Lx nr Lr) (hR : ∃ s n c, RfAt w' pr nr' s n c Lr') (O : Only [pr] w w') : PW X w' p q pr nx Lx nr' Lr' :=
  ⟨⟨h.x.wh.only O (by simp; exact h.np.symm) (by simp; exact h.nq.symm), h.x.kept.onl O (by intro i hi; simp at hi; subst hi; exact h.hpr), h.x.hp, h.x.hq⟩, hR, h.hpr, h.np, h.nq⟩
theorem PW.keep {X w w' : World} {p q pr : Nat} {nx : Int} {Lx : List Du} {nr : Int} {Lr : List Du} (h : PW X w p q pr nx Lx nr Lr) (k : Kept w w') : PW X w' p q pr nx Lx nr Lr := by
  obtain ⟨s, n, c, hr⟩ := h.r
  exact ⟨h.x.keep k, ⟨s, n, c, hr.keep k⟩, h.hpr, h.np, h.nq⟩
theorem only3a {p q pr : Nat} {w w' : World} (h : Only [p, q] w w') : Only [p, q, pr] w w' := h.mono (by intro k _ hk; simp at hk ⊢; rcases hk with h | h <;> simp [h])
theorem only3b {p q pr : Nat} {w w' : World} (h : Only [pr] w w') : Only [p, q, pr] w w' := h.mono (by intro k _ hk; simp at hk ⊢; simp [hk])
theorem insD_len (x : Du) (L : List Du) : (insD x L).length = L.length + 1 := by
  have := insK_le x L
  unfold insD
  simp [List.length_take, List.length_drop]
  omega
section
variable {X w : World} {p q pr : Nat} {nx nr : Int} {Lx Lr : List Du}
theorem pw_set (h : PW X w p q pr nx Lx nr Lr) (a b t : Int) (ht : t ≤ 1099511627776) (hn : nx < t) : Calls Try.prog 8 #[.pointer (some ⟨p, 0, none⟩), .agg #[.int .i64 a, .int .i64 b], .int .i64 t] w fun e w' => e = .returned (.int .i64 0) ∧ PW X w' p q pr nx (insD (a, b, t) (dropD a b Lx)) nr Lr ∧ Only [p, q, pr] w w' :=
  (ws_set h.x a b t ht hn).mono fun e w' ⟨h1, h2, h3⟩ => ⟨h1, h.goX h2 h3, only3a h3⟩
theorem pw_set_no (h : PW X w p q pr nx Lx nr Lr) (a b t : Int) (ht : 1099511627776 < t ∨ t ≤ nx) : Calls Try.prog 8 #[.pointer (some ⟨p, 0, none⟩), .agg #[.int .i64 a, .int .i64 b], .int .i64 t] w fun e w' => e = .returned (.int .i64 1) ∧ PW X w' p q pr nx Lx nr Lr ∧ Only [p, q, pr] w w' :=
  (ws_set_no h.x a b t ht).mono fun e w' ⟨h1, h2, h3⟩ => ⟨h1, h.goX h2 h3, only3a h3⟩
theorem pw_drop (h : PW X w p q pr nx Lx nr Lr) (a b : Int) : Calls Try.prog 11 #[.pointer (some ⟨p, 0, none⟩), .agg #[.int .i64 a, .int .i64 b]] w fun e w' => e = .returned (.bool (hasD a b Lx)) ∧ PW X w' p q pr nx (dropD a b Lx) nr Lr ∧ Only [p, q, pr] w w' :=
  (ws_drop h.x a b).mono fun e w' ⟨h1, h2, h3⟩ => ⟨h1, h.goX h2 h3, only3a h3⟩
theorem pr_set (h : PW X w p q pr nx Lx nr Lr) (hl : Lr.length ≤ 1000) (a b t : Int) (ht : t ≤ 1099511627776) (hn : nr < t) : Calls Try.prog 15 #[.pointer (some ⟨pr, 0, none⟩), .int .i64 a, .int .i64 b, .int .i64 t] w fun e w' => e = .returned (.int .i64 0) ∧ PW X w' p q pr nx Lx nr (insD (a, b, t) (dropD a b Lr)) ∧ Only [p, q, pr] w w' := by
  obtain ⟨s, n, c, hr⟩ := h.r
  exact (rf_set hr (by rw [← hr.row.1]; exact hl) a b t ht hn).mono fun e w' ⟨h1, h2, h3⟩ => ⟨h1, h.goR h3 h2, only3b h2⟩
theorem pr_set_no (h : PW X w p q pr nx Lx nr Lr) (a b t : Int) (ht : 1099511627776 < t ∨ t ≤ nr) : Calls Try.prog 15 #[.pointer (some ⟨pr, 0, none⟩), .int .i64 a, .int .i64 b, .int .i64 t] w fun e w' => e = .returned (.int .i64 1) ∧ PW X w' p q pr nx Lx nr Lr ∧ Only [p, q, pr] w w' := by
  obtain ⟨s, n, c, hr⟩ := h.r
  refine (rf_set_no hr a b t ht).mono ?_
  rintro e w' ⟨h1, rfl⟩
  exact ⟨h1, h, Only.refl _ _⟩
theorem pr_drop (h : PW X w p q pr nx Lx nr Lr) (hl : Lr.length ≤ 1000) (a b : Int) : Calls Try.prog 16 #[.pointer (some ⟨pr, 0, none⟩), .int .i64 a, .int .i64 b] w fun e w' => e = .returned (.bool (hasD a b Lr)) ∧ PW X w' p q pr nx Lx nr (dropD a b Lr) ∧ Only [p, q, pr] w w' := by
  obtain ⟨s, n, c, hr⟩ := h.r
  exact (rf_drop hr (by rw [← hr.row.1]; exact hl) a b).mono fun e w' ⟨h1, h2, h3⟩ => ⟨h1, h.goR h3 h2, only3b h2⟩
theorem pw_to_no (h : PW X w p q pr nx Lx nr Lr) (t : Int) (ht : t < nx ∨ 1099511627776 < t) : Calls Try.prog 9 #[.pointer (some ⟨p, 0, none⟩), .int .i64 t] w fun e w' => e = .returned (.tuple #[.slice none 0 0, .int .i64 1]) ∧ w = w' := ws_to_no h.x t ht
theorem pr_to_no (h : PW X w p q pr nx Lx nr Lr) (t : Int) (ht : t < nr ∨ 1099511627776 < t) : Calls Try.prog 17 #[.pointer (some ⟨pr, 0, none⟩), .int .i64 t] w fun e w' => e = .returned (.tuple #[.slice none 0 0, .int .i64 1]) ∧ w = w' := by
  obtain ⟨s, n, c, hr⟩ := h.r
  exact rf_to_no hr t ht
theorem pw_to (h : PW X w p q pr nx Lx nr Lr) (hn : Lx.length ≤ 1000) (t : Int) (h1 : nx ≤ t) (h2 : t ≤ 1099511627776) : Calls Try.prog 9 #[.pointer (some ⟨p, 0, none⟩), .int .i64 t] w fun e w' => ∃ (a : Option Addr) (c : Nat), e = .returned (.tuple #[.slice a (dueK t Lx) c, .int .i64 0]) ∧ SlD w' a (dueK t Lx) c (Lx.take (dueK t Lx)) ∧ PW X w' p q pr t (Lx.drop (dueK t Lx)) nr Lr ∧ Only [p, q, pr] w w' ∧ inB a [pr] :=
  (wl_to sort_says h.x.wh hn t h1 h2).mono fun e w' ⟨a, c, e1, e2, e3, e4, e5⟩ => ⟨a, c, e1, e2, h.goX (h.x.go e3 e4) e4, only3a e4, fun y hy hm => by
    have := e5 y hy
    obtain ⟨s, n, c, hr⟩ := h.r
    have := lt_heap hr.box
    simp at hm
    omega⟩
theorem pr_to (h : PW X w p q pr nx Lx nr Lr) (hn : Lr.length ≤ 1000) (t : Int) (h1 : nr ≤ t) (h2 : t ≤ 1099511627776) : Calls Try.prog 17 #[.pointer (some ⟨pr, 0, none⟩), .int .i64 t] w fun e w' => ∃ (a : Option Addr) (c : Nat), e = .returned (.tuple #[.slice a (dueK t Lr) c, .int .i64 0]) ∧ SlD w' a (dueK t Lr) c (Lr.take (dueK t Lr)) ∧ PW X w' p q pr nx Lx t (Lr.drop (dueK t Lr)) ∧ Only [pr] w w' := by
  obtain ⟨s, n, c, hr⟩ := h.r
  refine (rf_to hr (by rw [← hr.row.1]; exact hn) t h1 h2).mono ?_
  rintro e w' ⟨a5, c5, s', c', e1, e2, e3, e4⟩
  exact ⟨a5, c5, e1, e2, h.goR ⟨_, _, _, e3⟩ e4, e4⟩
theorem pw_at (h : PW X w p q pr nx Lx nr Lr) (a b : Int) : Calls Try.prog 13 #[.pointer (some ⟨p, 0, none⟩), .agg #[.int .i64 a, .int .i64 b]] w fun e w' => e = .returned (.tuple #[.int .i64 (atD a b Lx), .bool (hasD a b Lx)]) ∧ Kept w w' := wl_at h.x.wh a b
theorem pr_at (h : PW X w p q pr nx Lx nr Lr) (hn : Lr.length ≤ 1000) (a b : Int) : Calls Try.prog 18 #[.pointer (some ⟨pr, 0, none⟩), .int .i64 a, .int .i64 b] w fun e w' => e = .returned (.tuple #[.int .i64 (atD a b Lr), .bool (hasD a b Lr)]) ∧ w = w' := by
  obtain ⟨s, n, c, hr⟩ := h.r
  exact rf_at hr (by rw [← hr.row.1]; exact hn) a b
theorem pw_next (h : PW X w p q pr nx Lx nr Lr) (hn : Lx.length ≤ 1000) : Calls Try.prog 12 #[.pointer (some ⟨p, 0, none⟩)] w fun e w' => e = .returned (.tuple #[.int .i64 (nextD Lx).1, .bool (nextD Lx).2]) ∧ Kept w w' := wl_next sort_says h.x.wh hn
theorem pr_next (h : PW X w p q pr nx Lx nr Lr) : Calls Try.prog 19 #[.pointer (some ⟨pr, 0, none⟩)] w fun e w' => e = .returned (.tuple #[.int .i64 (nextD Lr).1, .bool (nextD Lr).2]) ∧ w = w' := by
  obtain ⟨s, n, c, hr⟩ := h.r
  exact rf_next hr
theorem pw_now (h : PW X w p q pr nx Lx nr Lr) : Calls Try.prog 20 #[.pointer (some ⟨p, 0, none⟩)] w fun e w' => e = .returned (.int .i64 nx) ∧ w = w' := wl_now h.x.wh
theorem pw_len (h : PW X w p q pr nx Lx nr Lr) : Calls Try.prog 10 #[.pointer (some ⟨p, 0, none⟩)] w fun e w' => e = .returned (.int .i64 Lx.length) ∧ w = w' := wl_len h.x.wh
theorem pr_len (h : PW X w p q pr nx Lx nr Lr) : Calls Try.prog 21 #[.pointer (some ⟨pr, 0, none⟩)] w fun e w' => e = .returned (.int .i64 Lr.length) ∧ w = w' := by
  obtain ⟨s, n, c, hr⟩ := h.r
  rw [hr.row.1]
  exact rf_len hr
theorem PW.now0 (h : PW X w p q pr nx Lx nr Lr) : w.cell? ⟨pr, 0, none⟩ = some (.int .i64 nr) := by
  obtain ⟨s, n, c, hr⟩ := h.r
  exact hr.cells.1
end
/-- an act: what is done, whose, when -/
abbrev Ac := Int × Int × Int × Int
def actOf (x : TyAct.den) : Ac := (x.1, x.2.1.1, x.2.1.2.1, x.2.2.1)
def SlAc (w : World) (a : Option Addr) (n c : Nat) (L : List Ac) : Prop :=
  L.length = n ∧ n ≤ c ∧ c ≤ maxLen ∧ ∀ i x, L[i]? = some x → ∃ b o, a = some ⟨b, o, none⟩ ∧ b < w.heap.size ∧ w.cell? ⟨b, o + i * 4, none⟩ = some (.int .i64 x.1) ∧ w.cell? ⟨b, o + i * 4 + 1, none⟩ = some (.int .i64 x.2.1) ∧ w.cell? ⟨b, o + i * 4 + 2, none⟩ = some (.int .i64 x.2.2.1) ∧ w.cell? ⟨b, o + i * 4 + 3, none⟩ = some (.int .i64 x.2.2.2)
theorem SlAc.kept {w w' : World} {a : Option Addr} {n c : Nat} {L : List Ac} (h : SlAc w a n c L) (k : Kept w w') : SlAc w' a n c L := by
  refine ⟨h.1, h.2.1, h.2.2.1, fun i x hx => ?_⟩
  obtain ⟨b, o, h1, h2, h3, h4, h5, h6⟩ := h.2.2.2 i x hx
  exact ⟨b, o, h1, Nat.lt_of_lt_of_le h2 k.size, k.cel h3, k.cel h4, k.cel h5, k.cel h6⟩
theorem slT_act {w : World} {a : Option Addr} {n c : Nat} {l : List TyAct.den} (h : SlT w TyAct a n c l) : SlAc w a n c (l.map actOf) ∧ ∀ x ∈ l.map actOf, (-9223372036854775808 ≤ x.2.2.2 ∧ x.2.2.2 ≤ 9223372036854775807) := by
  obtain ⟨h1, h2, h3, h4⟩ := h
  have hall : ∀ i y, l[i]? = some y → ∃ b o, a = some ⟨b, o, none⟩ ∧ b < w.heap.size ∧ w.cell? ⟨b, o + i * 4, none⟩ = some (.int .i64 y.1) ∧ w.cell? ⟨b, o + i * 4 + 1, none⟩ = some (.int .i64 y.2.1.1) ∧ w.cell? ⟨b, o + i * 4 + 2, none⟩ = some (.int .i64 y.2.1.2.1) ∧ w.cell? ⟨b, o + i * 4 + 3, none⟩ = some (.int .i64 y.2.2.1) ∧ (Lit.int .i64 y.2.2.1).wf = true := by
    intro i y hy
    obtain ⟨b, o, cs', ha, hb, hl, hc, hr⟩ := h4 i y hy
    obtain ⟨c0, r0, rfl, _, ⟨rfl, w0⟩, c1, r1, rfl, _, ⟨c2, r2, rfl, _, ⟨rfl, w1⟩, c3, r3, rfl, _, ⟨rfl, w2⟩, e3⟩, c4, r4, rfl, _, ⟨rfl, w3⟩, e4⟩ := hr
    rw [show r3 = [] from e3, show r4 = [] from e4] at hc
    exact ⟨b, o, ha, hb, hc 0 _ rfl, hc 1 _ rfl, hc 2 _ rfl, hc 3 _ rfl, w3⟩
  refine ⟨⟨by simpa using h1, h2, h3, fun i z hz => ?_⟩, fun z hz => ?_⟩
  · rw [List.getElem?_map] at hz
    cases hl : l[i]? with
    | none => rw [hl] at hz; cases hz
    | some y =>
      rw [hl] at hz
      injection hz with hz
      subst hz
      obtain ⟨b, o, g1, g2, g3, g4, g5, g6, _⟩ := hall i y hl
      exact ⟨b, o, g1, g2, g3, g4, g5, g6⟩
  · obtain ⟨y, hy, rfl⟩ := List.mem_map.1 hz
    obtain ⟨i, hi⟩ := List.getElem?_of_mem hy
    obtain ⟨b, o, _, _, _, _, _, _, g⟩ := hall i y hi
    exact wf_bd_i64 g
theorem repV_acts {w : World} {v : Value} {x : (Ty.sl TyAct).den} (h : RepV w (.sl TyAct) v x) : ∃ a n c L, v = .slice a n c ∧ SlAc w a n c L ∧ ∀ x ∈ L, (-9223372036854775808 ≤ x.2.2.2 ∧ x.2.2.2 ≤ 9223372036854775807) := by
  obtain ⟨a, n, c, rfl, hs⟩ := repV_sl h
  obtain ⟨h1, h2⟩ := slT_act hs
  exact ⟨a, n, c, _, rfl, h1, h2⟩
end Go.Proofs.Ytneehfngphpccaa
