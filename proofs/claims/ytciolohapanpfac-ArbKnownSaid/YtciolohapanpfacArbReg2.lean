/- The walks of the register, second part: Swap, Log. -/
import Derived.Test.YtciolohapanpfacArbReg
import Derived.Deep.RegionLaw
import Derived.Lib.BufferMore
set_option linter.unusedVariables false
set_option linter.unusedSimpArgs false
namespace Go.Proofs.Ytciolohapanpfac
open Go.RowKit
theorem step_appF {P : Program} {w : World} {ops : Array Oper} {o : Oper} {a : Act} {K : Act → World → Prop} {Q : Exit → Act → World → Prop} {E : Prop} (hgd : o.guard = none) (s x : Operand) (t tx : TypeId)
    (ho : o.op = .call { callee := .builtin .append, args := #[s, x], argTypes := #[t, tx] })
    {e : TypeId} {z : Value} {size bytes : Nat} (el : Elem P t e z size bytes) (v : Value) (n : Nat) (g : Option Nat) (xs : List Value) (hs : a.eval s = v) (ha : AppF w e size v n g xs)
    (xv : Value) (m : Nat) (news : List Value) (hx : a.eval x = xv) (hsrc : Src P size tx xv m news w) (hbytes : (n + m) * bytes ≤ 140737488355328) (h63 : n + m ≤ maxLen)
    (h : ∀ a' c' g' w', AppF w' e size (.slice a' (n + m) c') (n + m) g' (xs ++ news) → Only g.toList w w' → (g' = g ∨ g' = some w.heap.size) → K (a.put o.dst (.slice a' (n + m) c')) w') :
    if Region.wanted o (yielded ops a.tmps) = true then Oper.wp P o a w K Q else E := by
  have hw : Region.wanted o (yielded ops a.tmps) = true := by simp [Region.wanted, hgd]
  rw [if_pos hw]
  exact wp_appF s x t tx ho el v n g xs hs ha xv m news hx hsrc hbytes h63 h
theorem asEq_of {x y : AS} (h : x = y) : asEq x.e x.h x.s x.f y.e y.h y.s y.f = true := by subst h; simp [asEq]
theorem asEq_not {x y : AS} (h : x ≠ y) : asEq x.e x.h x.s x.f y.e y.h y.s y.f = false := by
  unfold asEq
  cases x; cases y
  simpa using h
set_option maxHeartbeats 1000000 in
theorem arb_swap_no (p : Nat) (g : Option Nat) (l : List AS) (x old to : AS) (w : World) (hA : ArbAt w p g (l ++ [x])) (hne : x ≠ old) :
    Calls Try.prog 12 #[.pointer (some ⟨p, 0, none⟩), old.v, to.v] w fun e w' => e = .returned (.bool false) ∧ Kept w w' := by
  have HQ := Lib.hid (asEq_not hne)
  have HG := Lib.hid (fun W (k : Kept w W) => arb_get p g l x W (k.arb hA))
  clear hA hne
  obtain ⟨e0, h0, s0, f0⟩ := x
  obtain ⟨e1, h1, s1, f1⟩ := old
  obtain ⟨e2, h2, s2, f2⟩ := to
  dsimp only [AS.v] at *
  have HE := run_neqS
  go_enter Try.func12, Try.ntmps12
  go_wp2_with fail
  have K0 : Kept w ((w.alloc (.cells #[.int .i64 e1, .int .i64 h1, .bool s1, .int .i64 f1] 26)).alloc (.cells #[.int .i64 e2, .int .i64 h2, .bool s2, .int .i64 f2] 26)) := by (unfold Kept; repeat (first | exact Below.refl _ _ | assumption | (refine Below.alloc ?_ (by simp) _) | (refine Below.setCell ?_ (by simp) _) | (refine Below.drew ?_) | (refine below_drewN ?_ _)))
  obtain ⟨c0, c1, c2, c3⟩ := four_cells (heap_keep (heap_alloc_new w (.cells #[.int .i64 e1, .int .i64 h1, .bool s1, .int .i64 f1] 26)) (.cells #[.int .i64 e2, .int .i64 h2, .bool s2, .int .i64 f2] 26))
  generalize World.alloc (World.alloc w _) _ = W at *
  have K0d := K0.dr ((Dr.refl _).drewN 1)
  have HC : Hid (∀ V, Kept W V → V.cell? ⟨w.heap.size, 0, none⟩ = some (.int .i64 e1) ∧ V.cell? ⟨w.heap.size, 1, none⟩ = some (.int .i64 h1) ∧ V.cell? ⟨w.heap.size, 2, none⟩ = some (.bool s1) ∧ V.cell? ⟨w.heap.size, 3, none⟩ = some (.int .i64 f1)) := fun V k => ⟨k.cel c0, k.cel c1, k.cel c2, k.cel c3⟩
  clear c0 c1 c2 c3
  go_region_held3 (fun w' => w'.cell? ⟨w.heap.size, 0, none⟩ = some (.int .i64 e1) ∧ w'.cell? ⟨w.heap.size, 1, none⟩ = some (.int .i64 h1) ∧ w'.cell? ⟨w.heap.size, 2, none⟩ = some (.bool s1) ∧ w'.cell? ⟨w.heap.size, 3, none⟩ = some (.int .i64 f1)) (first | exact HC.out _ KG | exact HC.out _ ((Kept.refl W).dr ((Dr.refl _).drewN 1))) (first | (go_at_call 10; refine (HG.out _ K0d).mono ?_; rintro e wG ⟨rfl, KG0⟩; have KG : Kept W wG := ((Kept.refl W).dr ((Dr.refl _).drewN 1)).trans KG0))
  have HQ' : (!asEq e0 h0 s0 f0 e1 h1 s1 f1) = true := by rw [HQ.out]; rfl
  rw [HQ']
  go_wp2
  go_ret
  exact ⟨rfl, K0.trans KG⟩
set_option maxHeartbeats 1000000 in
theorem arb_swap_yes (p : Nat) (g : Option Nat) (l : List AS) (old to : AS) (w : World) (hA : ArbAt w p g (l ++ [old])) (hb : l.length ≤ 1000) :
    Calls Try.prog 12 #[.pointer (some ⟨p, 0, none⟩), old.v, to.v] w fun e w' => e = .returned (.bool true) ∧ ∃ g', ArbAt w' p g' (l ++ [old, to]) ∧ Only (p :: g.toList) w w' ∧ (g' = g ∨ ∃ k, g' = some k ∧ w.heap.size ≤ k) := by
  have HQ := Lib.hid (asEq_of (rfl : old = old))
  have HG := Lib.hid (fun W (k : Kept w W) => arb_get p g l old W (k.arb hA))
  have HA := Lib.hid hA
  obtain ⟨hpl, hgl, hgp⟩ := hA.lt
  clear hA
  have HL : Hid (asV [to] = to.cs) := by unfold Hid asV; simp
  obtain ⟨e1, h1, s1, f1⟩ := old
  obtain ⟨e2, h2, s2, f2⟩ := to
  dsimp only [AS.v, AS.cs] at *
  have HE := run_neqS
  go_enter Try.func12, Try.ntmps12
  go_wp2_with fail
  have K0 : Kept w ((w.alloc (.cells #[.int .i64 e1, .int .i64 h1, .bool s1, .int .i64 f1] 26)).alloc (.cells #[.int .i64 e2, .int .i64 h2, .bool s2, .int .i64 f2] 26)) := by (unfold Kept; repeat (first | exact Below.refl _ _ | assumption | (refine Below.alloc ?_ (by simp) _) | (refine Below.setCell ?_ (by simp) _) | (refine Below.drew ?_) | (refine below_drewN ?_ _)))
  obtain ⟨c0, c1, c2, c3⟩ := four_cells (heap_keep (heap_alloc_new w (.cells #[.int .i64 e1, .int .i64 h1, .bool s1, .int .i64 f1] 26)) (.cells #[.int .i64 e2, .int .i64 h2, .bool s2, .int .i64 f2] 26))
  obtain ⟨d0, d1, d2, d3⟩ := four_cells (two_new w (.cells #[.int .i64 e1, .int .i64 h1, .bool s1, .int .i64 f1] 26) (.cells #[.int .i64 e2, .int .i64 h2, .bool s2, .int .i64 f2] 26))
  have hsz : w.heap.size + 1 < ((w.alloc (.cells #[.int .i64 e1, .int .i64 h1, .bool s1, .int .i64 f1] 26)).alloc (.cells #[.int .i64 e2, .int .i64 h2, .bool s2, .int .i64 f2] 26)).heap.size := by simp
  generalize World.alloc (World.alloc w _) _ = W at *
  have K0d := K0.dr ((Dr.refl _).drewN 1)
  have HC : Hid (∀ V, Kept W V → V.cell? ⟨w.heap.size, 0, none⟩ = some (.int .i64 e1) ∧ V.cell? ⟨w.heap.size, 1, none⟩ = some (.int .i64 h1) ∧ V.cell? ⟨w.heap.size, 2, none⟩ = some (.bool s1) ∧ V.cell? ⟨w.heap.size, 3, none⟩ = some (.int .i64 f1)) := fun V k => ⟨k.cel c0, k.cel c1, k.cel c2, k.cel c3⟩
  clear c0 c1 c2 c3
  have HD : Hid (∀ V, Kept W V → V.cell? ⟨w.heap.size + 1, 0, none⟩ = some (.int .i64 e2) ∧ V.cell? ⟨w.heap.size + 1, 1, none⟩ = some (.int .i64 h2) ∧ V.cell? ⟨w.heap.size + 1, 2, none⟩ = some (.bool s2) ∧ V.cell? ⟨w.heap.size + 1, 3, none⟩ = some (.int .i64 f2)) := fun V k => ⟨k.cel d0, k.cel d1, k.cel d2, k.cel d3⟩
  clear d0 d1 d2 d3
  go_region_held3 (fun w' => w'.cell? ⟨w.heap.size, 0, none⟩ = some (.int .i64 e1) ∧ w'.cell? ⟨w.heap.size, 1, none⟩ = some (.int .i64 h1) ∧ w'.cell? ⟨w.heap.size, 2, none⟩ = some (.bool s1) ∧ w'.cell? ⟨w.heap.size, 3, none⟩ = some (.int .i64 f1)) (first | exact HC.out _ KG | exact HC.out _ ((Kept.refl W).dr ((Dr.refl _).drewN 1))) (first | (go_at_call 10; refine (HG.out _ K0d).mono ?_; rintro e wG ⟨rfl, KG0⟩; have KG : Kept W wG := ((Kept.refl W).dr ((Dr.refl _).drewN 1)).trans KG0))
  have HQ' : (!asEq e1 h1 s1 f1 e1 h1 s1 f1) = false := by rw [HQ.out]; rfl
  rw [HQ']
  go_wp2_with fail
  have KW := K0.trans KG
  obtain ⟨a, n, c, hp, hF, hg⟩ := KW.arb HA.out
  have hn : n = l.length + 1 := by have := hF.len; rw [asV_len] at this; simp at this; omega
  subst hn
  obtain ⟨d0, d1, d2, d3⟩ := HD.out _ KG
  have hGs := KG.size
  have cp := one_cell hp
  have HF := Lib.hid hF
  have HP := Lib.hid hp
  have HS : Hid (∀ V, Only g.toList wG V → V.cell? ⟨p, 0, none⟩ = some (.slice a (l.length + 1) c) ∧ V.cell? ⟨w.heap.size + 1, 0, none⟩ = some (.int .i64 e2) ∧ V.cell? ⟨w.heap.size + 1, 1, none⟩ = some (.int .i64 h2) ∧ V.cell? ⟨w.heap.size + 1, 2, none⟩ = some (.bool s2) ∧ V.cell? ⟨w.heap.size + 1, 3, none⟩ = some (.int .i64 f2)) := by
    intro V k
    have hq : w.heap.size + 1 ∉ g.toList := by intro hm; simp at hm; have := hgl _ hm; omega
    have hpq : p ∉ g.toList := by intro hm; simp at hm; exact hg _ hm rfl
    have hl : ∀ j : Nat, V.cell? ⟨w.heap.size + 1, j, none⟩ = wG.cell? ⟨w.heap.size + 1, j, none⟩ := fun j => k.cell (p := ⟨w.heap.size + 1, j, none⟩) (by show w.heap.size + 1 < wG.heap.size; omega) hq
    exact ⟨(k.cell (p := ⟨p, 0, none⟩) (lt_heap hp) hpq).trans cp, (hl 0).trans d0, (hl 1).trans d1, (hl 2).trans d2, (hl 3).trans d3⟩
  clear d0 d1 d2 d3 cp hF hp
  obtain ⟨cp, d0, d1, d2, d3⟩ := HS.out _ (Only.refl _ wG)
  have hpw := lt_heap HP.out
  have hpq : p ∉ g.toList := by intro hm; simp at hm; exact hg _ hm rfl
  go_region_law (refine step_appF rfl (.tmp 15) (.tmp 17) 31 31 rfl elemS (.slice a (l.length + 1) c) (l.length + 1) g _ rfl ((((Only.refl [] wG).drewN 1).alloc _).appF HF.out (by simp)) _ 1 _ rfl (src_block Try.underlying31 (heap_alloc_new (wG.drewN 1) _) 1 1 rfl (by simp [Value.oneCell'])) (by omega) (by unfold maxLen; omega) ?_; intro a' c' g'' w1 hA2 hO2 hG2; have q0 := hO2.heap (heap_keep (w := wG.drewN 1) HP.out _) hpq; have q1 := one_cell q0; have q2 := one_free q0 0)
  all_goals (
    go_wp2
    go_ret
    have hA3 : AppF w1 26 4 (.slice a' (l.length + 1 + 1) c') (l.length + 1 + 1) g'' (asV (l ++ [⟨e1, h1, s1, f1⟩, ⟨e2, h2, s2, f2⟩])) := by rw [show l ++ [AS.mk e1 h1 s1 f1, AS.mk e2 h2 s2 f2] = (l ++ [AS.mk e1 h1 s1 f1]) ++ [AS.mk e2 h2 s2 f2] from by simp, asV_append (l ++ [AS.mk e1 h1 s1 f1]) [AS.mk e2 h2 s2 f2], HL.out]; exact hA2
    have hgn : ∀ k, g'' = some k → k ≠ p := by
      intro k hk hkp
      rcases hG2 with h | h
      · exact hg k (h.symm.trans hk) hkp
      · rw [hk] at h; injection h with h; simp at h; omega
    refine ⟨rfl, g'', ⟨a', _, c', one_set q0 _, ((Only.refl [p] w1).setCell (p := ⟨p, 0, none⟩) (by simp) _).appF hA3 (fun k hk hm => hgn k hk (by simpa using hm)), hgn⟩, ?_, ?_⟩
    · exact ((((KW.only.mono (T := p :: g.toList) (by simp)).drewN 1).alloc _).then hO2 (fun i _ hm => List.mem_cons_of_mem _ hm)).setCell (by simp) _
    · rcases hG2 with h | h
      · exact .inl h
      · exact .inr ⟨_, h, by have := KW.size; simp; omega⟩)
/-- what is copied onto a full literal of none -/
theorem src_slS {P : Program} {w : World} {a : Option Addr} {n c : Nat} {l : List AS} {tx e' : TypeId} (hk : P.underlying tx = some (.slice e')) (h : SlS w a n c l) : Src P 4 tx (.slice a n c) n (asV l) w := by
  obtain ⟨hl, hnc, hm, hc⟩ := h
  rcases Nat.eq_zero_or_pos n with h0 | h0
  · subst h0
    have : l = [] := List.eq_nil_of_length_eq_zero hl
    subst this
    cases a with
    | none => exact Src.ofNil w hk c
    | some x => exact Src.ofSlice w hk x 0 c _ rfl (fun j u hu => by simp [asV] at hu) (by simp [asV])
  · obtain ⟨b, o, rfl, hlt, hcell⟩ := hc h0
    refine Src.ofSlice w hk _ n c _ (by rw [asV_len, hl]) (fun j u hu => ?_) (fun u hu => ?_)
    · rw [add_one]; exact hcell j u hu
    · simp [asV] at hu
      obtain ⟨x, _, hx⟩ := hu
      simp [AS.cs] at hx
      rcases hx with rfl | rfl | rfl | rfl <;> rfl
theorem SlS.kept {w w' : World} {a : Option Addr} {n c : Nat} {l : List AS} (h : SlS w a n c l) (k : Kept w w') : SlS w' a n c l := by
  obtain ⟨h1, h2, h3, h4⟩ := h
  refine ⟨h1, h2, h3, fun h0 => ?_⟩
  obtain ⟨b, o, rfl, hlt, hc⟩ := h4 h0
  exact ⟨b, o, rfl, Nat.lt_of_lt_of_le hlt k.size, fun j v hj => k.cel (hc j v hj)⟩
theorem app_empty4 (w : World) (e : TypeId) : App (w.alloc (.cells #[] e)) e 4 (.slice (some ⟨w.heap.size, 0, none⟩) 0 0) 0 (some w.heap.size) [] :=
  ⟨⟨rfl, .inr ⟨w.heap.size, 0, #[], rfl, Nat.zero_le _, heap_alloc_new w _, Nat.le_refl _, Nat.zero_le _, rfl, rfl⟩⟩, rfl⟩
set_option maxHeartbeats 1000000 in
theorem arb_clone (a : Option Addr) (n c : Nat) (l : List AS) (w : World) (h : SlS w a n c l) (h0 : 0 < n) (hb : n ≤ 1000) :
    Calls Try.prog 21 #[.slice a n c] w fun e w' => ∃ a' c', e = .returned (.slice a' n c') ∧ SlS w' a' n c' l ∧ Kept w w' := by
  have HS := Lib.hid h
  obtain ⟨b, o, rfl, hlt, hcell⟩ := h.2.2.2 h0
  clear h hcell
  have HA0 : Hid (SlS (w.alloc (.cells #[] 26)) (some ⟨b, o, none⟩) n c l) := HS.out.kept (by (unfold Kept; repeat (first | exact Below.refl _ _ | assumption | (refine Below.alloc ?_ (by simp) _) | (refine Below.setCell ?_ (by simp) _) | (refine Below.drew ?_) | (refine below_drewN ?_ _))))
  have hnil : ∀ W, (binOp .eql 31 (.slice (some ⟨b, o, none⟩) n c) (.slice none 0 0)).run Try.prog W = .ok (.bool false) W := fun W => Go.Lib.run_eql_slice_some_nil W _ n c Try.underlying31
  go_enter Try.func21, Try.ntmps21
  go_wp2_with (at_builtin; refine wpList_appF rfl (.tmp 5) (.tmp 6) 31 31 rfl elemS (.slice (some ⟨w.heap.size, 0, none⟩) 0 0) 0 (some w.heap.size) [] rfl (.inl (app_empty4 w _)) (.slice (some ⟨b, o, none⟩) n c) n _ rfl (src_slS Try.underlying31 (HA0.out)) (by omega) (by unfold maxLen; omega) ?_; intro a' c' g'' w1 hA2 hO2 hG2)
  go_ret
  rw [Nat.zero_add, List.nil_append] at hA2
  exact ⟨a', c', rfl, (appF_slS hA2).1, ((Kept.refl w).only.alloc _ |>.then hO2 (by intro i hi hm; simp at hm; omega)).kept⟩
set_option maxHeartbeats 1000000 in
theorem arb_log (p : Nat) (g : Option Nat) (l : List AS) (w : World) (hA : ArbAt w p g l) (h0 : 0 < l.length) (hb : l.length ≤ 1000) :
    Calls Try.prog 13 #[.pointer (some ⟨p, 0, none⟩)] w fun e w' => ∃ a' c', e = .returned (.slice a' l.length c') ∧ SlS w' a' l.length c' l ∧ Kept w w' := by
  obtain ⟨a, n, c, hp, hF, hg⟩ := hA
  obtain ⟨hS, _⟩ := appF_slS hF
  obtain rfl : l.length = n := hS.1
  have HC := Lib.hid (arb_clone a l.length c l w hS h0 hb)
  have cp := one_cell hp
  clear hS hF hg hp
  go_enter Try.func13, Try.ntmps13
  go_wp2_with (go_at_call 21; refine HC.out.mono ?_; rintro e w1 ⟨a', c', rfl, hS, K⟩)
  go_ret
  exact ⟨a', c', rfl, hS, K⟩
end Go.Proofs.Ytciolohapanpfac
