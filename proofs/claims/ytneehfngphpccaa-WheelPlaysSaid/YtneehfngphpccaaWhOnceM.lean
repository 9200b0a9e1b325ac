/- The wheel: what was set last, plainly; keys and dues compared. -/
import Derived.Test.YtneehfngphpccaaWhTy
import Derived.Laws.StructEq
import Derived.Deep.CutRange
import Derived.Deep.CutBlock
set_option linter.unusedVariables false
set_option linter.unusedSimpArgs false
namespace Go.Proofs.Ytneehfngphpccaa
open Go.RowKit
theorem WhL.ok {w : World} {p q : Nat} {now : Int} {L : List Du} (h : WhL w p q now L) : SrtD L ∧ KeyD L := by
  obtain ⟨M, ck, _, h2⟩ := h; exact ⟨h2.srt, h2.keyD⟩
theorem repV_ints {w : World} {v : Value} {x : (Ty.sl (.int .i64)).den} (h : RepV w (.sl (.int .i64)) v x) : ∃ a n c T, v = .slice a n c ∧ Sl .i64 w a n c T ∧ ∀ z ∈ T, -9223372036854775808 ≤ z ∧ z ≤ 9223372036854775807 := by
  obtain ⟨b, m, d, rfl, hs⟩ := repV_sl h
  obtain ⟨hB, hBb⟩ := slT_int hs
  exact ⟨b, m, d, x, rfl, hB, fun z hz => wf_bd_i64 (hBb z hz)⟩
theorem and_16 (n : Int) (h0 : -9223372036854775808 ≤ n) (h1 : n ≤ 9223372036854775807) : bits .and .i64 n 65535 = n % 65536 := by
  show IntKind.i64.wrap ((BitVec.ofInt 64 n &&& BitVec.ofInt 64 65535).toNat : Int) = n % 65536
  rw [BitVec.toNat_and, BitVec.toNat_ofInt, show (BitVec.ofInt 64 65535).toNat = 2 ^ 16 - 1 by decide, Nat.and_two_pow_sub_one_eq_mod, IntKind.wrap_i64]
  omega
theorem slD_anyB {w : World} {a : Option Addr} {n c : Nat} {L : List Du} {b : Nat} {o : Nat} (h : SlD w a n c L) (hn : 0 < n) (ha : a = some ⟨b, o, none⟩) : b < w.heap.size := by
  obtain ⟨b', o', e1, e2, _⟩ := h.2.2.2 hn
  rw [ha] at e1
  injection e1 with e1
  injection e1 with e1
  omega
theorem take_le (t : Int) (L : List Du) (hs : SrtD L) (k : Nat) (x : Du) (h : (L.take (dueK t L))[k]? = some x) : x.2.2 ≤ t ∧ L[k]? = some x := by
  rw [List.getElem?_take] at h
  split at h
  · rename_i hk
    exact ⟨(dueK_iff t L k x hs h).2 hk, h⟩
  · cases h
theorem drop_gt (t : Int) (L : List Du) (hs : SrtD L) (x : Du) (h : x ∈ L.drop (dueK t L)) : t < x.2.2 := by
  obtain ⟨k, hk⟩ := List.getElem?_of_mem h
  rw [List.getElem?_drop] at hk
  have := dueK_iff t L _ x hs hk
  omega
theorem ord_at (L : List Du) (hs : SrtD L) (k : Nat) (x y : Du) (hx : L[k]? = some x) (hy : L[k + 1]? = some y) : x.2.2 ≤ y.2.2 := by
  obtain ⟨h1, h2⟩ := List.getElem?_eq_some_iff.1 hx
  obtain ⟨h3, h4⟩ := List.getElem?_eq_some_iff.1 hy
  have := List.pairwise_iff_getElem.1 hs k (k + 1) h1 h3 (by omega)
  rw [h2, h4, lessD_iff] at this
  omega
def offK (a b : Int) (y : Du) : Bool := !decide (y.1 = a ∧ y.2.1 = b)
theorem want_step {W L : List Du} (a b t : Int) (hp : W.Perm L) (hs : SrtD L) (hk : KeyD L) : (W.filter (offK a b) ++ [(a, b, t)]).Perm (insD (a, b, t) (dropD a b L)) := by
  have hne : ∀ y ∈ dropD a b L, y ≠ (a, b, t) := fun y hy e => by
    have := ((mem_dropD a b y L hs.nodup hk).1 hy).2
    rw [e] at this
    exact this ⟨rfl, rfl⟩
  have hN : (insD (a, b, t) (dropD a b L)).Nodup := (srt_insD _ _ (hs.sublist (dropD_sub a b L)) hne).nodup
  have hW : W.Nodup := hp.nodup_iff.2 hs.nodup
  refine (List.perm_ext_iff_of_nodup ?_ hN).2 fun x => ?_
  · rw [List.nodup_append]
    refine ⟨hW.sublist List.filter_sublist, by simp, fun x hx y hy => ?_⟩
    simp at hy
    subst hy
    rintro rfl
    have := (List.mem_filter.1 hx).2
    simp [offK] at this
  · rw [mem_insD, mem_dropD a b x L hs.nodup hk, List.mem_append, List.mem_filter]
    have hm : x ∈ W ↔ x ∈ L := hp.mem_iff
    simp only [hm, offK, List.mem_singleton, Bool.not_eq_true', decide_eq_false_iff_not]
    constructor
    · rintro (h | h); exact .inr h; exact .inl h
    · rintro (h | h); exact .inr h; exact .inl h
def keyEq (a b c d : Int) : Bool := decide (a = c ∧ b = d)
theorem run_neqK (a b c d : Int) (w : World) : (binOp .neq 30 (.agg #[.int .i64 a, .int .i64 b]) (.agg #[.int .i64 c, .int .i64 d])).run Try.prog w = .ok (.bool (!keyEq a b c d)) w := by
  have h := eqKey a b c d w
  unfold Op.equal at h
  rw [run_neq_struct]
  rw [show (10000 : Nat) = Op.maxDepth from rfl]
  unfold kv at h
  rw [h]
  rfl
def dueEq (a b c a' b' c' : Int) : Bool := decide ((a, b, c) = (a', b', c'))
theorem dueEq_and (a b c a' b' c' : Int) : dueEq a b c a' b' c' = (a == a' && (b == b' && c == c')) := by
  unfold dueEq
  by_cases h1 : a = a' <;> by_cases h2 : b = b' <;> by_cases h3 : c = c' <;> simp [h1, h2, h3]
theorem eqDu (a b c a' b' c' : Int) (w : World) : (Op.equalIn 10000 32 (.agg #[.int .i64 a, .int .i64 b, .int .i64 c]) (.agg #[.int .i64 a', .int .i64 b', .int .i64 c'])).run Try.prog w = .ok (dueEq a b c a' b' c') w := by
  have hS : Try.prog.underlying 32 = some (.struct (Try.prog.fieldsOf 32)) := by kernel_rfl
  have hp : Try.prog.stoodInHeld 32 = false := by kernel_rfl
  have hS2 : Try.prog.underlying 30 = some (.struct (Try.prog.fieldsOf 30)) := by kernel_rfl
  have hp2 : Try.prog.stoodInHeld 30 = false := by kernel_rfl
  have hk : ∀ a b c d w, (Op.equalIn 9999 30 (.agg #[.int .i64 a, .int .i64 b]) (.agg #[.int .i64 c, .int .i64 d])).run Try.prog w = .ok (a == c && b == d) w := by
    intro a b c d w
    rw [show (9999 : Nat) = 9998 + 1 from rfl, run_equalIn_agg w 9998 30 _ _ hS2 hp2]
    simp only [Program.fieldsOf, Try.underlying30]
    go_simp
    by_cases h1 : a = c <;> by_cases h2 : b = d <;> simp [h1, h2]
  rw [show (10000 : Nat) = 9999 + 1 from rfl, run_equalIn_agg w 9999 32 _ _ hS hp, dueEq_and]
  simp only [Program.fieldsOf, Try.underlying32]
  go_simp
  by_cases h1 : a = a' <;> by_cases h2 : b = b' <;> by_cases h3 : c = c' <;> simp [h1, h2, h3]
theorem run_eqDu (a b c a' b' c' : Int) (w : World) : (binOp .eql 32 (.agg #[.int .i64 a, .int .i64 b, .int .i64 c]) (.agg #[.int .i64 a', .int .i64 b', .int .i64 c'])).run Try.prog w = .ok (.bool (dueEq a b c a' b' c')) w := by
  rw [run_eql_struct, eqDu]; rfl
@[go_sem] theorem guardK (op : BinOp) (x y : Operand) (xs ys : Array Value) (w : World) : (eqGuard op 30 x y (.agg xs) (.agg ys)).run Try.prog w = .ok () w := run_eqGuard_agg w op 30 x y xs ys (by kernel_rfl)
@[go_sem] theorem guardDu (op : BinOp) (x y : Operand) (xs ys : Array Value) (w : World) : (eqGuard op 32 x y (.agg xs) (.agg ys)).run Try.prog w = .ok () w := run_eqGuard_agg w op 32 x y xs ys (by kernel_rfl)
end Go.Proofs.Ytneehfngphpccaa
