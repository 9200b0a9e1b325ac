/- Small facts that all walks of this seat use: what a slice that came in reads as; masks and joins of bits. -/
import Derived.Test.YteaepgbakcifkaaDoorRows
import Derived.WalkKit
import Derived.WalkSpells
import Derived.WalkLawsBesides
import Derived.LoopTactic
import Derived.Lib.Hide
import Derived.Deep.QuietTactic
import Derived.BigQuiet
import Derived.Lib.SlBytesConst
set_option linter.unusedVariables false
set_option linter.unusedSimpArgs false
namespace Go.Proofs.YteaepgbakcifkaaDoor
open Go.RowKit
/-- A slice value that reads as a list. -/
def Sl (k : IntKind) (w : World) (a : Option Addr) (n c : Nat) (zs : List Int) : Prop :=
  zs.length = n ∧ n ≤ c ∧ c ≤ maxLen ∧ ∀ i, i < n → ∃ b o, a = some ⟨b, o, none⟩ ∧ b < w.heap.size ∧ w.cell? ⟨b, o + i, none⟩ = some (.int k (zs.getD i 0))
theorem Sl.below {k : IntKind} {w w' : World} {a : Option Addr} {n c : Nat} {zs : List Int} (h : Sl k w a n c zs) (hb : Below w.heap.size w w') : Sl k w' a n c zs := by
  obtain ⟨h1, h2, h3, h4⟩ := h
  refine ⟨h1, h2, h3, fun i hi => ?_⟩
  obtain ⟨b, o, rfl, hlt, hc⟩ := h4 i hi
  exact ⟨b, o, rfl, Nat.lt_of_lt_of_le hlt hb.size, (hb.cell (p := ⟨b, o + i, none⟩) hlt).trans hc⟩
/-- one element, under a name of its own -/
theorem Sl.at {k : IntKind} {w : World} {a : Option Addr} {n c : Nat} {zs : List Int} (h : Sl k w a n c zs) (i : Nat) (hi : i < n) : ∃ b o v, a = some ⟨b, o, none⟩ ∧ w.cell? ⟨b, o + i, none⟩ = some (.int k v) ∧ Hid (v = zs.getD i 0) := by
  obtain ⟨_, _, _, h4⟩ := h
  obtain ⟨b, o, rfl, _, hc⟩ := h4 i hi
  exact ⟨b, o, _, rfl, hc, rfl⟩
/-- only draws lie between -/
def Dr (w w' : World) : Prop := ∃ m, w' = w.drewN m
theorem Dr.refl (w : World) : Dr w w := ⟨0, rfl⟩
theorem Dr.drewN {w w' : World} (h : Dr w w') (n : Nat) : Dr w (w'.drewN n) := by obtain ⟨m, rfl⟩ := h; exact ⟨m + n, by rw [World.drewN_drewN]⟩
theorem Dr.trans {w w' w'' : World} (h : Dr w w') (k : Dr w' w'') : Dr w w'' := by obtain ⟨n, rfl⟩ := k; exact h.drewN n
theorem Dr.below {w w' : World} (h : Dr w w') (B : Nat) : Below B w w' := by obtain ⟨m, rfl⟩ := h; exact below_drewN (Below.refl _ _) m
theorem Dr.cell {w w' : World} (h : Dr w w') (p : Addr) : w'.cell? p = w.cell? p := by obtain ⟨m, rfl⟩ := h; rfl
theorem Dr.sl {k : IntKind} {w w' : World} {a : Option Addr} {n c : Nat} {zs : List Int} (hd : Dr w w') (h : Sl k w a n c zs) : Sl k w' a n c zs := h.below (hd.below _)
/-- a contract that names the old world on the right, turned round -/
theorem flip_same {P : Program} {f : FuncId} {args : Array Value} {w : World} {A : Ending → Prop} (h : Calls P f args w fun e w' => A e ∧ w' = w) : Calls P f args w fun e w' => A e ∧ w = w' :=
  h.mono fun _ _ ⟨a, b⟩ => ⟨a, b.symm⟩
theorem unflip {P : Program} {f : FuncId} {args : Array Value} {w : World} {A : Ending → Prop} (h : Calls P f args w fun e w' => A e ∧ w = w') : Calls P f args w fun e w' => A e ∧ w' = w :=
  h.mono fun _ _ ⟨a, b⟩ => ⟨a, b.symm⟩
/-- what the shell of a law hands over of a slice of bytes -/
theorem sl_of_row {k : IntKind} {w : World} {a : Option Addr} {len cap : Nat} {zs : List Int}
    (h : (a = none ∧ len = 0 ∧ cap = 0 ∧ zs = []) ∨
      ∃ x, a = some x ∧ len ≤ cap ∧ cap ≤ maxLen ∧ zs.length = cap ∧ (∀ i, i < zs.length → w.cell? (x.add i) = some (.int k (zs.getD i 0))) ∧ ∀ n ∈ zs, (Lit.int k n).wf = true) :
    Sl k w a len cap (zs.take len) ∧ ∀ n ∈ zs.take len, (Lit.int k n).wf = true := by
  rcases h with ⟨rfl, rfl, rfl, rfl⟩ | ⟨x, rfl, h1, h2, h3, h4, h5⟩
  · exact ⟨⟨rfl, Nat.le_refl _, by unfold maxLen; omega, fun i hi => by omega⟩, by simp⟩
  · refine ⟨⟨by simp; omega, h1, h2, fun i hi => ?_⟩, fun n hn => h5 n (List.mem_of_mem_take hn)⟩
    have hc := h4 i (by omega)
    obtain ⟨b, o, spot⟩ := x
    have hs : spot = none := by
      have hc0 := World.cell?_spot (h4 0 (by omega))
      simpa [Addr.add] using hc0
    subst hs
    have hadd : (⟨b, o, none⟩ : Addr).add i = ⟨b, o + i, none⟩ := by unfold Addr.add; split <;> simp_all
    rw [hadd] at hc
    refine ⟨b, o, rfl, World.block_lt_of_cell? w _ hc, ?_⟩
    rw [hc]
    simp [List.getElem?_take, hi]
theorem wf_bd_i64 {n : Int} (h : (Lit.int .i64 n).wf = true) : -9223372036854775808 ≤ n ∧ n ≤ 9223372036854775807 := by
  simp [Lit.wf, IntKind.min, IntKind.max, IntKind.signed, IntKind.bits] at h; omega
theorem wf_bd_u32 {n : Int} (h : (Lit.int .u32 n).wf = true) : 0 ≤ n ∧ n ≤ 4294967295 := by
  simp [Lit.wf, IntKind.min, IntKind.max, IntKind.signed, IntKind.bits] at h; omega
theorem wf_bd_u64 {n : Int} (h : (Lit.int .u64 n).wf = true) : 0 ≤ n ∧ n ≤ 18446744073709551615 := by
  simp [Lit.wf, IntKind.min, IntKind.max, IntKind.signed, IntKind.bits] at h; omega
theorem wf_bd_u8 {n : Int} (h : (Lit.int .u8 n).wf = true) : 0 ≤ n ∧ n ≤ 255 := by
  simp [Lit.wf, IntKind.min, IntKind.max, IntKind.signed, IntKind.bits] at h; omega
theorem isB_of_wf {zs : List Int} (h : ∀ n ∈ zs, (Lit.int .u8 n).wf = true) : ∀ i, 0 ≤ zs.getD i 0 ∧ zs.getD i 0 ≤ 255 := by
  intro i
  by_cases hi : i < zs.length
  · have := h (zs.getD i 0) (by rw [List.getD_eq_getElem?_getD, List.getElem?_eq_getElem hi]; exact List.getElem_mem hi)
    exact wf_bd_u8 this
  · simp [List.getD_eq_getElem?_getD, List.getElem?_eq_none (Nat.le_of_not_lt hi)]
theorem sl_nil (k : IntKind) (w : World) : Sl k w none 0 0 [] := ⟨rfl, Nat.le_refl _, by unfold maxLen; omega, fun i hi => by omega⟩
/-- a block that was laid by a literal of numbers (marked or not) -/
theorem sl_lit (k : IntKind) (w : World) (t : TypeId) (m : Nat × Nat) (zs : List Int) (n : Nat) (hn : zs.length = n) (hm : n ≤ maxLen) : Sl k (w.alloc (.cells (zs.map (Value.int k)).toArray t m)) (some ⟨w.heap.size, 0, none⟩) n n zs := by
  refine ⟨hn, Nat.le_refl _, hm, fun i hi => ⟨_, _, rfl, by simp, ?_⟩⟩
  rw [cell_of_row _ _ _ _ _ _ (heap_alloc_new w _)]
  simp [hn, hi]
/-- what was there when 'w' began is as it was -/
def Kept (w w' : World) : Prop := Below w.heap.size w w'
theorem Kept.refl (w : World) : Kept w w := Below.refl _ _
theorem Kept.trans {a b c : World} (h : Kept a b) (k : Kept b c) : Kept a c := Below.trans h (Below.mono k h.size)
theorem Kept.dr {a b c : World} (h : Kept a b) (k : Dr b c) : Kept a c := Below.trans h (k.below _)
theorem Kept.sl {k : IntKind} {w w' : World} {a : Option Addr} {n c : Nat} {zs : List Int} (hd : Kept w w') (h : Sl k w a n c zs) : Sl k w' a n c zs := h.below hd
theorem Kept.cel {w w' : World} (h : Kept w w') {p : Addr} {v : Value} (hc : w.cell? p = some v) : w'.cell? p = some v := (Below.cell h (World.block_lt_of_cell? w p hc)).trans hc
theorem ret_int {k : IntKind} {a b : Int} (h : a = b) : Ending.returned (.int k a) = .returned (.int k b) := by rw [h]
theorem ret_bool {a b : Bool} (h : a = b) : Ending.returned (.bool a) = .returned (.bool b) := by rw [h]
end Go.Proofs.YteaepgbakcifkaaDoor
