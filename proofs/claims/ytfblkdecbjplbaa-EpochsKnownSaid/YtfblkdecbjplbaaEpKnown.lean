/- Boxed tables, as a closed law lays them. -/
import Derived.Test.YtfblkdecbjplbaaEpOfNo
import Derived.Test.YtfblkdecbjplbaaEpMeet
import Derived.Test.YtfblkdecbjplbaaEpCut2
import Derived.Test.YtfblkdecbjplbaaEpAwake
set_option linter.unusedVariables false
set_option linter.unusedSimpArgs false
namespace Go.Proofs.Ytfblkdecbjplbaa
open Go.RowKit
/-- a table in a block of its own -/
def TB (V : World) (q : Nat) (a : Option Addr) (n c : Nat) (L : List Int) (E : Int) : Prop := V.cell? ⟨q, 0, none⟩ = some (.slice a n c) ∧ V.cell? ⟨q, 1, none⟩ = some (.int .i64 E) ∧ Sl .u64 V a n c L
theorem TB.kept {V V' : World} {q : Nat} {a : Option Addr} {n c : Nat} {L : List Int} {E : Int} (k : Kept V V') (h : TB V q a n c L E) : TB V' q a n c L E := ⟨k.cel h.1, k.cel h.2.1, k.sl h.2.2⟩
theorem tb_box {V : World} {a : Option Addr} {n c : Nat} {L : List Int} {E : Int} (h : Sl .u64 V a n c L) : TB (V.alloc (.cells #[.slice a n c, .int .i64 E] 29)) V.heap.size a n c L E :=
  ⟨(two_cells (heap_alloc_new V _)).1, (two_cells (heap_alloc_new V _)).2, (kept_al V _).sl h⟩
theorem tb_lit (W : World) (L : List Int) (n : Nat) (E : Int) (hn : L.length = n) (hm : n ≤ 100) : TB ((W.alloc (.cells (L.map (Value.int .u64)).toArray 26 (0, 0))).alloc (.cells #[.slice (some ⟨W.heap.size, 0, none⟩) n n, .int .i64 E] 29)) (W.heap.size + 1) (some ⟨W.heap.size, 0, none⟩) n n L E := by
  have h := tb_box (E := E) (sl_lit .u64 W 26 (0, 0) L n hn (by unfold maxLen; omega))
  simpa using h
end Go.Proofs.Ytfblkdecbjplbaa
