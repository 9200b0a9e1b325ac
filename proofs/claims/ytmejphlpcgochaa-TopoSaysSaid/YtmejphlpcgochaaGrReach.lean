/- Graphs, plainly: the row of what is reached. -/
import Derived.Test.YtmejphlpcgochaaGrM1
set_option linter.unusedVariables false
set_option linter.unusedSimpArgs false
namespace Go.Proofs.Ytmejphlpcgochaa
open Go.RowKit
/-- is an edge there -/
def hasE (E : List Ed) (e : Ed) : Bool := E.contains e
theorem hasE_iff {E : List Ed} {e : Ed} : hasE E e = true ↔ e ∈ E := List.contains_iff_mem
theorem posU_mem (d : List Int) (k : Nat) (b : Int) : b ∈ posU d k ↔ 0 ≤ b ∧ b < k ∧ 0 < d.getD b.toNat 0 := by
  unfold posU
  simp only [List.mem_map, List.mem_filter, List.mem_range, decide_eq_true_eq]
  constructor
  · rintro ⟨i, ⟨h1, h2⟩, rfl⟩
    exact ⟨Int.natCast_nonneg i, by exact Int.ofNat_lt.2 h1, h2⟩
  · rintro ⟨h1, h2, h3⟩
    exact ⟨b.toNat, ⟨by omega, h3⟩, Int.toNat_of_nonneg h1⟩
theorem posU_srt (d : List Int) : ∀ k, (posU d k).Pairwise (· < ·)
  | 0 => List.Pairwise.nil
  | k + 1 => by
    rw [posU_succ]
    split
    · refine List.pairwise_append.2 ⟨posU_srt d k, List.pairwise_singleton _ _, fun x hx y hy => ?_⟩
      simp at hy
      have := (posU_mem d k x).1 hx
      omega
    · exact posU_srt d k
theorem mem_reachL {N : Int} {E : List Ed} (hg : goodG N E = true) {n : Int} (hn : inG N n = true) (b : Int) : b ∈ reachL N E n ↔ Way E n b := by
  unfold reachL posI
  rw [hg, hn, if_pos (show (true && true) = true from rfl), posU_mem]
  have hl := farL_len hg n
  constructor
  · rintro ⟨h1, _, h3⟩
    exact (farL_way hg n b h1).1 h3
  · intro h
    have := h.in hg
    exact ⟨this.1, by omega, (farL_way hg n b this.1).2 h⟩
theorem reachL_srt (N : Int) (E : List Ed) (n : Int) : (reachL N E n).Pairwise (· < ·) := by
  unfold reachL
  split
  · exact posU_srt _ _
  · exact List.Pairwise.nil
end Go.Proofs.Ytmejphlpcgochaa
