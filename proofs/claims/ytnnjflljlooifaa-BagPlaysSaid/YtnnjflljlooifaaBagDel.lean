/- slices.Delete of one place, of a row of the call's own. -/
import Derived.Test.YtnnjflljlooifaaMem
import Derived.Lib.SliceRun
import Derived.Deep.RegionLaw
set_option linter.unusedVariables false
set_option linter.unusedSimpArgs false
namespace Go.Proofs.Ytnnjflljlooifaa
open Go.RowKit
theorem elemBB : Elem Try.prog 49 53 (.slice none 0 0) 1 24 :=
  ⟨Try.underlying49, info_parts (by kernel_rfl), rfl, by omega⟩
set_option maxRecDepth 100000 in
set_option maxHeartbeats 4000000 in
theorem bytes_delete (a : Option Addr) (c n i : Nat) (g : Option Nat) (xs : List Value) (w : World) (hi : i < n) (hn : n ≤ 1000) (h1 : ∀ x ∈ xs, x.oneCell' = true) (hA : App w 53 1 (.slice a n c) n g xs) :
    Calls Try.prog 23 #[.slice a n c, .int .i64 i, .int .i64 (i + 1)] w fun e w' => e = .returned (.slice a (n - 1) c) ∧ App w' 53 1 (.slice a (n - 1) c) (n - 1) g (xs.eraseIdx i) ∧ Only g.toList w w' := by
  obtain ⟨k, rfl⟩ : ∃ k, n = i + 1 + k := ⟨n - (i + 1), by omega⟩
  rw [show i + 1 + k - 1 = i + k by omega]
  have hl := hA.len
  obtain ⟨⟨_, h2⟩, h3⟩ := hA
  rcases h2 with ⟨hn, h0⟩ | ⟨b, cap, cur, hv, _, hh, hnc, hcm, hcs, htake⟩
  · omega
  injection hv with e1 e2 e3
  subst e1 e3
  have hg : g = some b := h3.symm
  subst hg
  clear h3
  simp only [Nat.mul_one] at hl hcs htake
  have hcell : ∀ (W : World), (∃ cur', W.heap[b]? = some (.cells cur' 53 (0, 0)) ∧ cur'.size = c) → ∀ j, j < c → (W.cell? ⟨b, j, none⟩).isSome = true ∧ W.frozen? ⟨b, j, none⟩ = false := fun W ⟨cur', hc, hs⟩ j hj => by
    rw [cell_of_row W b _ cur' _ _ hc, Array.getElem?_eq_getElem (by omega)]
    exact ⟨rfl, by simp [World.frozen?, hc]⟩
  obtain ⟨news, hnews⟩ : ∃ news, news = xs.drop (i + 1) := ⟨_, rfl⟩
  have hlen : news.length = k := by rw [hnews]; simp; omega
  obtain ⟨A, hA, hsrc⟩ : ∃ A : Addr, cutA (some ⟨b, 0, none⟩) c (i + 1) 1 = some A ∧ Hid (∀ t u, news[t]? = some u → w.drew.cell? (A.add t) = some u) := by
    by_cases h : c = i + 1
    · refine ⟨⟨b, 0, none⟩, by simp [h, cutA], fun t u hu => ?_⟩
      have h0 : news.length = 0 := by rw [hlen]; omega
      rw [List.length_eq_zero_iff.1 h0] at hu
      simp at hu
    · refine ⟨⟨b, i + 1, none⟩, by simp [h, cutA, add_one], fun t u hu => ?_⟩
      rw [Addr.add_lit]
      show w.cell? _ = _
      rw [cell_of_row w b _ cur _ _ hh]
      rw [hnews, List.getElem?_drop, ← htake, List.getElem?_take] at hu
      split at hu
      · rw [← Array.getElem?_toList]; exact hu
      · cases hu
  have s1 : Hid (news.length = k * 1) := by rw [Nat.mul_one]; exact hlen
  have s2 : Hid (∀ u ∈ news, u.oneCell' = true) := fun u hu => h1 u (by rw [hnews] at hu; exact List.mem_of_mem_drop hu)
  have s3 : Hid (∀ t, t < news.length → (w.drew.cell? ⟨b, 0 + i * 1 + t, none⟩).isSome = true ∧ w.drew.frozen? ⟨b, 0 + i * 1 + t, none⟩ = false) := by
    intro t ht
    rw [hlen] at ht
    rw [Nat.mul_one, Nat.zero_add]
    exact hcell w.drew ⟨cur, hh, hcs⟩ (i + t) (by omega)
  obtain ⟨cur1, hc1, ht1⟩ := heap_setCells_in b 53 (0, 0) news (0 + i * 1) w.drew cur hh (by omega)
  have hc1s : cur1.size = c := by
    have := congrArg List.length ht1
    simp at this
    omega
  obtain ⟨W1, hW1⟩ : ∃ W1, W1 = w.drew.setCells b (0 + i * 1) news := ⟨_, rfl⟩
  rw [← hW1] at hc1
  have hO1 : Only [b] w W1 := by rw [hW1]; exact (Only.refl [b] w).drew.trans (only_setCells w.drew b _ news)
  have hk := hcell W1 ⟨cur1, hc1, hc1s⟩
  obtain ⟨cur2, hc2, ht2⟩ := heap_setCells_in b 53 (0, 0) [.slice none 0 0] (i + k) W1 cur1 hc1 (by simp; omega)
  have hs1 : ∀ W, (Instr.slice 49 (.slice (some ⟨b, 0, none⟩) (i + 1 + k) c) none (some (.int .i64 i)) none).run Try.prog W = .ok (.slice (some ⟨b, 0, none⟩) i c) W := fun W => run_cut_h elemBB _ _ _ .i64 i _ rfl (by omega) W
  have hs2 : ∀ W, (Instr.slice 49 (.slice (some ⟨b, 0, none⟩) (i + 1 + k) c) (some (.int .i64 (i + 1))) none none).run Try.prog W = .ok (.slice (some A) k (c - (i + 1))) W := fun W => by
    have h := run_cut_l elemBB (some ⟨b, 0, none⟩) (i + 1 + k) c .i64 (i + 1) (i + 1) (by omega) (by omega) W
    rw [hA, show i + 1 + k - (i + 1) = k by omega] at h
    exact h
  have hs3 : ∀ W, (Instr.slice 49 (.slice (some ⟨b, 0, none⟩) (i + k) c) (some (.int .i64 (i + k : Nat))) (some (.int .i64 (i + 1 + k : Nat))) none).run Try.prog W = .ok (.slice (some ⟨b, i + k, none⟩) 1 (c - (i + k))) W := fun W => by
    have h := run_cut_lh elemBB (some ⟨b, 0, none⟩) (i + k) c .i64 .i64 (i + k) (i + 1 + k) _ _ rfl rfl (by omega) (by omega) W
    rw [show i + 1 + k - (i + k) = 1 by omega] at h
    rw [h]
    unfold cutA
    rw [if_neg (by omega)]
    simp [add_one]
  have hcl : ∀ ty, (Builtin.clear_ #[49] ty #[.slice (some ⟨b, i + k, none⟩) 1 (c - (i + k))]).run Try.prog W1 = .ok (.tuple #[]) (W1.setCells b (i + k) [.slice none 0 0]) :=
    fun ty => Lib.run_clear_slice W1 _ _ ty (.slice none 0 0) Try.underlying49 (fun w => by obtain ⟨i, hi, hz, _⟩ := elemBB.hi; simp [zeroValue, typeInfo, hi, hz]) rfl rfl b (i + k) _ _ (by omega) (fun t ht => (hk (i + k + t) (by omega)).1) (fun t ht => (hk (i + k + t) (by omega)).2)
  have HW : Hid (W1 = w.drew.setCells b (0 + i * 1) news) := hW1
  have hO2 := Lib.hid (hO1.trans (only_setCells W1 b (i + k) [.slice none 0 0]))
  have HT : Hid (App (W1.setCells b (i + k) [.slice none 0 0]) 53 1 (.slice (some ⟨b, 0, none⟩) (i + k) c) (i + k) (some b) (xs.eraseIdx i)) := by
    have hel : (xs.eraseIdx i).length = i + k := by rw [List.length_eraseIdx]; split <;> omega
    refine ⟨⟨by rw [hel]; omega, .inr ⟨b, c, cur2, rfl, Nat.zero_le _, hc2, by omega, hcm, ?_, ?_⟩⟩, rfl⟩
    · have := congrArg List.length ht2
      simp at this
      omega
    · have q1 : (cur.toList.take (0 + i * 1)).length = i := by simp; omega
      have q2 : cur.toList.take (0 + i * 1) = xs.take i := by rw [← htake, List.take_take, Nat.zero_add, Nat.mul_one, Nat.min_eq_left (by omega)]
      have q3 : cur1.toList.take (i + k) = xs.eraseIdx i := by
        rw [ht1, List.take_append_of_le_length (by rw [List.length_append, q1, hlen]; omega), List.take_of_length_le (by rw [List.length_append, q1, hlen]; omega), q2, hnews, List.eraseIdx_eq_take_drop_succ]
      rw [ht2, Nat.mul_one, List.append_assoc, List.take_append_of_le_length (by simp; omega), List.take_of_length_le (by simp; omega), q3]
  have hic : i ≤ c := by omega
  have hjc : i + 1 ≤ c := by omega
  have hi1 : IntKind.i64.wrap ((i : Int) + 1) = i + 1 := by rw [IntKind.wrap_i64]; omega
  clear hW1 hc1 hh hnews hlen hcell hk hO1 hc2 ht2 ht1 htake
  obtain ⟨i0, hi0, hz0, hz1, hz2⟩ := elemBB.hi
  go_enter Try.func23, Try.ntmps23
  go_wp2_with fail
  go_region_law (refine step_append_room rfl (.tmp 22) (.tmp 25) 49 rfl 53 i0 1 Try.underlying49 hi0 hz1 b 0 i c (by simp [Act.eval, Act.put]) A k (c - (i + 1)) news (by simp [Act.eval, Act.put]) s1.out hsrc.out s2.out (by omega) s3.out ?_; rw [← HW.out])
  go_wp2_with fail
  rw [show i + 1 + k - (i + k) = 1 by omega]
  rw [hcl]
  go_wp2
  go_ret
  exact ⟨rfl, HT.out, hO2.out⟩
end Go.Proofs.Ytnnjflljlooifaa
