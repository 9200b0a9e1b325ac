/- A drawn region whose last operation writes what the others read: what the others read is asked no more behind that one. -/
import Derived.Test.YtneehfngphpccaaBase
import Derived.OrdersHeld
import Derived.Deep.RegionHeld
set_option linter.unusedVariables false
set_option linter.unusedSimpArgs false
namespace Go.Proofs.Ytneehfngphpccaa
open Go
section
variable {P : Program} {ops : Array Oper} {Q : Exit → Act → World → Prop} {md : Region.Mode} {S : World → Prop} {st : Nat}
/-- whatever order is picked, and S holds behind all operations but number st -/
def AnyT (P : Program) (md : Region.Mode) (ops : Array Oper) (Q : Exit → Act → World → Prop) (S : World → Prop) (st : Nat) : Nat → Array Bool → Act → World → Prop
  | 0, listed, a, w => Region.ready md ops listed = [] ∧ Q .normal a w
  | n + 1, listed, a, w => (Region.ready md ops listed = [] → Q .normal a w) ∧
    ∀ i ∈ Region.ready md ops listed, wpOp P ops Q i (fun a' w' => (i ≠ st → S w') ∧ AnyT P md ops Q S st n (listed.setIfInBounds i true) a' w') a w
theorem any_of_T : ∀ (n : Nat) (listed : Array Bool) (a : Act) (w : World), AnyT P md ops Q S st n listed a w → wpAny P md ops Q n listed a w
  | 0, _, _, _, h => h
  | n + 1, _, _, _, h => ⟨h.1, fun i hi => wpOp_mono (fun a' w' k => any_of_T n _ a' w' k.2) (h.2 i hi)⟩
/-- each of a row waits for the one ahead of it -/
def chainT (md : Region.Mode) (ops : Array Oper) : Nat → List Nat → Bool
  | _, [] => true
  | i, c :: r => (match ops[c]? with | some o => o.after.toList.any (fun e => Region.binds md e && e.on == i) | none => false) && chainT md ops c r
theorem chain_not {listed : Array Bool} : ∀ (ch : List Nat) (i : Nat), chainT md ops i ch = true → listed.getD i true = false → (∀ c ∈ ch, listed.getD c true = false) → ∀ j ∈ Region.ready md ops listed, j ∉ ch
  | [], _, _, _, _, j, _, hm => by cases hm
  | c :: r, i, hch, hi, hall, j, hj, hm => by
    simp only [chainT, Bool.and_eq_true] at hch
    rcases List.mem_cons.1 hm with rfl | hm
    · obtain ⟨_, oj, hoj, hw⟩ := mem_ready.1 hj
      rw [hoj] at hch
      obtain ⟨e, he, hb⟩ := List.any_eq_true.1 hch.1
      simp only [Bool.and_eq_true, beq_iff_eq] at hb
      have h1 := hw e (Array.mem_toList_iff.1 he) hb.1
      rw [hb.2] at h1
      rcases Nat.lt_or_ge i listed.size with h' | h'
      · simp [h'] at hi h1; rw [hi] at h1; cases h1
      · simp [Array.getElem?_eq_none h'] at h1
    · exact chain_not r c hch.2 (hall c (List.mem_cons_self ..)) (fun d hd => hall d (List.mem_cons_of_mem _ hd)) j hj hm
theorem chain_set {listed : Array Bool} {ch : List Nat} {j : Nat} (h : ∀ c ∈ ch, listed.getD c true = false) (hj : j ∉ ch) : ∀ c ∈ ch, (listed.setIfInBounds j true).getD c true = false := fun c hc => by
  rw [getD_set_ne true (fun e => hj (by rw [e]; exact hc))]
  exact h c hc
/-- an operation that only reads comes first: number st waits for it, by a row of others -/
theorem anyT_first {i : Nat} {oi : Oper} {v : Value} {ch : List Nat} (hi : ops[i]? = some oi) (hsel : ∀ (j : Nat) (o : Oper) cs b, ops[j]? = some o → o.op ≠ .select cs b) (hist : i ≠ st) (hst : st ∈ ch) (hch : chainT md ops i ch = true)
    (hQ : ∀ c a w, Q (.panic c) (a.put oi.dst v) w → Q (.panic c) a w) :
    ∀ (n : Nat) (listed : Array Bool) (a : Act) (w : World), (∀ c ∈ ch, listed.getD c true = false) →
      (∀ j oj, ops[j]? = some oj → j ≠ i → listed.getD j true = false → (∀ e ∈ oj.after, Region.binds md e = true → e.on ≠ i) → oi.apart ops oj = true) →
      i ∈ Region.ready md ops listed → YieldsIf P ops S oi v a → S w →
      AnyT P md ops Q S st n (listed.setIfInBounds i true) (a.put oi.dst v) w → AnyT P md ops Q S st (n + 1) listed a w
  | n, listed, a, w, hun, hfree, hr, hy, hS, H => by
    refine ⟨fun h => (by rw [h] at hr; cases hr), fun j hj => ?_⟩
    by_cases hji : j = i
    · subst hji; exact hy.wpOp hi hS ⟨fun _ => hS, H⟩
    · have h0 := (mem_ready.1 hr).1
      have hjc : j ∉ ch := chain_not ch i hch h0 hun j hj
      have hjst : j ≠ st := fun e => hjc (by rw [e]; exact hst)
      cases n with
      | zero =>
        have := ready_mono (i := i) hj hji
        rw [H.1] at this
        cases this
      | succ n =>
        have h1 := H.2 j (ready_mono hj hji)
        obtain ⟨hjun, oj, hoj, hall⟩ := mem_ready.1 hj
        have hnot : ∀ e ∈ oj.after, Region.binds md e = true → e.on ≠ i := fun e he hb heq => by
          have h2 := hall e he hb
          rw [heq] at h2
          rcases Nat.lt_or_ge i listed.size with h' | h'
          · simp [h'] at h0 h2; rw [h0] at h2; cases h2
          · simp [Array.getElem?_eq_none h'] at h2
        have h2 := wpOp_putIf hoj (hfree j oj hoj hji hjun hnot) (fun cs b => hsel i oi cs b hi) (fun cs b => hsel j oj cs b hoj) hQ hy h1
        refine wpOp_mono (fun a' w' h3 => ⟨h3.2.1, ?_⟩) h2
        refine anyT_first hi hsel hist hst hch hQ n (listed.setIfInBounds j true) a' w' (chain_set hun hjc) (fun k ok hk hki hku hno => ?_) (ready_mono hr (Ne.symm hji)) h3.1 (h3.2.1 hjst) ?_
        · refine hfree k ok hk hki ?_ hno
          by_cases hjk : j = k
          · subst hjk; exact hjun
          · rw [getD_set_ne true hjk] at hku; exact hku
        · rw [Array.setIfInBounds_comm _ _ hji]
          exact h3.2.2
/-- the moves of a walk: take number i, that only reads, first -/
theorem anyT_take (i : Nat) (ch : List Nat) {oi : Oper} {v : Value} {n : Nat} {listed : Array Bool} {a : Act} {w : World} (hi : ops[i]? = some oi)
    (hs : Region.noSelect ops = true) (hf : Region.free md ops listed i = true) (hr : (Region.ready md ops listed).contains i = true)
    (hch : (chainT md ops i ch && decide (i ≠ st) && ch.contains st && ch.all (fun c => listed.getD c true == false)) = true)
    (hQ : ∀ c a w, Q (.panic c) (a.put oi.dst v) w → Q (.panic c) a w) (hy : YieldsIf P ops S oi v a) (hS : S w)
    (h : AnyT P md ops Q S st n (listed.setIfInBounds i true) (a.put oi.dst v) w) : AnyT P md ops Q S st (n + 1) listed a w := by
  simp only [Bool.and_eq_true, decide_eq_true_eq, List.contains_iff_mem, List.all_eq_true, beq_iff_eq] at hch
  exact anyT_first hi (Region.noSelect_spec hs) hch.1.1.2 hch.1.2 hch.1.1.1 hQ n listed a w hch.2 (Region.free_spec hi hf) (by simpa using hr) hy hS h
def AllReadyT (P : Program) (md : Region.Mode) (ops : Array Oper) (Q : Exit → Act → World → Prop) (S : World → Prop) (st n : Nat) (listed : Array Bool) (a : Act) (w : World) (rs : List Nat) : Prop :=
  ∀ i ∈ rs, wpOp P ops Q i (fun a' w' => (i ≠ st → S w') ∧ AnyT P md ops Q S st n (listed.setIfInBounds i true) a' w') a w
theorem AllReadyT.nil {n : Nat} {listed : Array Bool} {a : Act} {w : World} : AllReadyT P md ops Q S st n listed a w [] := fun _ h => by cases h
theorem AllReadyT.cons {n : Nat} {listed : Array Bool} {a : Act} {w : World} {i : Nat} {o : Oper} {rs : List Nat} (ho : ops[i]? = some o)
    (h : ∀ K' : Act → World → Prop, Shut (∀ a w, (i ≠ st → S w) → ((i ≠ st → S w) → AnyT P md ops Q S st n (listed.setIfInBounds i true) a w) → K' a w) → if Region.wanted o (yielded ops a.tmps) = true then Oper.wp P o a w K' Q else K' (a.put o.dst undef) w)
    (hs : AllReadyT P md ops Q S st n listed a w rs) : AllReadyT P md ops Q S st n listed a w (i :: rs) := fun j hj => by
  rcases List.mem_cons.1 hj with rfl | hj
  · exact wpOp_step ho (fun K' hK => h K' (fun a w hS hW => hK a w ⟨hS, hW hS⟩))
  · exact hs j hj
theorem anyT_ready {rs : List Nat} {n : Nat} {listed : Array Bool} {a : Act} {w : World} (hr : Region.ready md ops listed = rs) (hne : rs ≠ [])
    (h : AllReadyT P md ops Q S st n listed a w rs) : AnyT P md ops Q S st (n + 1) listed a w := ⟨fun h0 => absurd (hr ▸ h0) hne, hr ▸ h⟩
theorem anyT_done {listed : Array Bool} {a : Act} {w : World} (hr : Region.ready md ops listed = []) (h : Q .normal a w) : ∀ n, AnyT P md ops Q S st n listed a w
  | 0 => ⟨hr, h⟩
  | _ + 1 => ⟨fun _ => h, by rw [hr]; simp⟩
theorem wp_region_T (st : Nat) {id : Nat} {a : Act} {w : World} (hm : P.follows .mixedOrders = true) (hS : S w.drew)
    (h : S w.drew → AnyT P .any ops Q S st ops.size (Array.replicate ops.size false) a w.drew) : (Code.region id ops true).wp P Q a w :=
  wp_region_any hm (any_of_T _ _ _ _ (h hS))
end
end Go.Proofs.Ytneehfngphpccaa
