/- The wheel: all that comes, in order. -/
import Derived.Test.YtneehfngphpccaaWhRange
import Derived.Test.YtneehfngphpccaaWhRef2
import Derived.Maps.RangeWalk
import Derived.Laws.MakeOwn
set_option linter.unusedVariables false
set_option linter.unusedSimpArgs false
namespace Go.Proofs.Ytneehfngphpccaa
open Go.RowKit
open Go.ChangeMaps (setBlock)
def duE (m : ME) : Du := (m.a, m.b, intOf m.v)
def sortD (L : List Du) : List Du := L.mergeSort fun x y => !(lessD y x)
/-- what slices.SortFunc does to a row of dues of the call's own -/
def SortSays : Prop := ∀ (w : World) (a : Option Addr) (n c : Nat) (g : Option Nat) (L : List Du), App w 32 3 (.slice a n c) n g (duVs L) → n ≤ 1000 →
  Calls Try.prog 25 #[.slice a n c, .func (.func 26) #[] #[]] w fun e w' => e = .returned (.tuple #[]) ∧ SlD w' a n c (sortD L) ∧ Only g.toList w w'
theorem elemW : Elem Try.prog 22 32 (duV (0, 0, 0)) 3 24 :=
  ⟨Try.underlying22, info_parts (by kernel_rfl), rfl, by omega⟩
def lenV : Value → Nat
  | .slice _ n _ => n
  | _ => 0
theorem only_grown {w w' : World} (h : w.grownBy w' none) : Kept w w' := ⟨h.os, h.tape, h.output, h.size, fun k hk => h.block k hk (by simp)⟩
theorem app_of_own {w : World} {e : TypeId} {size n : Nat} {v : Value} {xs : List Value} (h : w.ownsRow 0 e size v n xs) : App w e size v n v.ownBlock xs := ⟨h, rfl⟩
set_option maxRecDepth 100000 in
set_option maxHeartbeats 4000000 in
theorem wh_all (hsort : SortSays) {w : World} {p q : Nat} {now : Int} {M : List ME} {ck : Nat} (h : WhAt w p q now M ck) (hS : Stamped M ck) (hV : ∀ m ∈ M, ∃ t, m.v = .int .i64 t) (hn : M.length ≤ 1000) :
    Calls Try.prog 22 #[.pointer (some ⟨p, 0, none⟩)] w fun e w' => ∃ (a : Option Addr) (c : Nat) (D : List ME), e = .returned (.slice a M.length c) ∧ D.Perm M ∧ SlD w' a M.length c (sortD (D.map duE)) ∧ Kept w w' ∧ (∀ y, a = some y → w.heap.size ≤ y.block) := by
  have c1 : w.cell? ⟨p, 1, none⟩ = some (.map (some q)) := at_cell h.box 1 _ rfl
  have hl := fun ty => run_mlen h.map ty
  obtain ⟨ii, hii, hiz, his, hib⟩ := elemW.hi
  obtain ⟨wm, hmk, hmo, hmg⟩ := run_make_own (P := Try.prog) w 0 22 32 ii _ 3 elemW.ht hii hiz his   .i64 .i64 M.length (by rw [hib]; omega) (by unfold maxLen; omega) (Nat.zero_le _)
  have hKm := only_grown hmg
  have HA0 := Lib.hid (app_of_own hmo)
  have hqw := lt_heap h.map
  obtain ⟨hrg, hR⟩ := RgAt.start (P := Try.prog) keyM (h.keep hKm).map
  have c1m : wm.cell? ⟨p, 1, none⟩ = some (.map (some q)) := hKm.cel c1
  have hqr : q ≠ wm.heap.size := by have := hKm.size; omega
  have hwm := hKm.size
  have HKr := Lib.hid (hKm.trans (kept_al wm (.mapIter (some q) ck #[] ck)))
  have HR := Lib.hid hR
  have HA1 := Lib.hid ((kept_al wm (.mapIter (some q) ck #[] ck)).only.app HA0.out (by simp))
  have hwr0 := (kept_al wm (.mapIter (some q) ck #[] ck)).size
  have hgb : (Value.slice (some ⟨w.heap.size, 0, none⟩) 0 M.length).ownBlock = some w.heap.size := rfl
  rw [hgb] at HA0 HA1
  have hws : w.heap.size < wm.heap.size := HA0.out.lt _ rfl
  obtain ⟨r, hr⟩ : ∃ r, wm.heap.size = r := ⟨_, rfl⟩
  rw [hr] at hrg HR hqr
  clear h hmo hmg hKm hii hiz his hib hR HA0 hgb
  go_enter Try.func22, Try.ntmps22
  go_wp2_with fail
  generalize World.alloc wm _ = wr0 at *
  clear hrg c1m hmk c1 hl
  go_loopw [3] (fun v wr => ∃ (D : List ME) (a : Option Addr) (n c : Nat) (g : Option Nat), v = .slice a n c ∧ Hid (RgAt wr q r M ck D) ∧ Hid (App wr 32 3 (.slice a n c) n g (duVs (D.map duE))) ∧ D.length = n ∧ Hid (Kept w wr) ∧ Hid (∀ k ∈ g.toList, w.heap.size ≤ k ∧ k ≠ r) ∧ wm.heap.size ≤ wr.heap.size) (fun v _ => M.length - lenV v)
  case atStart => exact ⟨[], _, _, _, some w.heap.size, rfl, HR, HA1, rfl, HKr, (by intro k hk; simp at hk; omega), by assumption⟩
  case round =>
    obtain ⟨D, a, n, c, g, rfl, HRD, HAD, hnD, HKD, HGD, hsz⟩ := hrel
    have hwr := HKD.out.size
    have hD := HAD.out.len
    go_wp2_with (at_next; refine wpList_next_me rfl _ rfl rfl HRD.out hS ?_ ?_)
    · intro hperm
      obtain rfl : n = M.length := by rw [← hnD]; exact hperm.length_eq
      have HS := Lib.hid (hsort wr a M.length c g (D.map duE) HAD.out (by omega))
      go_wp2_with (go_at_call 25; refine HS.out.mono ?_; rintro E V ⟨rfl, hSl, hO⟩)
      go_ret
      exact ⟨a, c, D, rfl, hperm, hSl, HKD.out.onl hO (fun i hi => (HGD.out i hi).1), fun y hy => by subst hy; exact (HGD.out y.block (by rw [app_blk HAD.out]; simp)).1⟩
    · intro m wr1 hm hlt hR1 hO1 hen
      obtain ⟨t, ht⟩ := hV m hm
      obtain ⟨ma, mb, mv, mn⟩ := m
      dsimp only at ht
      subst ht
      unfold kv at hen
      dsimp only at hen
      have hd1 : duE ⟨ma, mb, .int .i64 t, mn⟩ = (ma, mb, t) := rfl
      have HE : Hid (duVs ((D ++ [(⟨ma, mb, .int .i64 t, mn⟩ : ME)]).map duE) = duVs (D.map duE) ++ [.int .i64 ma, .int .i64 mb, .int .i64 t]) := by unfold Hid; rw [List.map_append, duVs_app]; rfl
      have KX : Kept wr1 ((wr1.alloc (.cells #[.int .i64 ma, .int .i64 mb] 30)).alloc (.cells #[.int .i64 ma, .int .i64 mb, .int .i64 t] 32)) := (kept_al _ _).trans (kept_al _ _)
      have OX := hO1.trans (KX.only.mono (T := [r]) (by simp))
      have HAX := Lib.hid (OX.app HAD.out (by intro k hk; have := (HGD.out k (by rw [hk]; simp)).2; simpa using this))
      have hB : ((wr1.alloc (.cells #[.int .i64 ma, .int .i64 mb] 30)).alloc (.cells #[.int .i64 ma, .int .i64 mb, .int .i64 t] 32)).heap[wr1.heap.size + 1]? = some (.cells #[.int .i64 ma, .int .i64 mb, .int .i64 t] 32 (0, 0)) := by
        have := heap_alloc_new (wr1.alloc (.cells #[.int .i64 ma, .int .i64 mb] 30)) (.cells #[.int .i64 ma, .int .i64 mb, .int .i64 t] 32)
        simpa using this
      have HR2 := Lib.hid (hR1.only KX.only (by simp) (by simp))
      have hsr := hO1.size
      have hrl : r < wr.heap.size := by obtain ⟨_, _, hi⟩ := HRD.out.iter; exact lt_heap hi
      have HSrc := Lib.hid (src_block (P := Try.prog) (size := 3) Try.underlying22 hB 1 1 rfl (by simp [Value.oneCell']))
      have KXs := KX.size
      clear hB hR1 hm
      go_wp2_with (at_builtin; refine wpList_app rfl (.tmp 22) (.tmp 26) 22 22 rfl elemW _ n _ _ rfl HAX.out _ 1 _ rfl HSrc.out (by omega) (by unfold maxLen; omega) ?_; intro a5 c5 g5 w5 hA5 hO5 hG5; rw [← HE.out] at hA5; have HA5 := Lib.hid hA5; have HO5 := Lib.hid hO5; have HG5 := Lib.hid hG5; clear hA5 hO5 hG5)
      have hg1 : ∀ i ∈ g5.toList, w.heap.size ≤ i ∧ i ≠ r := by
        intro i hi
        rcases HG5.out with h | h
        · rw [h] at hi; exact HGD.out i hi
        · rw [h] at hi; simp at hi; omega
      have hqg : q ∉ g.toList := fun h => by have := (HGD.out q h).1; omega
      have hrg : r ∉ g.toList := fun h => (HGD.out r h).2 rfl
      have hKF : Kept w w5 := by
        refine HKD.out.onl (S := r :: g.toList) ((OX.mono (by intro k _ hk; simp at hk; simp [hk])).trans (HO5.out.mono (by intro k _ hk; simp at hk ⊢; exact .inr hk))) ?_
        intro i hi
        rcases List.mem_cons.1 hi with rfl | hi
        · omega
        · exact (HGD.out i hi).1
      go_roundw
      case rel => exact ⟨D ++ [(⟨ma, mb, .int .i64 t, mn⟩ : ME)], a5, n + 1, c5, g5, rfl, HR2.out.only HO5.out hqg hrg, HA5.out, by simp [hnD], hKF, hg1, by have := HO5.out.size; omega⟩
      case measure => simp [lenV]; omega
end Go.Proofs.Ytneehfngphpccaa
