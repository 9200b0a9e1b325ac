/- The wheel's order: the comparison is a total order; what the sort wants of a row of dues. -/
import Derived.Test.YtneehfngphpccaaWhMath
import Derived.Test.YtneehfngphpccaaWhLay
import Derived.Shelf.SlSortCmp.NoneTotal
set_option linter.unusedVariables false
set_option linter.unusedSimpArgs false
namespace Go.Proofs.Ytneehfngphpccaa
open Go.RowKit
open Go.Sort
open Go.Proofs
def encD (x : Du) : List Value := [.int .i64 x.1, .int .i64 x.2.1, .int .i64 x.2.2]
theorem ltD (x y : Du) : ltOf cmpD x y = lessD x y := by
  obtain ⟨a, b, c⟩ := x
  obtain ⟨a', b', c'⟩ := y
  unfold ltOf cmpD lessD cmpI
  dsimp only
  by_cases h1 : c = c'
  · subst h1
    by_cases h2 : a = a'
    · subst h2
      by_cases h3 : b < b'
      · simp [orL, h3]
      · by_cases h4 : b' < b <;> simp [orL, h3, h4]
    · by_cases h3 : a < a'
      · simp [orL, h3, h2]
      · have h4 : a' < a := by omega
        simp [orL, h3, h4, h2]
  · by_cases h3 : c < c'
    · simp [orL, h3, h1]
    · have h4 : c' < c := by omega
      simp [orL, h3, h4, h1]
theorem swoD : SWO (ltOf cmpD) where
  irrefl x := by rw [ltD, lessD_no]; omega
  trans x y z h1 h2 := by rw [ltD, lessD_iff] at *; omega
  ntrans x y z h1 h2 := by rw [ltD, lessD_no] at *; omega
theorem totD (x y : Du) (h1 : ltOf cmpD x y = false) (h2 : ltOf cmpD y x = false) : x = y := by
  rw [ltD, lessD_no] at *
  obtain ⟨a, b, c⟩ := x
  obtain ⟨a', b', c'⟩ := y
  dsimp only at h1 h2
  have e1 : c = c' := by omega
  have e2 : a = a' := by omega
  have e3 : b = b' := by omega
  rw [e1, e2, e3]
theorem ltOf_cmpD : ltOf cmpD = lessD := by funext x y; exact ltD x y
theorem flat_get (d : Array Du) (j : Nat) (h : j < d.size * 3) : (flatK encD 3 d)[j]! = (duVs d.toList).getD j default := by
  rw [get_flatK encD 3 d j h]
  have hq : j / 3 < d.size := by omega
  have hx : d.toList[j / 3]? = some d[j / 3]! := by rw [getElem!_pos d _ hq, Array.getElem?_toList]; simp [hq]
  obtain ⟨g0, g1, g2⟩ := duVs_at d.toList (j / 3) d[j / 3]! hx
  generalize d[j / 3]! = x at *
  have hj : j = j / 3 * 3 + j % 3 := by omega
  rcases (by omega : j % 3 = 0 ∨ j % 3 = 1 ∨ j % 3 = 2) with h | h | h
  · rw [h] at hj ⊢; rw [hj, List.getD_eq_getElem?_getD, Nat.add_zero, g0]; rfl
  · rw [h] at hj ⊢; rw [hj, List.getD_eq_getElem?_getD, g1]; rfl
  · rw [h] at hj ⊢; rw [hj, List.getD_eq_getElem?_getD, g2]; rfl
theorem holds_app {w : World} {e : TypeId} {b n c : Nat} {g : Option Nat} {L : List Du} (h : App w e 3 (.slice (some ⟨b, 0, none⟩) n c) n g (duVs L)) : HoldsK encD 3 w b 0 L.toArray ∧ b < w.heap.size ∧ n = L.length := by
  have hl : L.length = n := by have := h.len; rw [duVs_len] at this; omega
  obtain ⟨⟨h1, h2⟩, h3⟩ := h
  rcases h2 with ⟨hv, h0⟩ | ⟨b', cap, cur, hv, _, hh, hnc, hcm, hcs, htake⟩
  · cases hv
  · injection hv with e1 e2 e3
    injection e1 with e1
    injection e1 with e1
    subst e1 e3
    refine ⟨fun j hj => ?_, lt_heap hh, hl.symm⟩
    rw [size_flatK] at hj
    have hj' : j < n * 3 := by simpa [hl] using hj
    refine ⟨?_, by simp [World.frozen?, hh]⟩
    rw [flat_get _ _ hj, cell_of_row w b _ cur _ _ hh, Nat.zero_add]
    have : cur.toList[j]? = (duVs L)[j]? := by rw [← htake, List.getElem?_take, if_pos hj']
    rw [← Array.getElem?_toList, this]
    simp only [List.getD_eq_getElem?_getD, id]
    have hlt : j < (duVs L).length := by rw [duVs_len]; omega
    rw [List.getElem?_eq_getElem hlt]
    simp
theorem slD_sorted {w : World} {b c : Nat} {L L' : List Du} (hb : b < w.heap.size) (hH : HoldsK encD 3 w b 0 L.toArray) (hl : L'.length = L.length) (hc : L.length ≤ c) (hm : c ≤ maxLen) (n : Nat) (os : Array Obj) :
    SlD (sortWorldK encD 3 w b 0 n L'.toArray os) (some ⟨b, 0, none⟩) L.length c L' ∧ Only [b] w (sortWorldK encD 3 w b 0 n L'.toArray os) := by
  have hh := holdsK_sortWorldK_c encD 3 w b 0 L.toArray L'.toArray n os hH hb (by simpa using hl)
  have hs := size_sortWorldK_c encD 3 w b 0 n L'.toArray os
  refine ⟨⟨hl, hc, hm, fun _ => ⟨b, 0, rfl, Nat.lt_of_lt_of_le hb hs, fun j u hu => ?_⟩⟩, ⟨rfl, rfl, rfl, hs, fun k hk hn => ?_⟩⟩
  · have hj : j < L'.length * 3 := by have := (List.getElem?_eq_some_iff.1 hu).1; rw [duVs_len] at this; exact this
    have := (hh j (by rw [size_flatK]; simpa using hj)).1
    rw [this, flat_get _ _ (by simpa using hj)]
    simp [List.getD_eq_getElem?_getD, hu]
  · unfold sortWorldK
    rw [Go.Sort.heap_grow_old _ _ (by rw [size_putRowK]; exact hk)]
    have hne : b ≠ k := fun e => hn (by simp [e])
    simp [putRowK, Go.Sort.putRow, Go.Sort.mapBlock, Array.getElem?_modify, hne, Go.Sort.ahead]
theorem cmpLays (b n : Nat) (w : World) : CmpLays Try.prog 26 #[] encD 3 cmpD b 0 n w := by
  intro m os dk hs x y
  refine (wh_cmp x y _).mono ?_
  rintro e w' ⟨rfl, rfl⟩
  generalize sortWorldK encD 3 w b 0 m dk os = W
  refine ⟨rfl, 1, #[(.cells #[.int .i64 x.1, .int .i64 x.2.1, .int .i64 x.2.2] 32), (.cells #[.int .i64 y.1, .int .i64 y.2.1, .int .i64 y.2.2] 32), (.cells #[.int .i64 (cmpI x.2.2 y.2.2), .int .i64 (cmpI x.1 y.1), .int .i64 (cmpI x.2.1 y.2.1)] 3)], ?_⟩
  rw [alloc_eq_grow, alloc_eq_grow, alloc_eq_grow, grow_grow]
  exact grow_grow (W.drewN 1) #[_, _] #[_]
theorem isAggD (w : World) : (isAgg (sortDL_ren.t 24)).run Try.prog w = .ok true w := by kernel_rfl
theorem sizeOfD (w : World) : (Go.sizeOf (sortDL_ren.t 24)).run Try.prog w = .ok 3 w := by kernel_rfl
theorem sort_says : SortSays := by
  intro w a n c g L hA hn
  have hl : L.length = n := by have := hA.len; rw [duVs_len] at this; omega
  rcases Nat.eq_zero_or_pos n with h0 | h0
  · subst h0
    have hL : L = [] := List.eq_nil_of_length_eq_zero hl
    subst hL
    have h := AnyF.slices_SortFunc_none (P := Try.prog) (ρ := sortDL_ren) sortDL a c (.func (.func 26) #[] #[]) w
    change Calls Try.prog 25 _ _ _ at h
    refine h.mono ?_
    rintro e w' ⟨rfl, rfl⟩
    exact ⟨rfl, by rw [show sortD [] = [] from by simp [sortD]]; exact slD_app hA, Only.refl _ _⟩
  · obtain ⟨b, rfl, hb⟩ : ∃ b, a = some ⟨b, 0, none⟩ ∧ g = some b := by
      obtain ⟨⟨h1, h2⟩, h3⟩ := hA
      rcases h2 with ⟨hv, h0'⟩ | ⟨b', cap, cur, hv, _⟩
      · omega
      · injection hv with e1
        subst e1
        exact ⟨b', rfl, h3.symm⟩
    obtain ⟨hH, hbl, hnl⟩ := holds_app hA
    have hnc : n ≤ c ∧ c ≤ maxLen := ⟨(slD_app hA).2.1, (slD_app hA).2.2.1⟩
    have eg : ∀ args w, (callFunc 26 args).run Try.prog w = .ok (.enter 26 args) w := enters_of Try.func26 (by kernel_rfl) rfl
    have h := AnyQ.slices_SortFunc_total (P := Try.prog) (ρ := sortDL_ren) sortDL 3 isAggD sizeOfD encD (fun _ => rfl) (fun x v hv => by simp [encD] at hv; rcases hv with rfl | rfl | rfl <;> rfl) cmpD swoD 26 #[] b 0 c L.toArray w eg (cmpLays b _ w) hH hbl (by simp; omega) totD
    change Calls Try.prog 25 _ _ _ at h
    rw [show (L.toArray).size = n from by simp [hl]] at h
    refine h.mono ?_
    rintro e w' ⟨rfl, m, os, rfl⟩
    have hsl : (sortD L).length = L.length := (List.mergeSort_perm _ _).length_eq
    have hr := slD_sorted hbl hH hsl (by omega) hnc.2 m os
    rw [ltOf_cmpD]
    rw [hnl]
    refine ⟨rfl, hr.1, ?_⟩
    rw [hb]
    exact hr.2
end Go.Proofs.Ytneehfngphpccaa
