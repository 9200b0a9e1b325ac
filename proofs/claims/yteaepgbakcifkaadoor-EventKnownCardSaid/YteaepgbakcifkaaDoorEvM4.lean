/- Events, plainly: in words. -/
import Derived.Test.YteaepgbakcifkaaDoorEvM2
import Derived.Lib.Join
import Derived.Lib.ItoaLen
set_option linter.unusedVariables false
set_option linter.unusedSimpArgs false
namespace Go.Proofs.YteaepgbakcifkaaDoor
open Go.RowKit
def wordK (k : Int) : List UInt8 :=
  if k = 1 then [100, 101, 102, 105, 110, 101] else if k = 2 then [115, 116, 97, 114, 116] else if k = 3 then [108, 101, 97, 115, 101] else if k = 4 then [100, 111, 110, 101] else if k = 5 then [102, 97, 105, 108]
  else if k = 6 then [116, 105, 99, 107] else if k = 7 then [115, 105, 103, 110, 97, 108] else if k = 8 then [99, 97, 110, 99, 101, 108] else [101, 112, 111, 99, 104]
def fldTxt (e : EV) (c : UInt8) : ByteArray :=
  if c = 82 then ⟨(Lib.itoa e.r).toArray⟩ else if c = 84 then ⟨(Lib.itoa e.t).toArray⟩ else if c = 89 then ⟨(Lib.itoa e.y).toArray⟩ else if c = 78 then ⟨(Lib.itoa e.n).toArray⟩ else if c = 77 then e.nm else if c = 75 then e.ky else if c = 68 then e.dt else emp
def showL (e : EV) (l : List UInt8) : List ByteArray := ⟨(wordK e.k).toArray⟩ :: l.map (fldTxt e)
def joinB (L : List ByteArray) : ByteArray := ⟨(Lib.join (L.map (·.data.toList)) [32]).toArray⟩
def showE (e : EV) : ByteArray := if goodE e = true then joinB (showL e (flds e.k)) else emp
theorem showL_succ (e : EV) (l : List UInt8) (i : Nat) (h : i < l.length) : showL e (l.take (i + 1)) = showL e (l.take i) ++ [fldTxt e (l[i]'h)] := by
  unfold showL
  rw [List.take_succ_eq_append_getElem h, List.map_append]
  rfl
theorem showL_len (e : EV) (l : List UInt8) : (showL e l).length = l.length + 1 := by unfold showL; simp
theorem join_len (L : List ByteArray) (h : ∀ x ∈ L, x.size ≤ 1024) : (Lib.join (L.map (·.data.toList)) [32]).length ≤ 1025 * L.length := by
  have hl : ∀ L : List ByteArray, (∀ x ∈ L, x.size ≤ 1024) → Lib.lens (L.map (·.data.toList)) ≤ 1024 * L.length := by
    intro L
    induction L with
    | nil => intro _; simp [Lib.lens]
    | cons a L ih =>
      intro h
      have h1 := ih fun x hx => h x (List.mem_cons_of_mem _ hx)
      have h2 := h a (List.mem_cons_self ..)
      have h3 : a.data.toList.length = a.size := rfl
      simp only [Lib.lens, List.map_cons, List.sum_cons, List.length_cons] at h1 ⊢
      omega
  cases L with
  | nil => simp [Lib.join_nil]
  | cons a L =>
    have h1 := hl L fun x hx => h x (List.mem_cons_of_mem _ hx)
    have h2 := h a (List.mem_cons_self ..)
    have h3 : a.data.toList.length = a.size := rfl
    rw [List.map_cons, Lib.join_cons, List.length_append, Lib.joinTail_length]
    simp only [List.length_map, List.length_cons, List.length_nil]
    omega
theorem wordK_len (k : Int) : (wordK k).length ≤ 6 := by
  unfold wordK
  repeat' split
  all_goals simp
theorem fldTxt_len (e : EV) (c : UInt8) (hc : ltr c) (h : okF e c.toNat = true) : (fldTxt e c).size ≤ 1024 := by
  have hi : ∀ n : Int, -1 ≤ n → n ≤ 1099511627776 → (⟨(Lib.itoa n).toArray⟩ : ByteArray).size ≤ 1024 := by
    intro n h0 h1
    show (Lib.itoa n).toArray.size ≤ 1024
    rw [List.size_toArray]
    have := Lib.itoa_length_le n (by omega) (by omega)
    omega
  rcases hc with rfl | rfl | rfl | rfl | rfl | rfl | rfl
  · have := okF_r h; exact hi _ (by omega) (by omega)
  · have := okF_t h; exact hi _ (by omega) (by omega)
  · have := okF_y h; exact hi _ (by omega) (by omega)
  · have := okF_n h; exact hi _ (by omega) (by omega)
  · have := okF_nm h; show e.nm.size ≤ 1024; omega
  · have := okF_ky h; show e.ky.size ≤ 1024; omega
  · have := okF_dt h; show e.dt.size ≤ 1024; omega
theorem showL_size (e : EV) (h : goodE e = true) : ∀ x ∈ showL e (flds e.k), x.size ≤ 1024 := by
  obtain ⟨-, -, h⟩ := (goodE_iff e).1 h
  intro x hx
  unfold showL at hx
  rcases List.mem_cons.1 hx with rfl | hx
  · show (wordK e.k).toArray.size ≤ 1024
    rw [List.size_toArray]
    have := wordK_len e.k
    omega
  · obtain ⟨c, hc, rfl⟩ := List.mem_map.1 hx
    exact fldTxt_len e c (flds_ltr _ _ hc) (h c hc)
end Go.Proofs.YteaepgbakcifkaaDoor
