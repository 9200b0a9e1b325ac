/- EventKnown: what is reckoned. -/
import Derived.Test.YteaepgbakcifkaaDoorEvSameW
set_option linter.unusedVariables false
set_option linter.unusedSimpArgs false
namespace Go.Proofs.YteaepgbakcifkaaDoor
open Go.RowKit
def badE : List EV := [⟨0, 0, 0, 0, 0, ⟨#[]⟩, ⟨#[]⟩, ⟨#[]⟩⟩, ⟨10, 0, 0, 0, 0, ⟨#[]⟩, ⟨#[]⟩, ⟨#[]⟩⟩, ⟨6, 0, 0, 0, 0, ⟨#[]⟩, ⟨#[]⟩, ⟨#[]⟩⟩, ⟨6, 0, 0, 0, 1099511627777, ⟨#[]⟩, ⟨#[]⟩, ⟨#[]⟩⟩, ⟨6, 1, 0, 0, 1, ⟨#[]⟩, ⟨#[]⟩, ⟨#[]⟩⟩, ⟨9, 0, 0, 0, 1048576, ⟨#[]⟩, ⟨#[]⟩, ⟨#[]⟩⟩, ⟨3, 1, 0, 0, 0, ⟨#[]⟩, ⟨#[]⟩, ⟨#[]⟩⟩, ⟨3, 65, 0, 1, 0, ⟨#[]⟩, ⟨#[]⟩, ⟨#[]⟩⟩, ⟨3, 1, 16, 1, 0, ⟨#[]⟩, ⟨#[]⟩, ⟨#[]⟩⟩, ⟨3, 1, 0, 10, 0, ⟨#[]⟩, ⟨#[]⟩, ⟨#[]⟩⟩, ⟨1, 0, 0, 0, 0, ⟨#[65]⟩, ⟨#[]⟩, ⟨#[]⟩⟩, ⟨2, 1, 0, 0, 0, ⟨#[97]⟩, ⟨#[49, 50, 51, 52, 53, 54, 55, 56, 57, 48, 49, 50, 51, 52, 53, 54, 55]⟩, ⟨#[]⟩⟩, ⟨2, 1, 0, 0, 0, ⟨#[97]⟩, ⟨#[]⟩, ⟨#[120]⟩⟩, ⟨8, 0, 0, 0, 0, ⟨#[]⟩, ⟨#[]⟩, ⟨#[]⟩⟩, ⟨5, 1, 0, 1, 0, ⟨#[]⟩, ⟨#[]⟩, ⟨#[120]⟩⟩]
theorem bad_all : ∀ e ∈ badE, goodE e = false := by decide +kernel
def evsV (L : List EV) : List Value := L.flatMap fun e => [.int .i64 e.k, .int .i64 e.r, .int .i64 e.t, .int .i64 e.y, .int .i64 e.n, .string e.nm, .string e.ky, .string e.dt]
theorem evsV_at : ∀ (L : List EV) (i : Nat) (e : EV), L[i]? = some e → ∀ j, j < 8 → (evsV L)[i * 8 + j]? = [Value.int .i64 e.k, .int .i64 e.r, .int .i64 e.t, .int .i64 e.y, .int .i64 e.n, .string e.nm, .string e.ky, .string e.dt][j]?
  | [], _, _, h, _, _ => by cases h
  | a :: L, 0, e, h, j, hj => by
    injection h with h
    subst h
    rw [Nat.zero_mul, Nat.zero_add]
    show ([Value.int .i64 a.k, .int .i64 a.r, .int .i64 a.t, .int .i64 a.y, .int .i64 a.n, .string a.nm, .string a.ky, .string a.dt] ++ evsV L)[j]? = _
    rw [List.getElem?_append_left (by simpa using hj)]
  | a :: L, i + 1, e, h, j, hj => by
    have := evsV_at L i e h j hj
    show ([Value.int .i64 a.k, .int .i64 a.r, .int .i64 a.t, .int .i64 a.y, .int .i64 a.n, .string a.nm, .string a.ky, .string a.dt] ++ evsV L)[(i + 1) * 8 + j]? = _
    rw [List.getElem?_append_right (by simp; omega), show (i + 1) * 8 + j - [Value.int .i64 a.k, .int .i64 a.r, .int .i64 a.t, .int .i64 a.y, .int .i64 a.n, .string a.nm, .string a.ky, .string a.dt].length = i * 8 + j by simp; omega]
    exact this
def badO : Obj := .cells (evsV badE).toArray 24 (0, 0)
theorem bad_row {w : World} {b : Nat} (h : w.heap[b]? = some badO) (i : Nat) (hi : i < 15) : ∃ e : EV, goodE e = false ∧ w.cell? ⟨b, i * 8, none⟩ = some (.int .i64 e.k) ∧ w.cell? ⟨b, i * 8 + 1, none⟩ = some (.int .i64 e.r) ∧ w.cell? ⟨b, i * 8 + 2, none⟩ = some (.int .i64 e.t) ∧ w.cell? ⟨b, i * 8 + 3, none⟩ = some (.int .i64 e.y) ∧ w.cell? ⟨b, i * 8 + 4, none⟩ = some (.int .i64 e.n) ∧ w.cell? ⟨b, i * 8 + 5, none⟩ = some (.string e.nm) ∧ w.cell? ⟨b, i * 8 + 6, none⟩ = some (.string e.ky) ∧ w.cell? ⟨b, i * 8 + 7, none⟩ = some (.string e.dt) := by
  have hl : i < badE.length := by show i < 15; exact hi
  have he : badE[i]? = some (badE[i]'hl) := List.getElem?_eq_getElem hl
  refine ⟨badE[i]'hl, bad_all _ (List.getElem_mem _), ?_⟩
  have hc : ∀ j, j < 8 → w.cell? ⟨b, i * 8 + j, none⟩ = [Value.int .i64 (badE[i]'hl).k, .int .i64 (badE[i]'hl).r, .int .i64 (badE[i]'hl).t, .int .i64 (badE[i]'hl).y, .int .i64 (badE[i]'hl).n, .string (badE[i]'hl).nm, .string (badE[i]'hl).ky, .string (badE[i]'hl).dt][j]? := by
    intro j hj
    rw [cell_of_row w b _ _ _ _ h, List.getElem?_toArray]
    exact evsV_at badE i _ he j hj
  exact ⟨hc 0 (by omega), hc 1 (by omega), hc 2 (by omega), hc 3 (by omega), hc 4 (by omega), hc 5 (by omega), hc 6 (by omega), hc 7 (by omega)⟩
abbrev knS : EV := ⟨2, 1, 0, 0, 0, ⟨#[97]⟩, ⟨#[]⟩, ⟨#[]⟩⟩
abbrev knD : EV := ⟨4, 64, 15, 9, 0, ⟨#[]⟩, ⟨#[]⟩, ⟨#[111, 107, 59]⟩⟩
theorem knS_good : goodE knS = true := by decide +kernel
theorem knD_good : goodE knD = true := by decide +kernel
theorem knD_enc : encEv knD = [4, 64, 15, 9, 3, 111, 107, 59] := by decide +kernel
theorem dec1 (n : Nat) (h : n < 10) : Lib.itoa (n : Int) = [UInt8.ofNat (48 + n)] := by rw [Lib.itoa_nonneg, Lib.decDigits, dif_pos h]
theorem dec2 (n : Nat) (h : 10 ≤ n) (h2 : n < 100) : Lib.itoa (n : Int) = [UInt8.ofNat (48 + n / 10), UInt8.ofNat (48 + n % 10)] := by
  rw [Lib.itoa_nonneg, Lib.decDigits, dif_neg (by omega), Lib.decDigits, dif_pos (by omega)]
  rfl
theorem knS_show : showE knS = ⟨#[115, 116, 97, 114, 116, 32, 49, 32, 97, 32]⟩ := by
  unfold showE
  rw [if_pos knS_good]
  have h := dec1 1 (by omega)
  have hs : showL knS (flds knS.k) = [(⟨#[115, 116, 97, 114, 116]⟩ : ByteArray), ⟨#[49]⟩, ⟨#[97]⟩, ⟨#[]⟩] := by
    show [(⟨(wordK 2).toArray⟩ : ByteArray), ⟨(Lib.itoa ((1 : Nat) : Int)).toArray⟩, ⟨#[97]⟩, ⟨#[]⟩] = _
    rw [h, show wordK 2 = [115, 116, 97, 114, 116] by decide]
    rfl
  rw [hs]
  rfl
theorem knD_show : showE knD = ⟨#[100, 111, 110, 101, 32, 54, 52, 32, 49, 53, 32, 57, 32, 111, 107, 59]⟩ := by
  unfold showE
  rw [if_pos knD_good]
  have h1 := dec2 64 (by omega) (by omega)
  have h2 := dec2 15 (by omega) (by omega)
  have h3 := dec1 9 (by omega)
  have hs : showL knD (flds knD.k) = [(⟨#[100, 111, 110, 101]⟩ : ByteArray), ⟨#[54, 52]⟩, ⟨#[49, 53]⟩, ⟨#[57]⟩, ⟨#[111, 107, 59]⟩] := by
    show [(⟨(wordK 4).toArray⟩ : ByteArray), ⟨(Lib.itoa ((64 : Nat) : Int)).toArray⟩, ⟨(Lib.itoa ((15 : Nat) : Int)).toArray⟩, ⟨(Lib.itoa ((9 : Nat) : Int)).toArray⟩, ⟨#[111, 107, 59]⟩] = _
    rw [h1, h2, h3, show wordK 4 = [100, 111, 110, 101] by decide]
    rfl
  rw [hs]
  rfl
theorem kn1 : (getE [4, 64, 15, 9, 3, 111, 107, 59, 0]).2 = 2 := by decide +kernel
theorem kn2 : (getE []).2 = 2 := by decide +kernel
theorem kn3 : (getE [8, 129, 0]).2 = 2 := by decide +kernel
theorem kn4 : (getE [8, 65]).2 = 2 := by decide +kernel
end Go.Proofs.YteaepgbakcifkaaDoor
