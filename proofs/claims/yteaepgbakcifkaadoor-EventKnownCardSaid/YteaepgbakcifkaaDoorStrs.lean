/- Bytes and strings (without the texts on bits). -/
import Derived.Test.YteaepgbakcifkaaDoorMem
import Derived.Test.YteaepgbakcifkaaDoorPlain
set_option linter.unusedVariables false
set_option linter.unusedSimpArgs false
namespace Go.Proofs.YteaepgbakcifkaaDoor
open Go.RowKit
/-- the string of these bytes; the bytes of a string -/
def strOf (zs : List Int) : ByteArray := zs.foldl (fun r n => r.push (UInt8.ofNat n.toNat)) ByteArray.empty
def ofStr (s : ByteArray) : List Int := s.data.toList.map fun b => (b.toNat : Int)
theorem strOf_aux (zs : List Int) : ∀ r : ByteArray, (zs.foldl (fun r n => r.push (UInt8.ofNat n.toNat)) r).data.toList = r.data.toList ++ zs.map fun n => UInt8.ofNat n.toNat := by
  induction zs with
  | nil => intro r; simp
  | cons z zs ih => intro r; rw [List.foldl_cons, ih]; simp [ByteArray.push]
theorem strOf_data (zs : List Int) : (strOf zs).data.toList = zs.map fun n => UInt8.ofNat n.toNat := by
  unfold strOf; rw [strOf_aux]; rfl
theorem strOf_size (zs : List Int) : (strOf zs).size = zs.length := by
  have := congrArg List.length (strOf_data zs)
  simpa using this
theorem strOf_ofStr (s : ByteArray) : strOf (ofStr s) = s := by
  apply ByteArray.ext
  apply Array.ext'
  rw [strOf_data]
  unfold ofStr
  rw [List.map_map]
  have : ∀ b ∈ s.data.toList, ((fun n : Int => UInt8.ofNat n.toNat) ∘ fun b : UInt8 => (b.toNat : Int)) b = id b := by
    intro b _
    simp only [Function.comp, id, Int.toNat_natCast]
    exact UInt8.ofNat_toNat
  rw [List.map_congr_left this]; simp
theorem ofStr_strOf {zs : List Int} (h : IsB zs) : ofStr (strOf zs) = zs := by
  unfold ofStr
  rw [strOf_data, List.map_map]
  have : ∀ x ∈ zs, ((fun b : UInt8 => (b.toNat : Int)) ∘ fun n : Int => UInt8.ofNat n.toNat) x = id x := by
    intro x hx
    have := isB_mem h x hx
    simp only [Function.comp, id]
    rw [UInt8.toNat_ofNat']
    omega
  rw [List.map_congr_left this]; simp
theorem strOf_inj {xs ys : List Int} (h : IsB xs) (k : IsB ys) (e : strOf xs = strOf ys) : xs = ys := by rw [← ofStr_strOf h, ← ofStr_strOf k, e]
theorem ofStr_len (s : ByteArray) : (ofStr s).length = s.size := by unfold ofStr; simp
theorem ofStr_isB (s : ByteArray) : IsB (ofStr s) := isB_of_mem (by
  intro x hx
  unfold ofStr at hx
  obtain ⟨b, _, rfl⟩ := List.mem_map.1 hx
  have := b.toNat_lt
  omega)
theorem byteCells_eq (s : ByteArray) : byteCells s = (ofStr s).map (Value.int .u8) := by unfold byteCells ofStr; simp
theorem run_str {P : Program} {w : World} {a : Option Addr} {n c : Nat} {zs : List Int} (src dst e : TypeId) (hs : P.underlying src = some (.slice e)) (he : P.underlying e = some (.int .u8)) (hd : P.underlying dst = some .string)
    (h : Sl .u8 w a n c zs) : (convert src dst (.slice a n c)).run P w = .ok (.string (strOf zs)) w := by
  rw [run_convert_bytes_string w src dst e a n c hs he hd]
  obtain ⟨hl, hnc, hm, hc⟩ := h
  cases a with
  | none =>
    have hn : n = 0 := by
      rcases Nat.eq_zero_or_pos n with h' | h'
      · exact h'
      · obtain ⟨b, o, h1, _⟩ := hc 0 h'; cases h1
    have hz : zs = [] := List.eq_nil_of_length_eq_zero (by omega)
    subst hz
    simp [Conv.bytesToString, strOf]
  | some x =>
    have := run_firstCells_some (P := P) w 1 n x n c (zs.map (Value.int .u8)) (by simp [hl]) (by
      intro j u hu
      rw [List.getElem?_map] at hu
      have hj : j < n := by
        rcases Nat.lt_or_ge j zs.length with h' | h'
        · omega
        · rw [List.getElem?_eq_none h'] at hu; cases hu
      obtain ⟨b, o, hx, _, hcell⟩ := hc j hj
      injection hx with hx
      subst hx
      rw [show (⟨b, o, none⟩ : Addr).add j = ⟨b, o + j, none⟩ from by unfold Addr.add; split <;> simp_all, hcell]
      rw [List.getElem?_eq_getElem (by omega)] at hu
      simp [List.getD_eq_getElem?_getD, (by omega : j < zs.length)] at hu ⊢
      exact hu)
    simp only [Builtin.firstCells, Nat.mul_one] at this
    exact run_bytesToString w x n c zs this
theorem run_strN {P : Program} {w : World} {a : Option Addr} {n c : Nat} {zs : List Int} (src dst e : TypeId) (hs : P.underlying src = some (.slice e)) (he : P.underlying e = some (.int .u8)) (hd : P.underlying dst = some .string)
    (h : Sl .u8 w a n c zs) (m : Nat) : (convert src dst (.slice a n c)).run P (w.drewN m) = .ok (.string (strOf zs)) (w.drewN m) :=
  run_str src dst e hs he hd (((Dr.refl w).drewN m).sl h)
theorem toList_loop (s : ByteArray) : ∀ (k i : Nat) (r : List UInt8), s.size - i = k → i ≤ s.size → ByteArray.toList.loop s i r = r.reverse ++ s.data.toList.drop i
  | 0, i, r, hk, hi => by
    rw [ByteArray.toList.loop.eq_1, if_neg (by omega), List.drop_eq_nil_of_le (by simp; omega), List.append_nil]
  | k + 1, i, r, hk, hi => by
    have hlt : i < s.data.toList.length := by simp; omega
    rw [ByteArray.toList.loop.eq_1, if_pos (by omega), toList_loop s k (i + 1) _ (by omega) (by omega), List.drop_eq_getElem_cons hlt]
    simp only [List.reverse_cons, List.append_assoc, List.singleton_append]
    congr 2
    have h' : i < s.size := by omega
    simp [ByteArray.get!, Array.getElem!_eq_getD, Array.getD, h']
theorem toList_data (s : ByteArray) : s.toList = s.data.toList := by
  unfold ByteArray.toList; rw [toList_loop s _ 0 [] rfl (Nat.zero_le _)]; simp
theorem toList_strOf {zs : List Int} : (strOf zs).toList = zs.map fun n => UInt8.ofNat n.toNat := by rw [toList_data, strOf_data]
theorem str_ne {s t : ByteArray} (h : s ≠ t) : (s.toList == t.toList) = false := by
  rw [beq_eq_false_iff_ne, toList_data, toList_data]
  intro e
  exact h (ByteArray.ext (Array.ext' e))
theorem str_eq (s : ByteArray) : (s.toList == s.toList) = true := by simp
end Go.Proofs.YteaepgbakcifkaaDoor
