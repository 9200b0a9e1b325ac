/- msg.Get, part two: what its reads tell of a good message's bytes, and what stays. -/
import Derived.Test.YtnnjflljlooifaaMsIn
import Derived.Test.YtnnjflljlooifaaMsGet1
import Derived.Test.YtnnjflljlooifaaMsPut
import Derived.Test.YtnnjflljlooifaaMsEq
set_option linter.unusedVariables false
set_option linter.unusedSimpArgs false
namespace Go.Proofs.Ytnnjflljlooifaa
open Go.RowKit
theorem inb_place (bl p : Nat) (hbl : bl ≠ p) (s : St) (w : World) (hI : InB bl w 74 p s.1 s.2) :
    Calls Try.prog 33 #[.pointer (some ⟨p, 0, none⟩)] w fun e w' => e = .returned (.int .i64 (plc (stU s).1)) ∧ InB bl w' 74 p (stU s).2.1 (stU s).2.2 ∧ Only [p] w w' := by
  have HI := Lib.hid (inb_U_any bl p hbl s w hI)
  clear hI
  generalize stU s = st at *
  obtain ⟨v, zs, b⟩ := st
  dsimp only at HI ⊢
  go_enter Try.func33, Try.ntmps33
  go_wp2_with fail
  refine HI.out.mono ?_
  rintro e V ⟨rfl, hA, hO, h0, h1⟩
  have HA := Lib.hid hA
  clear hA
  by_cases hv : v ≤ 17592186044417
  · have hw : IntKind.i64.wrap v = v := by rw [IntKind.wrap_i64]; omega
    have hr : plc v = v := if_pos hv
    go_wp2_with fail
    exact bodyPost_ret (v := .int .i64 v) (by simp [results, Try.results33, go_sem]) rfl ⟨by rw [hr], HA.out, hO⟩
  · have hr : plc v = 17592186044417 := if_neg hv
    go_wp2_with fail
    exact bodyPost_ret (v := .int .i64 17592186044417) (by simp [results, Try.results33, go_sem]) rfl ⟨by rw [hr], HA.out, hO⟩
theorem stSmall_enc (v m : Int) (l : List Int) (h0 : 0 ≤ v) (h1 : v ≤ m) (h2 : v ≤ 2147483647) : stSmall m (encU v ++ l, false) = (v, l, false) := by
  have h := stU_enc v l h0 (by omega)
  unfold stSmall
  rw [h]
  simp only [Bool.false_eq_true, false_or]
  rw [if_neg (by omega)]
theorem getSmall {bl p : Nat} (hbl : bl ≠ p) {v m : Int} {l : List Int} {w : World} (h0 : 0 ≤ v) (h1 : v ≤ m) (h2 : v ≤ 2147483647) (h3 : m ≤ 1000) (hI : InB bl w 74 p (encU v ++ l) false) :
    Calls Try.prog 32 #[.pointer (some ⟨p, 0, none⟩), .int .u64 m] w fun e w' => e = .returned (.int .i64 v) ∧ InB bl w' 74 p l false ∧ Only [p] w w' := by
  have h := inb_Small bl p hbl (encU v ++ l, false) m w (by omega) (by omega) hI
  rwa [stSmall_enc v m l h0 h1 h2] at h
theorem getU {bl p : Nat} (hbl : bl ≠ p) {v : Int} {l : List Int} {w : World} (h0 : 0 ≤ v) (h1 : v ≤ 18446744073709551615) (hI : InB bl w 74 p (encU v ++ l) false) :
    Calls Try.prog 34 #[.pointer (some ⟨p, 0, none⟩)] w fun e w' => e = .returned (.int .u64 v) ∧ InB bl w' 74 p l false ∧ Only [p] w w' := by
  have h := inb_U_any bl p hbl (encU v ++ l, false) w hI
  rw [stU_enc v l h0 h1] at h
  exact h.mono fun e w' ⟨h1, h2, h3, _⟩ => ⟨h1, h2, h3⟩
theorem getP {bl p : Nat} (hbl : bl ≠ p) {v : Int} {l : List Int} {w : World} (h0 : 0 ≤ v) (h1 : v ≤ 17592186044417) (hI : InB bl w 74 p (encU v ++ l) false) :
    Calls Try.prog 33 #[.pointer (some ⟨p, 0, none⟩)] w fun e w' => e = .returned (.int .i64 v) ∧ InB bl w' 74 p l false ∧ Only [p] w w' := by
  have h := inb_place bl p hbl (encU v ++ l, false) w hI
  rw [stU_enc v l h0 (by omega)] at h
  rwa [show plc v = v from if_pos h1] at h
theorem getS {bl p : Nat} (hbl : bl ≠ p) {s l : List Int} {w : World} (h1 : s.length ≤ 1024) (hI : InB bl w 74 p (encS s ++ l) false) :
    Calls Try.prog 35 #[.pointer (some ⟨p, 0, none⟩), .int .i64 1024] w fun e w' => e = .returned (.string (strOf s)) ∧ InB bl w' 74 p l false ∧ Only [p] w w' := by
  have h := inb_S bl p hbl (encS s ++ l, false) 1024 w (by omega) (by omega) hI
  rwa [stS_enc s l 1024 (by omega) (by omega)] at h
theorem Only.inB {S : List Nat} {w w' : World} {bl p : Nat} {t : TypeId} {zs : List Int} {bad : Bool} (h : Only S w w') (hI : InB bl w t p zs bad) (hp : p ∉ S) (hb : bl ∉ S) : InB bl w' t p zs bad := by
  obtain ⟨a, n, c, hh, hS, hi, hB⟩ := hI
  exact ⟨a, n, c, h.heap hh hp, h.sl hS (fun x hx => by rw [hi x hx]; exact hb), hi, hB⟩
/-- the state of a reading -/
structure GS (w Z : World) (bl q4 q5 : Nat) (cs : Array Value) (l : List Int) : Prop where
  inb : InB bl Z 74 q4 l false
  box : Z.heap[q5]? = some (.cells cs 33 (0, 0))
  res : Z.heap[w.heap.size]? = some (.cells #[.int .i64 0, .int .i64 0, .int .i64 0, .int .i64 0, .int .i64 0, .int .i64 0, .slice none 0 0, .slice none 0 0, .int .i64 0] 33 (0, 0))
  kept : Kept w Z
theorem GS.read {w Z Z' : World} {bl q4 q5 : Nat} {cs : Array Value} {l l' : List Int} (h : GS w Z bl q4 q5 cs l) (hI : InB bl Z' 74 q4 l' false) (ho : Only [q4] Z Z') (h1 : w.heap.size < q4) (h2 : q4 < q5) : GS w Z' bl q4 q5 cs l' :=
  ⟨hI, ho.heap h.box (by simp; omega), ho.heap h.res (by simp; omega), h.kept.onl ho (by intro i hi; simp at hi; omega)⟩
theorem GS.only {w Z Z' : World} {bl q4 q5 : Nat} {cs : Array Value} {l : List Int} {S : List Nat} (h : GS w Z bl q4 q5 cs l) (ho : Only S Z Z') (h1 : w.heap.size < q4) (h2 : q4 < q5) (hb : bl < q4) (hS : ∀ i ∈ S, q5 < i) : GS w Z' bl q4 q5 cs l :=
  ⟨ho.inB h.inb (fun hm => by have := hS _ hm; omega) (fun hm => by have := hS _ hm; omega), ho.heap h.box (fun hm => by have := hS _ hm; omega), ho.heap h.res (fun hm => by have := hS _ hm; omega), h.kept.onl ho (fun i hi => by have := hS _ hi; omega)⟩
theorem GS.set {w Z : World} {bl q4 q5 : Nat} {cs : Array Value} {l : List Int} (h : GS w Z bl q4 q5 cs l) (j : Nat) (u : Value) (h1 : w.heap.size < q4) (h2 : q4 < q5) (hb : bl < q4) : GS w (Z.setCell ⟨q5, j, none⟩ u) bl q4 q5 (cs.setIfInBounds j u) l := by
  have ho : Only [q5] Z (Z.setCell ⟨q5, j, none⟩ u) := (Only.refl [q5] Z).setCell (fun _ => by simp) u
  exact ⟨ho.inB h.inb (by simp; omega) (by simp; omega), at_set h.box j u, ho.heap h.res (by simp; omega), h.kept.onl ho (by intro i hi; simp at hi; omega)⟩
/-- bytes made of a text -/
theorem sl_bytesRow (V : World) (s : ByteArray) (c : Nat) (m : Nat × Nat) (h1 : s.size ≤ c) (h2 : c ≤ maxLen) : Sl .u8 (V.alloc (.cells (bytesRow s c) 5 m)) (some ⟨V.heap.size, 0, none⟩) s.size c (ofStr s) := by
  refine ⟨ofStr_len s, h1, h2, fun i hi => ⟨V.heap.size, 0, rfl, by simp, ?_⟩⟩
  rw [Nat.zero_add, cell_of_row _ _ _ _ _ _ (heap_alloc_new V _), bytesRow_at s c i hi]
  unfold ofStr
  have hi' : i < s.data.toList.length := by simpa using hi
  rw [List.getD_eq_getElem?_getD, List.getElem?_map, List.getElem?_eq_getElem hi']
  simp
/-- the records that were read -/
structure RowsW (Z : World) (q5 : Nat) (a : Option Addr) (j c : Nat) (g : Option Nat) (R : List RV) (L : List (Int × List Int)) : Prop where
  app : App Z 58 2 (.slice a j c) j g (rvs R)
  ok : ∀ r ∈ R, rvOk r
  fresh : ∀ k, g = some k → q5 < k
  bytes : BytesAt Z R L
  blk : ∀ r ∈ R, ∃ b, r.a = some ⟨b, 0, none⟩ ∧ q5 < b ∧ g ≠ some b ∧ b < Z.heap.size
theorem rowsW_nil (Z : World) (q5 : Nat) : RowsW Z q5 none 0 0 none [] [] := ⟨app_nil _ _ _, by simp, by simp, ⟨rfl, fun i r l h => by cases h⟩, by simp⟩
theorem BytesAt.only {Z Z' : World} {R : List RV} {L : List (Int × List Int)} {S : List Nat} (h : BytesAt Z R L) (ho : Only S Z Z') (hS : ∀ r ∈ R, inB r.a S) : BytesAt Z' R L :=
  ⟨h.1, fun i r l h1 h2 => ⟨(h.2 i r l h1 h2).1, ho.sl (h.2 i r l h1 h2).2 (hS r (List.mem_of_getElem? h1))⟩⟩
theorem RowsW.only {Z Z' : World} {q5 : Nat} {a : Option Addr} {j c : Nat} {g : Option Nat} {R : List RV} {L : List (Int × List Int)} {S : List Nat} (h : RowsW Z q5 a j c g R L) (ho : Only S Z Z') (hS : ∀ i ∈ S, i ≤ q5) : RowsW Z' q5 a j c g R L :=
  ⟨ho.app h.app (fun k hk hm => by have := hS _ hm; have := h.fresh k hk; omega), h.ok, h.fresh, h.bytes.only ho (fun r hr x hx hm => by
    obtain ⟨b, e, h1, _⟩ := h.blk r hr
    rw [e] at hx
    injection hx with hx
    subst hx
    have := hS _ hm
    dsimp only at this
    omega), fun r hr => by
    obtain ⟨b, e, h1, h2, h3⟩ := h.blk r hr
    exact ⟨b, e, h1, h2, Nat.lt_of_lt_of_le h3 ho.size⟩⟩
/-- one record more: V is the world ahead of the conversion; then the bytes, the row of one, the append -/
theorem RowsW.more {V W w5 : World} {q5 : Nat} {a : Option Addr} {j c : Nat} {g : Option Nat} {R : List RV} {L : List (Int × List Int)} {x : Int} {zs : List Int} {cap : Nat} {m : Nat × Nat} {a5 : Option Addr} {c5 : Nat} {g5 : Option Nat} {o : Obj}
    (h : RowsW V q5 a j c g R L) (hq : q5 < V.heap.size) (hz : IsB zs) (hn : zs.length ≤ cap) (hc : cap ≤ maxLen) (hx0 : 0 ≤ x) (hx1 : x ≤ 18446744073709551615) (hW : W = (V.alloc (.cells (bytesRow (strOf zs) cap) 5 m)).alloc o)
    (hA : App w5 58 2 (.slice a5 (j + 1) c5) (j + 1) g5 (rvs R ++ [.int .u64 x, .slice (some ⟨V.heap.size, 0, none⟩) zs.length cap])) (hO : Only g.toList W w5) (hG : g5 = g ∨ g5 = some W.heap.size) :
    RowsW w5 q5 a5 (j + 1) c5 g5 (R ++ [⟨x, some ⟨V.heap.size, 0, none⟩, zs.length, cap⟩]) (L ++ [(x, zs)]) := by
  have hgl := h.app.lt
  have hsW : W.heap.size = V.heap.size + 2 := by subst hW; simp
  have hsl : Sl .u8 W (some ⟨V.heap.size, 0, none⟩) zs.length cap zs := by
    have h1 := sl_bytesRow V (strOf zs) cap m (by rw [strOf_size]; exact hn) hc
    rw [ofStr_strOf hz, strOf_size] at h1
    subst hW
    exact (kept_al _ _).sl h1
  have hVW : Only [] V W := by subst hW; exact ((Only.refl [] V).alloc _).alloc _
  refine ⟨?_, ?_, ?_, ?_, ?_⟩
  · rw [rvs_append]; exact hA
  · intro r hr
    rcases List.mem_append.1 hr with hr | hr
    · exact h.ok r hr
    · rw [List.mem_singleton] at hr
      subst hr
      exact ⟨hx0, hx1, Nat.le_trans hn hc⟩
  · rcases hG with rfl | rfl
    · exact h.fresh
    · intro k hk
      injection hk with hk
      omega
  · have hb := (h.bytes.only hVW (by intro r _ y _; simp)).only hO (by
      intro r hr y hy hm
      obtain ⟨b, e, h1, h2, h3⟩ := h.blk r hr
      rw [e] at hy
      injection hy with hy
      subst hy
      exact h2 (by simpa using hm))
    refine ⟨by rw [List.length_append, List.length_append, hb.1]; rfl, fun i r l h1 h2 => ?_⟩
    rcases Nat.lt_or_ge i R.length with hi | hi
    · rw [List.getElem?_append_left hi] at h1
      rw [List.getElem?_append_left (by rw [← hb.1]; exact hi)] at h2
      exact hb.2 i r l h1 h2
    · rw [List.getElem?_append_right hi] at h1
      rw [List.getElem?_append_right (by rw [← hb.1]; exact hi), ← hb.1] at h2
      have h3 := List.mem_of_getElem? h1
      have h4 := List.mem_of_getElem? h2
      rw [List.mem_singleton] at h3 h4
      subst h3 h4
      refine ⟨rfl, hO.sl hsl (fun y hy hm => ?_)⟩
      injection hy with hy
      subst hy
      have := hgl V.heap.size (by simpa using hm)
      omega
  · intro r hr
    rcases List.mem_append.1 hr with hr | hr
    · obtain ⟨b, e, h1, h2, h3⟩ := h.blk r hr
      refine ⟨b, e, h1, ?_, Nat.lt_of_lt_of_le h3 (Nat.le_trans hVW.size hO.size)⟩
      rcases hG with rfl | rfl
      · exact h2
      · intro e2
        injection e2 with e2
        omega
    · rw [List.mem_singleton] at hr
      subst hr
      refine ⟨V.heap.size, rfl, hq, ?_, by have := hO.size; omega⟩
      rcases hG with rfl | rfl
      · intro e2
        have := hgl _ e2
        omega
      · intro e2
        injection e2 with e2
        omega
theorem RowsW.slQ {Z : World} {q5 : Nat} {a : Option Addr} {j c : Nat} {g : Option Nat} {R : List RV} {L : List (Int × List Int)} (h : RowsW Z q5 a j c g R L) : SlQ Z a j c R := app_slQ h.app h.ok
theorem getE {bl p : Nat} (hbl : bl ≠ p) {w : World} (hI : InB bl w 74 p [] false) :
    Calls Try.prog 36 #[.pointer (some ⟨p, 0, none⟩)] w fun e w' => e = .returned (.bool true) ∧ w = w' := inb_End bl p hbl ([], false) w hI
/-- a block that the records that were read don't touch -/
def Awy (g : Option Nat) (R : List RV) (k : Nat) : Prop := g ≠ some k ∧ ∀ r ∈ R, ∀ x, r.a = some x → x.block ≠ k
theorem RowsW.awy {Z : World} {q5 : Nat} {a : Option Addr} {j c : Nat} {g : Option Nat} {R : List RV} {L : List (Int × List Int)} (h : RowsW Z q5 a j c g R L) {k : Nat} (hk : Z.heap.size ≤ k ∨ k ≤ q5) : Awy g R k := by
  refine ⟨fun e => ?_, fun r hr x hx e => ?_⟩
  · have h1 := h.app.lt k e
    have h2 := h.fresh k e
    omega
  · obtain ⟨b, e1, h1, h2, h3⟩ := h.blk r hr
    rw [e1] at hx
    injection hx with hx
    subst hx
    dsimp only at e
    omega
theorem RowsW.far {Z Z' : World} {q5 : Nat} {a : Option Addr} {j c : Nat} {g : Option Nat} {R : List RV} {L : List (Int × List Int)} {S : List Nat} (h : RowsW Z q5 a j c g R L) (ho : Only S Z Z') (hS : ∀ i ∈ S, Awy g R i) : RowsW Z' q5 a j c g R L :=
  ⟨ho.app h.app (fun k hk hm => (hS k hm).1 hk), h.ok, h.fresh, h.bytes.only ho (fun r hr x hx hm => (hS _ hm).2 r hr x hx rfl), fun r hr => by
    obtain ⟨b, e, h1, h2, h3⟩ := h.blk r hr
    exact ⟨b, e, h1, h2, Nat.lt_of_lt_of_le h3 ho.size⟩⟩
/-- the stamps that were read -/
structure TW (Z : World) (q5 : Nat) (a : Option Addr) (j c : Nat) (g g0 : Option Nat) (R : List RV) (T : List Int) : Prop where
  app : App Z 56 1 (.slice a j c) j g (T.map (Value.int .u64))
  fresh : ∀ k, g = some k → q5 < k ∧ Awy g0 R k
theorem tw_nil (Z : World) (q5 : Nat) (g0 : Option Nat) (R : List RV) : TW Z q5 none 0 0 none g0 R [] := ⟨app_nil _ _ _, by simp⟩
theorem TW.only {Z Z' : World} {q5 : Nat} {a : Option Addr} {j c : Nat} {g g0 : Option Nat} {R : List RV} {T : List Int} {S : List Nat} (h : TW Z q5 a j c g g0 R T) (ho : Only S Z Z') (hS : ∀ i ∈ S, i ≤ q5) : TW Z' q5 a j c g g0 R T :=
  ⟨ho.app h.app (fun k hk hm => by have := hS _ hm; have := (h.fresh k hk).1; omega), h.fresh⟩
theorem TW.sl {Z : World} {q5 : Nat} {a : Option Addr} {j c : Nat} {g g0 : Option Nat} {R : List RV} {T : List Int} (h : TW Z q5 a j c g g0 R T) : Sl .u64 Z a j c T := (app_slk h.app).1
end Go.Proofs.Ytnnjflljlooifaa
