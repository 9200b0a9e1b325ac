/- What an argument of a law reads as, by its shape: integers, bools, strings, slices, structs. -/
import Derived.Test.YteaepgbakcifkaaDoorBase
import Derived.Deep.Slices
import Derived.ChangeOld
import Derived.ProofKit
import Derived.OpenShut
set_option linter.unusedVariables false
set_option linter.unusedSimpArgs false
namespace Go.Proofs.YteaepgbakcifkaaDoor
open Go.RowKit Go.Deep Go.WideShapes
theorem addr_add (b o i : Nat) : (⟨b, o, none⟩ : Addr).add i = ⟨b, o + i, none⟩ := by unfold Addr.add; split <;> simp_all
/-- shapes; a struct's fields are pairs that end in a unit -/
inductive Ty where
  | int (k : IntKind)
  | bool
  | str
  | sl (e : Ty)
  | st (fs : Ty)
  | ar2 (e : Ty)
  | nil
  | cons (f r : Ty)
/-- what a shape reads as -/
def Ty.den : Ty → Type
  | .int _ => Int
  | .bool => Bool
  | .str => ByteArray
  | .sl e => List e.den
  | .st fs => fs.den
  | .ar2 e => e.den × e.den
  | .nil => Unit
  | .cons f r => f.den × r.den
/-- how many cells it takes -/
def Ty.size : Ty → Nat
  | .st fs => fs.size
  | .ar2 e => e.size + e.size
  | .nil => 0
  | .cons f r => f.size + r.size
  | _ => 1
/-- the element at a place -/
def nth {α : Type} (l : List α) (i : Nat) : Option α := l[i]?
/-- these cells read as x -/
def Rep (w : World) : (t : Ty) → List Value → t.den → Prop
  | .int k, cs, n => cs = [.int k n] ∧ (Lit.int k n).wf = true
  | .bool, cs, b => cs = [.bool b]
  | .str, cs, s => cs = [.string s] ∧ s.size ≤ maxLen
  | .sl e, cs, l => ∃ (a : Option Addr) (n c : Nat), cs = [.slice a n c] ∧ List.length (α := e.den) l = n ∧ n ≤ c ∧ c ≤ maxLen ∧
      ∀ (i : Nat) (x : e.den), nth (α := e.den) l i = some x → ∃ b o cs', a = some ⟨b, o, none⟩ ∧ b < w.heap.size ∧ cs'.length = e.size ∧ (∀ j v, cs'[j]? = some v → w.cell? ⟨b, o + i * e.size + j, none⟩ = some v) ∧ Rep w e cs' x
  | .st fs, cs, x => Rep w fs cs x
  | .ar2 e, cs, x => ∃ c1 c2, cs = c1 ++ c2 ∧ c1.length = e.size ∧ c2.length = e.size ∧ Rep w e c1 x.1 ∧ Rep w e c2 x.2
  | .nil, cs, _ => cs = []
  | .cons f r, cs, x => ∃ c1 c2, cs = c1 ++ c2 ∧ c1.length = f.size ∧ Rep w f c1 x.1 ∧ Rep w r c2 x.2
/-- the program's type (or the fields from an offset on) has the shape -/
def Fits (P : Program) : Ty → (TypeId ⊕ (List Field × Nat)) → Prop
  | .int k, .inl t => P.underlying t = some (.int k)
  | .bool, .inl t => P.underlying t = some .bool
  | .str, .inl t => P.underlying t = some .string
  | .sl e, .inl t => ∃ te, P.underlying t = some (.slice te) ∧ P.cellsOf te = e.size ∧ 0 < e.size ∧ Fits P e (.inl te)
  | .st fs, .inl t => ∃ F, P.underlying t = some (.struct F) ∧ P.cellsOf t = fs.size ∧ Fits P fs (.inr (F.toList, 0))
  | .ar2 e, .inl t => ∃ te, P.underlying t = some (.array 2 te) ∧ P.cellsOf t = e.size + e.size ∧ P.cellsOf te = e.size ∧ Fits P e (.inl te)
  | .nil, .inr (F, _) => F = []
  | .cons f r, .inr (F, off) => ∃ g G, F = g :: G ∧ g.offset = off ∧ P.cellsOf g.type = f.size ∧ Fits P f (.inl g.type) ∧ Fits P r (.inr (G, off + f.size))
  | _, _ => False
theorem rep_len {w : World} : ∀ (t : Ty) {cs : List Value} {x : t.den}, Rep w t cs x → cs.length = t.size
  | .int k, cs, x, h => by rw [h.1]; rfl
  | .bool, cs, x, h => by rw [show cs = _ from h]; rfl
  | .str, cs, x, h => by rw [h.1]; rfl
  | .sl e, cs, x, h => by obtain ⟨a, n, c, rfl, _⟩ := h; rfl
  | .st fs, cs, x, h => rep_len fs (x := x) h
  | .ar2 e, cs, x, h => by obtain ⟨c1, c2, rfl, h1, h2, _⟩ := h; rw [List.length_append, h1, h2]; rfl
  | .nil, cs, x, h => by rw [show cs = _ from h]; rfl
  | .cons f r, cs, x, h => by
    obtain ⟨c1, c2, rfl, h1, _, h3⟩ := h
    rw [List.length_append, h1, rep_len r h3]; rfl
theorem rep_below {w w' : World} (hb : Below w.heap.size w w') : ∀ (t : Ty) {cs : List Value} {x : t.den}, Rep w t cs x → Rep w' t cs x
  | .int k, cs, x, h => h
  | .bool, cs, x, h => h
  | .str, cs, x, h => h
  | .sl e, cs, x, h => by
    obtain ⟨a, n, c, h1, h2, h3, h4, h5⟩ := h
    refine ⟨a, n, c, h1, h2, h3, h4, fun i y hy => ?_⟩
    obtain ⟨b, o, cs', ha, hlt, hl, hc, hr⟩ := h5 i y hy
    exact ⟨b, o, cs', ha, Nat.lt_of_lt_of_le hlt hb.size, hl, fun j v hv => (hb.cell (p := ⟨b, _, none⟩) hlt).trans (hc j v hv), rep_below hb e hr⟩
  | .st fs, cs, x, h => rep_below hb fs (x := x) h
  | .ar2 e, cs, x, h => by
    obtain ⟨c1, c2, h0, h1, h2, h3, h4⟩ := h
    exact ⟨c1, c2, h0, h1, h2, rep_below hb e h3, rep_below hb e h4⟩
  | .nil, cs, x, h => h
  | .cons f r, cs, x, h => by
    obtain ⟨c1, c2, h0, h1, h2, h3⟩ := h
    exact ⟨c1, c2, h0, h1, rep_below hb f h2, rep_below hb r h3⟩
section
variable {H : Type} {enc : TypeId × Value → H} {P : Program} {w : World}
/-- what is left of a struct's cells, field by field -/
def FieldsRead (enc : TypeId × Value → H) (P : Program) (w : World) (n : Nat) (F : List Field) (cs : List Value) : Prop :=
  ∀ f ∈ F, ∃ y, DataW.trod enc P w 0 (fun _ => true) true n f.type ((cs.drop f.offset).take (P.cellsOf f.type)) = some y
theorem rep_of_trod : ∀ (ty : Ty),
    (∀ (t : TypeId) (fuel : Nat) (cs : List Value) (y : DataW H × List MemPlace), Fits P ty (.inl t) → DataW.trod enc P w 0 (fun _ => true) true fuel t cs = some y → ∃ x : ty.den, Rep w ty cs x) ∧
    (∀ (F : List Field) (off n : Nat) (cs : List Value), Fits P ty (.inr (F, off)) → FieldsRead enc P w n F cs → cs.length = off + ty.size → ∃ x : ty.den, Rep w ty (cs.drop off) x) := by
  intro ty
  induction ty with
  | int k =>
    refine ⟨fun t fuel cs y hf h => ?_, fun F off n cs hf _ _ => hf.elim⟩
    obtain ⟨n, hc, _, hw⟩ := DataW.trod_int (show P.underlying t = some (.int k) from hf) h
    exact ⟨n, hc, hw⟩
  | bool =>
    refine ⟨fun t fuel cs y hf h => ?_, fun F off n cs hf _ _ => hf.elim⟩
    obtain ⟨b, hc, _⟩ := DataW.trod_bool (show P.underlying t = some .bool from hf) h
    exact ⟨b, hc⟩
  | str =>
    refine ⟨fun t fuel cs y hf h => ?_, fun F off n cs hf _ _ => hf.elim⟩
    obtain ⟨s, hc, _, hs⟩ := DataW.trod_string (show P.underlying t = some .string from hf) h
    exact ⟨s, hc, hs⟩
  | sl e ih =>
    refine ⟨fun t fuel cs y hf h => ?_, fun F off n cs hf _ _ => hf.elim⟩
    obtain ⟨te, ht, hsz, hpos, hfe⟩ := hf
    rcases open_slice ht h with ⟨hc, _⟩ | ⟨a, len, cap, m, n, D, Pl, hc, _, hlc, hcm, hm, _, hel⟩
    · exact ⟨[], none, 0, 0, hc, rfl, Nat.le_refl _, Nat.zero_le _, fun i x hx => by simp [nth] at hx⟩
    · have hml : m = cap := by simpa using hm
      subst hml
      have hall : ∀ i, i < len → ∃ x : e.den, ∃ b o cs', a = ⟨b, o, none⟩ ∧ b < w.heap.size ∧ cs'.length = e.size ∧ (∀ j v, cs'[j]? = some v → w.cell? ⟨b, o + i * e.size + j, none⟩ = some v) ∧ Rep w e cs' x := by
        intro i hi
        obtain ⟨cs', hcs, htr⟩ := hel i (by omega)
        obtain ⟨x, hx⟩ := ih.1 te n cs' _ hfe htr
        rw [hsz] at hcs
        obtain ⟨_, hlen, hcells⟩ := World.cells?_some hcs
        obtain ⟨b, o, sp⟩ := a
        have hadd : ∀ s : Option Nat, ∀ q : Nat, ((⟨b, o, s⟩ : Addr).add (i * e.size)).add q = (⟨b, o, s⟩ : Addr).add (i * e.size + q) := by
          intro s q; exact add_add _ _ _
        have h0 := hcells 0 hpos
        rw [hadd, List.getElem?_eq_getElem (by omega)] at h0
        have hblk : b < w.heap.size := by
          have := World.block_lt_of_cell? w _ h0
          have hbb : ((⟨b, o, sp⟩ : Addr).add (i * e.size + 0)).block = b := by unfold Addr.add; split <;> rfl
          rwa [hbb] at this
        refine ⟨x, b, o, cs', ?_, hblk, hlen, fun j v hv => ?_, hx⟩
        · obtain ⟨cs0, hcs0, _⟩ := hel 0 (by omega)
          rw [hsz] at hcs0
          obtain ⟨_, hl0, hc0⟩ := World.cells?_some hcs0
          have h00 := hc0 0 hpos
          rw [add_add, List.getElem?_eq_getElem (by omega), Nat.zero_mul] at h00
          have : sp = none := World.cell?_spot h00
          rw [this]
        · have hj : j < e.size := by
            rcases Nat.lt_or_ge j cs'.length with h' | h'
            · omega
            · rw [List.getElem?_eq_none h'] at hv; cases hv
          have hcj := hcells j hj
          obtain ⟨cs0, hcs0, _⟩ := hel 0 (by omega)
          rw [hsz] at hcs0
          obtain ⟨_, hl0, hc0⟩ := World.cells?_some hcs0
          have h00 := hc0 0 hpos
          rw [add_add, List.getElem?_eq_getElem (by omega), Nat.zero_mul] at h00
          have hsp : sp = none := World.cell?_spot h00
          subst hsp
          rw [hadd, hv] at hcj
          rw [← hcj, Nat.add_assoc]
          exact congrArg w.cell? (addr_add b o _).symm
      obtain ⟨f, hf⟩ : ∃ f : Fin len → e.den, ∀ i : Fin len, ∃ b o cs', a = ⟨b, o, none⟩ ∧ b < w.heap.size ∧ cs'.length = e.size ∧ (∀ j v, cs'[j]? = some v → w.cell? ⟨b, o + i.1 * e.size + j, none⟩ = some v) ∧ Rep w e cs' (f i) :=
        ⟨fun i => Classical.choose (hall i.1 i.2), fun i => Classical.choose_spec (hall i.1 i.2)⟩
      refine ⟨List.ofFn f, some a, len, m, hc, by simp, hlc, hcm, fun i x hx => ?_⟩
      have hi : i < len := by
        rcases Nat.lt_or_ge i len with h' | h'
        · exact h'
        · simp [nth, List.getElem?_eq_none, h'] at hx
      simp [nth, hi] at hx
      obtain ⟨b, o, cs', h1, h2, h3, h4, h5⟩ := hf ⟨i, hi⟩
      exact ⟨b, o, cs', by rw [h1], h2, h3, h4, hx ▸ h5⟩
  | st fs ih =>
    refine ⟨fun t fuel cs y hf h => ?_, fun F off n cs hf _ _ => hf.elim⟩
    obtain ⟨F, ht, hsz, hff⟩ := hf
    obtain ⟨xs, n, _, _, hl, hxl, hfr⟩ := DataW.trod_struct ht h
    have := ih.2 F.toList 0 n cs hff (fun f hfm => by
      obtain ⟨i, hi, rfl⟩ := List.getElem_of_mem hfm
      have hi' : i < F.size := by simpa using hi
      have := hfr i F.toList[i] (by simp [hi'])
      rw [List.getElem?_eq_getElem (by omega)] at this
      exact ⟨_, this⟩) (by rw [hl, hsz]; omega)
    rw [List.drop_zero] at this
    exact this
  | ar2 e ih =>
    refine ⟨fun t fuel cs y hf h => ?_, fun F off n cs hf _ _ => hf.elim⟩
    obtain ⟨te, ht, hsz, hse, hfe⟩ := hf
    obtain ⟨xs, m, _, _, hl, hxl, hel⟩ := DataW.trod_array ht h
    have h0 := hel 0 (by omega)
    have h1 := hel 1 (by omega)
    rw [List.getElem?_eq_getElem (by omega)] at h0 h1
    rw [hse] at h0 h1
    rw [Nat.zero_mul, List.drop_zero] at h0
    rw [Nat.one_mul] at h1
    obtain ⟨x0, hx0⟩ := ih.1 te m _ _ hfe h0
    obtain ⟨x1, hx1⟩ := ih.1 te m _ _ hfe h1
    rw [hsz] at hl
    have hd : (cs.drop e.size).take e.size = cs.drop e.size := List.take_of_length_le (by rw [List.length_drop]; omega)
    rw [hd] at hx1
    exact ⟨(x0, x1), cs.take e.size, cs.drop e.size, (List.take_append_drop _ _).symm, by rw [List.length_take]; omega, by rw [List.length_drop]; omega, hx0, hx1⟩
  | nil =>
    refine ⟨fun t fuel cs y hf h => hf.elim, fun F off n cs hf _ hl => ⟨(), ?_⟩⟩
    show cs.drop off = []
    exact List.drop_eq_nil_of_le (by simp [Ty.size] at hl; omega)
  | cons f r ihf ihr =>
    refine ⟨fun t fuel cs y hf h => hf.elim, fun F off n cs hf hr hl => ?_⟩
    obtain ⟨g, G, rfl, hoff, hsz, hfg, hfr⟩ := hf
    obtain ⟨y, hy⟩ := hr g (List.mem_cons_self ..)
    rw [hoff, hsz] at hy
    obtain ⟨x1, h1⟩ := ihf.1 g.type n _ y hfg hy
    obtain ⟨x2, h2⟩ := ihr.2 G (off + f.size) n cs hfr (fun q hq => hr q (List.mem_cons_of_mem _ hq)) (by simp [Ty.size] at hl; omega)
    refine ⟨(x1, x2), (cs.drop off).take f.size, cs.drop (off + f.size), ?_, ?_, h1, h2⟩
    · rw [← List.drop_drop, List.take_append_drop]
    · simp [Ty.size] at hl; simp; omega
end
/-- this value reads as x -/
def RepV (w : World) (ty : Ty) (v : Value) (x : ty.den) : Prop := Rep w ty v.cells.toList x ∧ (match ty with | .st _ => ∃ cs, v = .agg cs | .ar2 _ => True | _ => ∃ u, v.cells = #[v] ∧ v = u)
theorem repV_of_trod {H : Type} {enc : TypeId × Value → H} {P : Program} {W : World} {ty : Ty} {t : TypeId} {r : Reach} {base : Nat} {v : Value} {d : DataW H} {p : List MemPlace} (hf : Fits P ty (.inl t)) (hok : Value.okWide P W r base t v)
    (h : DataW.Trod enc P W 0 (fun _ => true) true t v d p) : ∃ x, RepV W ty v x := by
  obtain ⟨fuel, hfu⟩ := h
  obtain ⟨x, hx⟩ := (rep_of_trod (P := P) (w := W) ty).1 t fuel _ _ hf hfu
  refine ⟨x, hx, ?_⟩
  cases ty with
  | int k => obtain ⟨n, rfl⟩ := okWide_int (show P.underlying t = some (.int k) from hf) hok; exact ⟨_, rfl, rfl⟩
  | bool => obtain ⟨n, rfl⟩ := okWide_bool (show P.underlying t = some .bool from hf) hok; exact ⟨_, rfl, rfl⟩
  | str => obtain ⟨n, rfl⟩ := okWide_string (show P.underlying t = some .string from hf) hok; exact ⟨_, rfl, rfl⟩
  | sl e => obtain ⟨te, ht, _⟩ := hf; obtain ⟨a, l, c, rfl⟩ := okWide_slice ht hok; exact ⟨_, rfl, rfl⟩
  | st fs => obtain ⟨F, ht, _⟩ := hf; obtain ⟨cs, rfl, _⟩ := okWide_struct ht hok; exact ⟨_, rfl⟩
  | ar2 e => trivial
  | nil => exact hf.elim
  | cons f r => exact hf.elim
/-- a value of one cell -/
theorem repV_one {w : World} {ty : Ty} {v : Value} {x : ty.den} (h : RepV w ty v x) (hs : (∀ fs, ty ≠ .st fs) ∧ ∀ e, ty ≠ .ar2 e) : Rep w ty [v] x := by
  obtain ⟨h1, h2⟩ := h
  have : v.cells = #[v] := by
    cases ty with
    | st fs => exact (hs.1 fs rfl).elim
    | ar2 e => exact (hs.2 e rfl).elim
    | _ => obtain ⟨_, h, _⟩ := h2; exact h
  rwa [this] at h1
theorem repV_int {w : World} {k : IntKind} {v : Value} {x : Int} (h : RepV w (.int k) v x) : v = .int k x ∧ (Lit.int k x).wf = true := by
  obtain ⟨h1, h2⟩ := (show [v] = [.int k x] ∧ _ from repV_one h (by simp))
  exact ⟨by simpa using h1, h2⟩
theorem repV_bool {w : World} {v : Value} {x : Bool} (h : RepV w .bool v x) : v = .bool x := by
  have h1 := (show [v] = [.bool x] from repV_one h (by simp))
  simpa using h1
theorem repV_str {w : World} {v : Value} {x : ByteArray} (h : RepV w .str v x) : v = .string x ∧ x.size ≤ maxLen := by
  obtain ⟨h1, h2⟩ := (show [v] = [.string x] ∧ _ from repV_one h (by simp))
  exact ⟨by simpa using h1, h2⟩
/-- a slice whose elements have a shape -/
def SlT (w : World) (e : Ty) (a : Option Addr) (n c : Nat) (l : List e.den) : Prop :=
  l.length = n ∧ n ≤ c ∧ c ≤ maxLen ∧ ∀ (i : Nat) (x : e.den), l[i]? = some x → ∃ b o cs', a = some ⟨b, o, none⟩ ∧ b < w.heap.size ∧ cs'.length = e.size ∧ (∀ j v, cs'[j]? = some v → w.cell? ⟨b, o + i * e.size + j, none⟩ = some v) ∧ Rep w e cs' x
theorem repV_sl {w : World} {e : Ty} {v : Value} {l : List e.den} (h : RepV w (.sl e) v l) : ∃ a n c, v = .slice a n c ∧ SlT w e a n c l := by
  obtain ⟨a, n, c, h1, h2⟩ := (show Rep w (.sl e) [v] l from repV_one h (by simp))
  exact ⟨a, n, c, by simpa using h1, h2⟩
theorem rep_sl {w : World} {e : Ty} {cs : List Value} {l : List e.den} (h : Rep w (.sl e) cs l) : ∃ a n c, cs = [.slice a n c] ∧ SlT w e a n c l := h
theorem SlT.below {w w' : World} {e : Ty} {a : Option Addr} {n c : Nat} {l : List e.den} (h : SlT w e a n c l) (hb : Below w.heap.size w w') : SlT w' e a n c l := by
  obtain ⟨a', n', c', h1, h2⟩ := rep_below hb (.sl e) (show Rep w (.sl e) [.slice a n c] l from ⟨a, n, c, rfl, h⟩)
  simp at h1
  obtain ⟨rfl, rfl, rfl⟩ := h1
  exact h2
/-- integers -/
theorem slT_int {w : World} {k : IntKind} {a : Option Addr} {n c : Nat} {l : List Int} (h : SlT w (.int k) a n c l) : Sl k w a n c l ∧ ∀ x ∈ l, (Lit.int k x).wf = true := by
  obtain ⟨h1', h2, h3, h4⟩ := h
  have h1 : List.length (α := Int) l = n := h1'
  refine ⟨⟨h1, h2, h3, fun i hi => ?_⟩, fun x hx => ?_⟩
  · obtain ⟨b, o, cs', ha, hlt, hl, hc, hr, _⟩ := h4 i (l[i]'(by omega)) (List.getElem?_eq_getElem (by omega))
    refine ⟨b, o, ha, hlt, ?_⟩
    have := hc 0 (.int k (l[i]'(by omega))) (by rw [hr]; rfl)
    simp only [Ty.size, Nat.mul_one, Nat.add_zero] at this
    rw [this, List.getD_eq_getElem?_getD, List.getElem?_eq_getElem (by omega)]; rfl
  · obtain ⟨i, hi, rfl⟩ := List.getElem_of_mem hx
    obtain ⟨_, _, _, _, _, _, _, _, hw⟩ := h4 i _ (List.getElem?_eq_getElem hi)
    exact hw
/-- a slice of strings -/
def Sls (w : World) (a : Option Addr) (n c : Nat) (l : List ByteArray) : Prop :=
  l.length = n ∧ n ≤ c ∧ c ≤ maxLen ∧ ∀ i, i < n → ∃ b o, a = some ⟨b, o, none⟩ ∧ b < w.heap.size ∧ w.cell? ⟨b, o + i, none⟩ = some (.string (l.getD i ByteArray.empty)) ∧ (l.getD i ByteArray.empty).size ≤ maxLen
theorem slT_str {w : World} {a : Option Addr} {n c : Nat} {l : List ByteArray} (h : SlT w .str a n c l) : Sls w a n c l := by
  obtain ⟨h1', h2, h3, h4⟩ := h
  have h1 : List.length (α := ByteArray) l = n := h1'
  refine ⟨h1, h2, h3, fun i hi => ?_⟩
  obtain ⟨b, o, cs', ha, hlt, hl, hc, hr, hs⟩ := h4 i (l[i]'(by omega)) (List.getElem?_eq_getElem (by omega))
  refine ⟨b, o, ha, hlt, ?_, ?_⟩
  · have := hc 0 (.string (l[i]'(by omega))) (by rw [hr]; rfl)
    simp only [Ty.size, Nat.mul_one, Nat.add_zero] at this
    rw [this, List.getD_eq_getElem?_getD, List.getElem?_eq_getElem (by omega)]; rfl
  · rw [List.getD_eq_getElem?_getD, List.getElem?_eq_getElem (by omega)]; exact hs
theorem Sls.below {w w' : World} {a : Option Addr} {n c : Nat} {l : List ByteArray} (h : Sls w a n c l) (hb : Below w.heap.size w w') : Sls w' a n c l := by
  obtain ⟨h1, h2, h3, h4⟩ := h
  refine ⟨h1, h2, h3, fun i hi => ?_⟩
  obtain ⟨b, o, rfl, hlt, hc, hs⟩ := h4 i hi
  exact ⟨b, o, rfl, Nat.lt_of_lt_of_le hlt hb.size, (hb.cell (p := ⟨b, o + i, none⟩) hlt).trans hc, hs⟩
end Go.Proofs.YteaepgbakcifkaaDoor
