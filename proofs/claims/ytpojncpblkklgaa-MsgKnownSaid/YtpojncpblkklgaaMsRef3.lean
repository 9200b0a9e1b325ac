/- What the law makes of a message: the document's own. -/
import Derived.Test.YtpojncpblkklgaaMsRef2
set_option linter.unusedVariables false
set_option linter.unusedSimpArgs false
namespace Go.Proofs.Ytpojncpblkklgaa
open Go.RowKit
theorem sl_apart {k : IntKind} {w w' : World} {p : Nat} {a : Option Addr} {n c : Nat} {zs : List Int} {cs : Array Value} {t : TypeId} {m : Nat × Nat} (h : Only [p] w w') (hs : Sl k w a n c zs) (hp : w.heap[p]? = some (.cells cs t m)) (hc : ∀ x ∈ cs.toList, ∀ v, x ≠ .int k v) : Sl k w' a n c zs := by
  obtain ⟨h1, h2, h3, h4⟩ := hs
  refine ⟨h1, h2, h3, fun i hi => ?_⟩
  obtain ⟨b, o, rfl, hlt, hq⟩ := h4 i hi
  refine ⟨b, o, rfl, Nat.lt_of_lt_of_le hlt h.size, (h.cell (p := ⟨b, o + i, none⟩) hlt ?_).trans hq⟩
  intro hb
  have hb' : b = p := List.mem_singleton.1 hb
  subst hb'
  have h5 : cs[o + i]? = some (.int k (zs.getD i 0)) := by simpa [World.cell?, hp] using hq
  exact hc _ (Array.mem_toList_iff.2 (Array.mem_of_getElem? h5)) _ rfl
theorem slRR_apart {w w' : World} {p : Nat} {a : Option Addr} {n c : Nat} {L : List (Int × List Int)} {cs : Array Value} {t : TypeId} {m : Nat × Nat} (h : Only [p] w w') (hs : SlRR w a n c L) (hp : w.heap[p]? = some (.cells cs t m)) (hc : ∀ x ∈ cs.toList, ∀ v, x ≠ .int .u64 v) : SlRR w' a n c L := by
  obtain ⟨h1, h2, h3, h4⟩ := hs
  refine ⟨h1, h2, h3, fun i l hi => ?_⟩
  obtain ⟨b, o, rfl, q0, q1⟩ := h4 i l hi
  have hb : b ∉ [p] := by
    intro hb
    have hb' : b = p := List.mem_singleton.1 hb
    subst hb'
    have h5 : cs[o + i * 2]? = some (.int .u64 l.1) := by simpa [World.cell?, hp] using q0
    exact hc _ (Array.mem_toList_iff.2 (Array.mem_of_getElem? h5)) _ rfl
  have hlt := World.block_lt_of_cell? w _ q0
  exact ⟨b, o, rfl, (h.cell (p := ⟨b, o + i * 2, none⟩) hlt hb).trans q0, (h.cell (p := ⟨b, o + i * 2 + 1, none⟩) hlt hb).trans q1⟩
set_option maxRecDepth 100000 in
set_option maxHeartbeats 8000000 in
theorem law_msgOf (m : MV) (R : List RV) (L : List (Int × List Int)) (T : List Int) (w : World) (hQ : SlQ w m.la m.ln m.lc R) (hB : BytesAt w R L) (hT : Sl .u64 w m.ta m.tn m.tc T) (hn : m.ln ≤ 1000) (ht : m.tn ≤ 1000) :
    Calls Try.prog 14 #[.agg m.cs] w fun e w' => ∃ a c a2 c2, e = .returned (.agg #[.int .i64 m.k, .int .i64 m.f, .int .i64 m.t, .int .i64 m.e, .int .i64 m.o, .int .i64 m.p, .slice a m.ln c, .slice a2 m.tn c2, .int .i64 m.te]) ∧ SlRR w' a m.ln c L ∧ Sl .u64 w' a2 m.tn c2 T ∧ Kept w w' := by
  obtain ⟨k, f, t, e, o, p, la, ln, lc, ta, tn, tc, te⟩ := m
  dsimp only at hQ hB hT hn ht
  unfold MV.cs
  dsimp only
  have K0 : Kept w ((w.alloc (.cells #[.int .i64 k, .int .i64 f, .int .i64 t, .int .i64 e, .int .i64 o, .int .i64 p, .slice la ln lc, .slice ta tn tc, .int .i64 te] 29)).alloc (.cells #[.int .i64 0, .int .i64 0, .int .i64 0, .int .i64 0, .int .i64 0, .int .i64 0, .slice none 0 0, .slice none 0 0, .int .i64 0] 47)) := (kept_al w _).trans (kept_al _ _)
  have h0 : ((w.alloc (.cells #[.int .i64 k, .int .i64 f, .int .i64 t, .int .i64 e, .int .i64 o, .int .i64 p, .slice la ln lc, .slice ta tn tc, .int .i64 te] 29)).alloc (.cells #[.int .i64 0, .int .i64 0, .int .i64 0, .int .i64 0, .int .i64 0, .int .i64 0, .slice none 0 0, .slice none 0 0, .int .i64 0] 47)).heap[w.heap.size]? = some (.cells #[.int .i64 k, .int .i64 f, .int .i64 t, .int .i64 e, .int .i64 o, .int .i64 p, .slice la ln lc, .slice ta tn tc, .int .i64 te] 29 (0, 0)) := (kept_al _ _).only.heap (heap_alloc_new w _) (by simp)
  have h1 : ((w.alloc (.cells #[.int .i64 k, .int .i64 f, .int .i64 t, .int .i64 e, .int .i64 o, .int .i64 p, .slice la ln lc, .slice ta tn tc, .int .i64 te] 29)).alloc (.cells #[.int .i64 0, .int .i64 0, .int .i64 0, .int .i64 0, .int .i64 0, .int .i64 0, .slice none 0 0, .slice none 0 0, .int .i64 0] 47)).heap[w.heap.size + 1]? = some (.cells #[.int .i64 0, .int .i64 0, .int .i64 0, .int .i64 0, .int .i64 0, .int .i64 0, .slice none 0 0, .slice none 0 0, .int .i64 0] 47 (0, 0)) := new_at _ (by simp)
  have HR := Lib.hid (fun W (kk : Kept w W) => law_recsOf la ln lc R L W (hQ.kept kk) (hB.kept kk) hn)
  have HTb := Lib.hid (fun W (kk : Kept w W) => law_tableOf ta tn tc T te W (kk.sl hT) ht)
  have HH1 := Lib.hid h1
  have HC : Hid (∀ Z, Kept ((w.alloc (.cells #[.int .i64 k, .int .i64 f, .int .i64 t, .int .i64 e, .int .i64 o, .int .i64 p, .slice la ln lc, .slice ta tn tc, .int .i64 te] 29)).alloc (.cells #[.int .i64 0, .int .i64 0, .int .i64 0, .int .i64 0, .int .i64 0, .int .i64 0, .slice none 0 0, .slice none 0 0, .int .i64 0] 47)) Z → Z.cell? ⟨w.heap.size, 0, none⟩ = some (.int .i64 k) ∧ Z.cell? ⟨w.heap.size, 1, none⟩ = some (.int .i64 f) ∧ Z.cell? ⟨w.heap.size, 2, none⟩ = some (.int .i64 t) ∧ Z.cell? ⟨w.heap.size, 3, none⟩ = some (.int .i64 e) ∧ Z.cell? ⟨w.heap.size, 4, none⟩ = some (.int .i64 o) ∧ Z.cell? ⟨w.heap.size, 5, none⟩ = some (.int .i64 p) ∧ Z.cell? ⟨w.heap.size, 6, none⟩ = some (.slice la ln lc) ∧ Z.cell? ⟨w.heap.size, 7, none⟩ = some (.slice ta tn tc) ∧ Z.cell? ⟨w.heap.size, 8, none⟩ = some (.int .i64 te)) := fun Z kk => by
    obtain ⟨s0, s1, s2, s3, s4, s5, s6, s7, s8⟩ := nine_cells h0
    exact ⟨kk.cel s0, kk.cel s1, kk.cel s2, kk.cel s3, kk.cel s4, kk.cel s5, kk.cel s6, kk.cel s7, kk.cel s8⟩
  clear hQ hB hT h0 h1
  go_enter Try.func14, Try.ntmps14
  go_upto_region 1 with fail
  have hXs : ((w.alloc (.cells #[.int .i64 k, .int .i64 f, .int .i64 t, .int .i64 e, .int .i64 o, .int .i64 p, .slice la ln lc, .slice ta tn tc, .int .i64 te] 29)).alloc (.cells #[.int .i64 0, .int .i64 0, .int .i64 0, .int .i64 0, .int .i64 0, .int .i64 0, .slice none 0 0, .slice none 0 0, .int .i64 0] 47)).heap.size = w.heap.size + 2 := by simp
  generalize World.alloc (World.alloc w _) _ = X at *
  have KD : Kept X X.drew := (Kept.refl _).dr ⟨1, rfl⟩
  have hdr : ∀ (V : World) (p : Addr), V.drew.cell? p = V.cell? p := fun _ _ => rfl
  have hN0 : w.heap.size + 1 ≠ w.heap.size := by omega
  go_region_held3 (fun Z => Z.cell? ⟨w.heap.size, 0, none⟩ = some (.int .i64 k) ∧ Z.cell? ⟨w.heap.size, 1, none⟩ = some (.int .i64 f) ∧ Z.cell? ⟨w.heap.size, 2, none⟩ = some (.int .i64 t) ∧ Z.cell? ⟨w.heap.size, 3, none⟩ = some (.int .i64 e) ∧ Z.cell? ⟨w.heap.size, 4, none⟩ = some (.int .i64 o) ∧ Z.cell? ⟨w.heap.size, 5, none⟩ = some (.int .i64 p) ∧ Z.cell? ⟨w.heap.size, 6, none⟩ = some (.slice la ln lc) ∧ Z.cell? ⟨w.heap.size, 7, none⟩ = some (.slice ta tn tc) ∧ Z.cell? ⟨w.heap.size, 8, none⟩ = some (.int .i64 te)) ((obtain ⟨s0, s1, s2, s3, s4, s5, s6, s7, s8⟩ := HC.out _ KD; obtain ⟨t0, t1, t2, t3, t4, t5, t6, t7, t8⟩ := HC.out _ (Kept.refl _); simp only [s0, s1, s2, s3, s4, s5, s6, s7, s8, t0, t1, t2, t3, t4, t5, t6, t7, t8, hdr, World.cell?_alloc_some, World.cell?_setCell_far, Option.isSome_some, ne_eq, not_false_eq_true, and_self, hN0])) (first | (go_at_call 32; refine (HR.out _ (K0.trans KD)).mono ?_; rintro e V1 ⟨a1, c1, rfl, hs1, J⟩; have HS1 := Lib.hid hs1; replace KD : Kept X V1 := KD.trans J; clear J hs1) | (go_at_call 33; refine (HTb.out _ (K0.trans KD)).mono ?_; rintro e V2 ⟨a2, c2, rfl, hs2, J⟩; replace HS1 := Lib.hid (HS1.out.kept J); have HS2 := Lib.hid hs2; replace KD : Kept X V2 := KD.trans J; have hb := KD.only.heap HH1.out (by simp); obtain ⟨y0, y1, y2, y3, y4, y5, y6, y7, y8⟩ := nine_cells hb; have z0 := one_free hb; have HB := Lib.hid hb; clear J hs2 hb))
  clear y0 y1 y2 y3 y4 y5 y6 y7 y8
  have d := nine_set HB.out (.int .i64 k) (.int .i64 f) (.int .i64 t) (.int .i64 e) (.int .i64 o) (.int .i64 p) (.slice a1 ln c1) (.slice a2 tn c2) (.int .i64 te)
  have hap : ∀ x ∈ (#[.int .i64 0, .int .i64 0, .int .i64 0, .int .i64 0, .int .i64 0, .int .i64 0, .slice none 0 0, .slice none 0 0, .int .i64 0] : Array Value).toList, ∀ v, x ≠ .int .u64 v := by simp
  have O := only_set9 V2 (w.heap.size + 1) (.int .i64 k) (.int .i64 f) (.int .i64 t) (.int .i64 e) (.int .i64 o) (.int .i64 p) (.slice a1 ln c1) (.slice a2 tn c2) (.int .i64 te)
  have HS1' := slRR_apart O HS1.out HB.out hap
  have HS2' := sl_apart O HS2.out HB.out hap
  have KE : Kept w _ := (K0.trans KD).onl O (by intro q hq; have := List.mem_singleton.1 hq; omega)
  clear O HS1 HS2 KD hap HB z0
  generalize World.setCell (World.setCell (World.setCell (World.setCell (World.setCell (World.setCell (World.setCell (World.setCell (World.setCell V2 _ _) _ _) _ _) _ _) _ _) _ _) _ _) _ _) _ _ = V3 at *
  obtain ⟨d0, d1, d2, d3, d4, d5, d6, d7, d8⟩ := nine_cells d
  go_wp2
  exact bodyPost_ret (v := .agg #[.int .i64 k, .int .i64 f, .int .i64 t, .int .i64 e, .int .i64 o, .int .i64 p, .slice a1 ln c1, .slice a2 tn c2, .int .i64 te]) (by simp [results, Try.results14, go_sem, d0, d1, d2, d3, d4, d5, d6, d7, d8]) rfl ⟨a1, c1, a2, c2, rfl, HS1', HS2', KE⟩
end Go.Proofs.Ytpojncpblkklgaa
