/- msg.Get of a good message's bytes. -/
import Derived.Test.YtnnjflljlooifaaMsGet2
import Derived.Deep.CutRange
import Derived.Deep.RegionLaw
set_option linter.unusedVariables false
set_option linter.unusedSimpArgs false
namespace Go.Proofs.Ytnnjflljlooifaa
open Go.RowKit
theorem encM_len {k f e o p te : Int} {L : List (Int × List Int)} {T : List Int} (h : OkM k f e o p L T te) : 1 ≤ (encM k f e o p L T te).length ∧ (encM k f e o p L T te).length ≤ 10000 := by
  obtain ⟨a1, a2, a3, a4, a5, a6, a7, a8, a9, a10⟩ := h
  have l1 := lenU_le k
  have l2 := lenU_le f
  have l3 := lenU_le e
  have l4 := lenU_le o
  have l5 := lenU_le p
  have l6 := lenU_le L.length
  have l7 := lenU_le T.length
  have l8 := lenU_le te
  have f1 := flat_len encR 1044 L fun l hl => encR_len l (a7 l hl).2.2
  have f2 := flat_len encU 10 T fun x hx => (lenU_le x).2
  unfold lenU at l1 l2 l3 l4 l5 l6 l7 l8
  unfold encM
  simp only [List.length_append]
  omega
theorem src_drew {P : Program} {size : Nat} {tx e' : TypeId} (hk : P.underlying tx = some (.slice e')) {W : World} {b : Nat} {cur : Array Value} {et : TypeId} {mk : Nat × Nat} (hb : b = W.heap.size) (n c : Nat) (hl : cur.size = n * size) (h1 : ∀ u ∈ cur.toList, u.oneCell' = true) :
    Src P size tx (.slice (some ⟨b, 0, none⟩) n c) n cur.toList (W.alloc (.cells cur et mk)).drew := src_block (w := (W.alloc (.cells cur et mk)).drew) hk (new_at (w := W) (.cells cur et mk) hb) n c hl h1
theorem bytes_self (a : Option Addr) (n c : Nat) (b : Option Addr) (m d : Nat) (xs : List Int) (w : World) (hx : Sl .u8 w a n c xs) (hy : Sl .u8 w b m d xs) (ix : IsB xs) :
    Calls Try.prog 20 #[.slice a n c, .slice b m d] w fun e w' => e = .returned (.bool true) ∧ w = w' := by
  have h := bytes_equal a n c b m d xs xs w hx hy ix ix
  rwa [decide_eq_true rfl] at h
set_option maxRecDepth 100000 in
set_option maxHeartbeats 2000000 in
theorem msg_get (m : MV) (L : List (Int × List Int)) (T : List Int) (a : Option Addr) (n c : Nat) (w : World) (hS : Sl .u8 w a n c (encM m.k m.f m.e m.o m.p L T m.te)) (hg : goodM m (lens L) T = true) (hl : L.length = m.ln) (htl : T.length = m.tn)
    (hst : ∀ l ∈ L, (0 ≤ l.1 ∧ l.1 ≤ 18446744073709551615) ∧ IsB l.2) (hW : IsW T) :
    Calls Try.prog 24 #[.slice a n c] w fun e w' => ∃ la lc ta tc R, e = .returned (.tuple #[.agg (MV.cs ⟨m.k, m.f, m.t, m.e, m.o, m.p, la, m.ln, lc, ta, m.tn, tc, m.te⟩), .int .i64 0]) ∧ SlQ w' la m.ln lc R ∧ BytesAt w' R L ∧ Sl .u64 w' ta m.tn tc T ∧ Kept w w' := by
  obtain ⟨hok, ht⟩ := goodM_ok m L T hg hl htl hst hW
  obtain ⟨k, f, t, e, o, p, la0, ln, lc0, ta0, tn, tc0, te⟩ := m
  unfold MV.cs
  dsimp only at *
  subst ht
  have hB := encM_isB hok
  obtain ⟨hlen1, hlen2⟩ := encM_len hok
  have hzn : (encM k f e o p L T te).length = n := hS.1
  obtain ⟨a1, a2, a3, a4, a5, a6, a7, a8, a9, a10⟩ := hok
  have A7 := Lib.hid a7
  have A9 := Lib.hid a9
  have HG := Lib.hid hg
  have HSO := Lib.hid hS
  have Hst := Lib.hid hst
  clear a7 a9 hg hst
  go_enter Try.func24, Try.ntmps24
  go_upto_region 1 with fail
  have hres := heap_alloc_new w (.cells #[.int .i64 0, .int .i64 0, .int .i64 0, .int .i64 0, .int .i64 0, .int .i64 0, .slice none 0 0, .slice none 0 0, .int .i64 0] 33)
  have K1 := kept_al w (.cells #[.int .i64 0, .int .i64 0, .int .i64 0, .int .i64 0, .int .i64 0, .int .i64 0, .slice none 0 0, .slice none 0 0, .int .i64 0] 33)
  have hs1 : (w.alloc (.cells #[.int .i64 0, .int .i64 0, .int .i64 0, .int .i64 0, .int .i64 0, .int .i64 0, .slice none 0 0, .slice none 0 0, .int .i64 0] 33)).heap.size = w.heap.size + 1 := by simp
  have HS1 := Lib.hid (K1.sl hS)
  clear hS
  generalize World.alloc w _ = W1 at *
  go_upto_region 2 with (go_at_call 31; refine (ms_clone a n c _ _ HS1.out (by omega)).mono ?_; rintro E V ⟨a', c', g', rfl, hA, KV, hfr⟩)
  obtain ⟨bl, q4, X2, hbl, hblr, hq4, hI, hr2, K2, hX2⟩ : ∃ (bl q4 : Nat) (X2 : World), bl < q4 ∧ w.heap.size < bl ∧ q4 = V.heap.size ∧ InB bl X2 74 q4 (encM k f e o p L T te) false ∧ X2.heap[w.heap.size]? = some (.cells #[.int .i64 0, .int .i64 0, .int .i64 0, .int .i64 0, .int .i64 0, .int .i64 0, .slice none 0 0, .slice none 0 0, .int .i64 0] 33 (0, 0)) ∧ Kept w X2 ∧ X2 = V.alloc (.cells #[.slice a' n c', .bool false] 74) := by
    obtain ⟨hsl, hblk⟩ := app_sl hA
    obtain ⟨b, o0, hab, hlt, -⟩ := hsl.2.2.2 0 (by omega)
    have hgb := hblk _ hab
    have := hfr b hgb
    refine ⟨b, V.heap.size, _, hlt, by omega, rfl, ⟨a', n, c', heap_alloc_new V _, (kept_al V _).sl hsl, fun x hx => ?_, hB⟩, (kept_al V _).only.heap (KV.only.heap hres (by simp)) (by simp), K1.trans (KV.trans (kept_al V _)), rfl⟩
    rw [hab] at hx
    injection hx with hx
    subst hx
    rfl
  rw [← hX2, ← hq4]
  clear hA KV hfr hres K1 hs1 HS1 hX2 hq4
  unfold encM at hI
  have hbne : bl ≠ q4 := by omega
  have hsz2 : q4 < X2.heap.size := by obtain ⟨_, _, _, hh, _⟩ := hI; exact lt_heap hh
  have HI := Lib.hid hI
  have HO := Lib.hid (Only.refl [q4] X2)
  clear hI
  go_upto_region 3 with (go_at_call 32; refine (getSmall hbne (by omega) (by omega) (by omega) (by omega) HI.out).mono ?_; rintro E V ⟨rfl, hI, ho⟩; replace HI := Lib.hid hI; replace HO := Lib.hid (HO.out.trans ho); clear hI ho)
  obtain ⟨q5, Z, hq5, hZ, GZ⟩ : ∃ (q5 : Nat) (Z : World), q4 < q5 ∧ (q5 = V.heap.size ∧ Z = V.alloc (.cells #[.int .i64 k, .int .i64 f, .int .i64 0, .int .i64 0, .int .i64 0, .int .i64 0, .slice none 0 0, .slice none 0 0, .int .i64 0] 33)) ∧ Hid (GS w Z bl q4 q5 #[.int .i64 k, .int .i64 f, .int .i64 0, .int .i64 0, .int .i64 0, .int .i64 0, .slice none 0 0, .slice none 0 0, .int .i64 0] (encU e ++ (encU o ++ (encU p ++ (encU L.length ++ (L.flatMap encR ++ (encU T.length ++ (T.flatMap encU ++ encU te)))))))) := by
    refine ⟨V.heap.size, _, Nat.lt_of_lt_of_le hsz2 HO.out.size, ⟨rfl, rfl⟩, ?_⟩
    have h2 := HO.out.heap hr2 (by simp; omega)
    exact ⟨(kept_al V _).only.inB HI.out (by simp) (by simp), heap_alloc_new V _, (kept_al V _).only.heap h2 (by simp), (K2.onl HO.out (by intro i hi; simp at hi; omega)).trans (kept_al V _)⟩
  obtain ⟨hZ1, hZ2⟩ := hZ
  rw [← hZ2, ← hZ1]
  clear HI HO hZ1 hZ2 hr2 K2
  obtain ⟨q0, q1, q2, q3, q4', q5', q6, q7, q8⟩ := nine_cells GZ.out.box
  have z0 := one_free GZ.out.box
  go_upto_region 4 with fail
  clear q0 q1 q2 q3 q4' q5' q6 q7 q8 z0
  have hbl4 : w.heap.size < q4 := by omega
  obtain ⟨Z4, hZ4, G4⟩ : ∃ Z4, Z4 = Z.setCell ⟨q5, 2, none⟩ (.int .i64 (1 - f)) ∧ Hid (GS w Z4 bl q4 q5 #[.int .i64 k, .int .i64 f, .int .i64 (1 - f), .int .i64 0, .int .i64 0, .int .i64 0, .slice none 0 0, .slice none 0 0, .int .i64 0] (encU e ++ (encU o ++ (encU p ++ (encU L.length ++ (L.flatMap encR ++ (encU T.length ++ (T.flatMap encU ++ encU te)))))))) := by
    refine ⟨_, rfl, ?_⟩
    exact GZ.out.set 2 _ hbl4 hq5 hbl
  rw [← hZ4]
  clear hZ4 GZ
  obtain ⟨q0, q1, q2, q3, q4', q5', q6, q7, q8⟩ := nine_cells G4.out.box
  have z0 := one_free G4.out.box
  go_upto_region 5 with (go_at_call 33; refine (getP hbne (by omega) (by omega) G4.out.inb).mono ?_; clear q0 q1 q2 q3 q4' q5' q6 q7 q8 z0; rintro E V4 ⟨rfl, hI, ho⟩; replace G4 := Lib.hid (G4.out.read hI ho hbl4 hq5); clear hI ho; obtain ⟨q0, q1, q2, q3, q4', q5', q6, q7, q8⟩ := nine_cells G4.out.box; have z0 := one_free G4.out.box)
  clear q0 q1 q2 q3 q4' q5' q6 q7 q8 z0
  obtain ⟨Z5, hZ5, G5⟩ : ∃ Z5, Z5 = ((V4.setCell ⟨q5, 3, none⟩ (.int .i64 e)).setCell ⟨q5, 4, none⟩ (.int .i64 o)).setCell ⟨q5, 5, none⟩ (.int .i64 p) ∧ Hid (GS w Z5 bl q4 q5 #[.int .i64 k, .int .i64 f, .int .i64 (1 - f), .int .i64 e, .int .i64 o, .int .i64 p, .slice none 0 0, .slice none 0 0, .int .i64 0] (encU L.length ++ (L.flatMap encR ++ (encU T.length ++ (T.flatMap encU ++ encU te))))) :=
    ⟨_, rfl, ((G4.out.set 3 (.int .i64 e) hbl4 hq5 hbl).set 4 (.int .i64 o) hbl4 hq5 hbl).set 5 (.int .i64 p) hbl4 hq5 hbl⟩
  rw [← hZ5]
  clear hZ5 G4
  go_wp2_with (go_at_call 32; refine (getSmall hbne (by omega) (by omega) (by omega) (by omega) G5.out.inb).mono ?_; rintro E V5 ⟨rfl, hI, ho⟩; replace G5 := Lib.hid (G5.out.read hI ho hbl4 hq5); clear hI ho)
  go_loopw [24] (fun i wr => ∃ (j : Nat) (al : Option Addr) (lc : Nat) (g : Option Nat) (R : List RV), i = .int .i64 (j : Nat) ∧ j ≤ ln ∧ Hid (GS w wr bl q4 q5 #[.int .i64 k, .int .i64 f, .int .i64 (1 - f), .int .i64 e, .int .i64 o, .int .i64 p, .slice al j lc, .slice none 0 0, .int .i64 0] ((L.drop j).flatMap encR ++ (encU T.length ++ (T.flatMap encU ++ encU te)))) ∧ Hid (RowsW wr q5 al j lc g R (L.take j))) (fun i _ => ln - (intOf i).toNat)
  case atStart => exact ⟨0, none, 0, none, [], rfl, by omega, by simpa using G5, rowsW_nil _ _⟩
  case round =>
    obtain ⟨j, al, lc, g, R, rfl, hj, G6, R6⟩ := hrel
    by_cases hlt : j < ln
    · have hlt' : (j : Int) < ln := by omega
      obtain ⟨l, hll⟩ : ∃ l, L[j]? = some l := ⟨_, List.getElem?_eq_getElem (by omega)⟩
      obtain ⟨⟨b0, b1⟩, bz, bn⟩ := A7.out l (List.mem_of_getElem? hll)
      have hdr : L.drop j = l :: L.drop (j + 1) := by
        rw [List.drop_eq_getElem_cons (by omega : j < L.length)]
        rw [List.getElem?_eq_getElem (by omega : j < L.length)] at hll
        injection hll with hll
        rw [hll]
      have HTk : Hid (L.take (j + 1) = L.take j ++ [l]) := by
        unfold Hid
        rw [List.take_add_one, hll]
        rfl
      clear hll
      obtain ⟨lat, lz⟩ := l
      dsimp only at b0 b1 bz bn
      rw [hdr] at G6
      have hcons : ((lat, lz) :: L.drop (j + 1)).flatMap encR ++ (encU T.length ++ (T.flatMap encU ++ encU te)) = encU lat ++ (encS lz ++ ((L.drop (j + 1)).flatMap encR ++ (encU T.length ++ (T.flatMap encU ++ encU te)))) := by
        simp [encR]
      rw [hcons] at G6
      clear hdr hcons
      go_upto_region 8 with (go_at_call 34; refine (getU hbne b0 b1 G6.out.inb).mono ?_; rintro E V6 ⟨rfl, hI, ho⟩; replace G6 := Lib.hid (G6.out.read hI ho hbl4 hq5); replace R6 := Lib.hid (R6.out.only ho (by intro i hi; simp at hi; omega)); clear hI ho)
      obtain ⟨s, hs8⟩ : ∃ s, strOf lz = s := ⟨_, rfl⟩
      have hsn : s.size = lz.length := by rw [← hs8, strOf_size]
      have hcv2 := fun (W : World) => run_bytes_of_string (P := Try.prog) W 9 53 5 s Try.underlying9 Try.underlying53 Try.underlying5
      obtain ⟨q0, q1, q2, q3, q4', q5', q6, q7, q8⟩ := nine_cells G6.out.box
      have z0 := one_free G6.out.box
      go_region_law (first | (refine step_app rfl (.tmp 28) (.tmp 33) 28 28 rfl elemR _ j _ _ rfl ((Only.drew (Only.alloc (Only.alloc (Only.refl [] V8) _) _)).app R8.out.app (by simp)) _ 1 _ rfl (src_drew Try.underlying28 (by simp) 1 1 rfl (by simp [Value.oneCell'])) (by omega) (by unfold maxLen; omega) ?_; intro a5 c5 g5 w5 hA5 hO5 hG5; have q2 := hO5.heap (k := q5) (heap_keep (heap_keep (w := V8) G8.out.box _) _) (by intro hm; have := R8.out.fresh q5 (by simpa using hm); omega); have d6 := at_cell q2 6 _ rfl; have d0 := one_free q2 6) | (go_simp; go_at_call 35; refine (getS hbne bn ((Only.refl [] V6).drew.inB G6.out.inb (by simp) (by simp))).mono ?_; rw [hs8]; rintro E V8 ⟨rfl, hI, ho⟩; have G8 := Lib.hid ((G6.out.only (Only.refl [] V6).drew hbl4 hq5 hbl (by simp)).read hI ho hbl4 hq5); have R8 := Lib.hid ((R6.out.only (Only.refl [] V6).drew (by simp)).only ho (by intro i hi; simp at hi; omega)); clear hI ho; obtain ⟨y0, y1, y2, y3, y4', y5', y6, y7, y8⟩ := nine_cells G8.out.box; have z8 := one_free G8.out.box; have t6 : ∀ x : Obj, (V8.alloc x).cell? ⟨q5, 6, none⟩ = some (.slice al j lc) := fun x => (kept_al V8 x).cel y6; have t7 : ∀ x y : Obj, ((V8.alloc x).alloc y).cell? ⟨q5, 6, none⟩ = some (.slice al j lc) := fun x y => (kept_al _ y).cel (t6 x)))
      all_goals (
        go_wp2
        go_roundw
        case rel =>
          subst hs8
          have hq8 := lt_heap G8.out.box
          have hO6 := (Only.drew (Only.refl g.toList _)).trans hO5
          have R9 := R8.out.more (cap := grownCap V8 lz.length 0 5) (x := lat) (zs := lz) hq8 bz (grownCap_ge _ _ _ _) (grownCap_le_maxLen _ _ _ _ (by unfold maxLen; omega)) b0 b1 rfl hA5 hO6 hG5
          have hO7 := (((Only.refl [] V8).alloc (.cells (bytesRow (strOf lz) (grownCap V8 lz.length 0 5)) 5 ((bytesRow (strOf lz) (grownCap V8 lz.length 0 5)).size, (bytesRow (strOf lz) (grownCap V8 lz.length 0 5)).size + 1))).alloc (.cells #[.int .u64 lat, .slice (some ⟨V8.heap.size, 0, none⟩) lz.length (grownCap V8 lz.length 0 5)] 58))
          have G9 := (((G8.out.only hO7 hbl4 hq5 hbl (by simp)).only hO6 hbl4 hq5 hbl (fun i hi => R8.out.fresh i (by simpa using hi))).set 6 (.slice a5 (j + 1) c5) hbl4 hq5 hbl)
          have R10 := R9.only ((Only.refl [q5] w5).setCell (p := ⟨q5, 6, none⟩) (fun _ => by simp) (.slice a5 (j + 1) c5)) (by intro i hi; simp at hi; omega)
          rw [← HTk.out] at R10
          exact ⟨j + 1, a5, c5, g5, _, by go_num, by omega, G9, R10⟩
        case measure => simp [intOf]; omega)
    · have hge : (ln : Int) ≤ j := by omega
      obtain rfl : j = ln := by omega
      rw [List.drop_eq_nil_of_le (by omega), List.flatMap_nil, List.nil_append, htl] at G6
      rw [List.take_of_length_le (by omega)] at R6
      go_wp2_with (go_at_call 32; refine (getSmall hbne (by omega) (by omega) (by omega) (by omega) G6.out.inb).mono ?_; rintro E V7 ⟨rfl, hI, ho⟩; replace G6 := Lib.hid (G6.out.read hI ho hbl4 hq5); replace R6 := Lib.hid (R6.out.only ho (by intro i hi; simp at hi; omega)); clear hI ho)
      obtain ⟨ln, hln⟩ : ∃ ln, j = ln := ⟨_, rfl⟩
      subst hln
      go_loopw [38] (fun i wr => ∃ (j2 : Nat) (at2 : Option Addr) (tc2 : Nat) (g2 : Option Nat), i = .int .i64 (j2 : Nat) ∧ j2 ≤ tn ∧ Hid (GS w wr bl q4 q5 #[.int .i64 k, .int .i64 f, .int .i64 (1 - f), .int .i64 e, .int .i64 o, .int .i64 p, .slice al j lc, .slice at2 j2 tc2, .int .i64 0] ((T.drop j2).flatMap encU ++ encU te)) ∧ Hid (RowsW wr q5 al j lc g R L) ∧ Hid (TW wr q5 at2 j2 tc2 g2 g R (T.take j2))) (fun i _ => tn - (intOf i).toNat)
      case atStart => exact ⟨0, none, 0, none, rfl, by omega, by simpa using G6, R6, tw_nil _ _ _ _⟩
      case round =>
        clear hlt hge
        obtain ⟨j2, at2, tc2, g2, rfl, hj2, G7, R7, T7⟩ := hrel
        by_cases hlt : j2 < tn
        · have hlt' : (j2 : Int) < tn := by omega
          obtain ⟨x, hx⟩ : ∃ x, T[j2]? = some x := ⟨_, List.getElem?_eq_getElem (by omega)⟩
          obtain ⟨x0, x1⟩ := A9.out x (List.mem_of_getElem? hx)
          have hdr : T.drop j2 = x :: T.drop (j2 + 1) := by
            rw [List.drop_eq_getElem_cons (by omega : j2 < T.length)]
            rw [List.getElem?_eq_getElem (by omega : j2 < T.length)] at hx
            injection hx with hx
            rw [hx]
          have HTk : Hid ((T.take (j2 + 1)).map (Value.int .u64) = (T.take j2).map (Value.int .u64) ++ [.int .u64 x]) := by
            unfold Hid
            rw [List.take_add_one, hx]
            simp
          clear hx
          rw [hdr, List.flatMap_cons, List.append_assoc] at G7
          clear hdr
          go_wp2_with fail
          obtain ⟨q0, q1, q2, q3, q4', q5', q6, q7, q8⟩ := nine_cells G7.out.box
          have z0 := one_free G7.out.box
          go_region_law (first | (refine step_app rfl (.tmp 42) (.tmp 44) 29 29 rfl elemW _ j2 _ _ rfl ((Only.alloc (Only.refl [] V8) _).app T8.out.app (by simp)) _ 1 _ rfl (src_block Try.underlying29 (heap_alloc_new V8 _) 1 1 rfl (by simp [Value.oneCell'])) (by omega) (by unfold maxLen; omega) ?_; intro a5 c5 g5 w5 hA5 hO5 hG5; have q2 := hO5.heap (k := q5) (heap_keep (w := V8) G8.out.box _) (by intro hm; have := (T8.out.fresh q5 (by simpa using hm)).1; omega); have d6 := at_cell q2 7 _ rfl; have d0 := one_free q2 7) | (go_simp; go_at_call 34; refine (getU hbne x0 x1 ((Only.refl [] wr).drew.inB G7.out.inb (by simp) (by simp))).mono ?_; rintro E V8 ⟨rfl, hI, ho⟩; have G8 := Lib.hid ((G7.out.only (Only.refl [] wr).drew hbl4 hq5 hbl (by simp)).read hI ho hbl4 hq5); have R8 := Lib.hid ((R7.out.only (Only.refl [] wr).drew (by simp)).only ho (by intro i hi; simp at hi; omega)); have T8 := Lib.hid ((T7.out.only (Only.refl [] wr).drew (by simp)).only ho (by intro i hi; simp at hi; omega)); clear hI ho; obtain ⟨y0, y1, y2, y3, y4', y5', y6, y7, y8⟩ := nine_cells G8.out.box; have z8 := one_free G8.out.box; have t6 : ∀ x : Obj, (V8.alloc x).cell? ⟨q5, 7, none⟩ = some (.slice at2 j2 tc2) := fun x => (kept_al V8 x).cel y7))
          all_goals (
            go_wp2
            go_roundw
            case rel =>
              have hq8 := lt_heap G8.out.box
              have hO7 : Only [] V8 (V8.alloc (.cells #[.int .u64 x] 56)) := (Only.refl [] V8).alloc _
              have hg2 : ∀ i ∈ g2.toList, q5 < i ∧ Awy g R i := fun i hi => T8.out.fresh i (by simpa using hi)
              have G9 := (((G8.out.only hO7 hbl4 hq5 hbl (by simp)).only hO5 hbl4 hq5 hbl (fun i hi => (hg2 i hi).1)).set 7 (.slice a5 (j2 + 1) c5) hbl4 hq5 hbl)
              have R9 := ((R8.out.far hO7 (by simp)).far hO5 (fun i hi => (hg2 i hi).2)).only ((Only.refl [q5] w5).setCell (p := ⟨q5, 7, none⟩) (fun _ => by simp) (.slice a5 (j2 + 1) c5)) (by intro i hi; simp at hi; omega)
              have T5 : TW w5 q5 a5 (j2 + 1) c5 g5 g R (T.take (j2 + 1)) := by
                refine ⟨by rw [HTk.out]; exact hA5, ?_⟩
                rcases hG5 with rfl | rfl
                · exact T8.out.fresh
                · intro k hk
                  injection hk with hk
                  subst hk
                  exact ⟨by simp; omega, R8.out.awy (.inl (by simp))⟩
              have T9 := T5.only ((Only.refl [q5] w5).setCell (p := ⟨q5, 7, none⟩) (fun _ => by simp) (.slice a5 (j2 + 1) c5)) (by intro i hi; simp at hi; omega)
              exact ⟨j2 + 1, a5, c5, g5, by go_num, by omega, G9, R9, T9⟩
            case measure => simp [intOf]; omega)
        · have hge : (tn : Int) ≤ j2 := by omega
          obtain rfl : j2 = tn := by omega
          rw [List.drop_eq_nil_of_le (by omega), List.flatMap_nil, List.nil_append, ← List.append_nil (encU te)] at G7
          rw [List.take_of_length_le (by omega)] at T7
          obtain ⟨q0, q1, q2, q3, q4', q5', q6, q7, q8⟩ := nine_cells G7.out.box
          have z0 := one_free G7.out.box
          go_upto_region 15 with (go_at_call 33; refine (getP hbne (by omega) (by omega) G7.out.inb).mono ?_; clear q0 q1 q2 q3 q4' q5' q6 q7 q8 z0; rintro E V8 ⟨rfl, hI, ho⟩; replace G7 := Lib.hid (G7.out.read hI ho hbl4 hq5); replace R7 := Lib.hid (R7.out.only ho (by intro i hi; simp at hi; omega)); replace T7 := Lib.hid (T7.out.only ho (by intro i hi; simp at hi; omega)); clear hI ho; obtain ⟨q0, q1, q2, q3, q4', q5', q6, q7, q8⟩ := nine_cells G7.out.box; have z0 := one_free G7.out.box)
          clear q0 q1 q2 q3 q4' q5' q6 q7 q8 z0
          obtain ⟨Z8, hZ8, G8, R8, T8⟩ : ∃ Z8, Z8 = V8.setCell ⟨q5, 8, none⟩ (.int .i64 te) ∧ Hid (GS w Z8 bl q4 q5 #[.int .i64 k, .int .i64 f, .int .i64 (1 - f), .int .i64 e, .int .i64 o, .int .i64 p, .slice al j lc, .slice at2 j2 tc2, .int .i64 te] []) ∧ Hid (RowsW Z8 q5 al j lc g R L) ∧ Hid (TW Z8 q5 at2 j2 tc2 g2 g R T) := by
            refine ⟨_, rfl, G7.out.set 8 (.int .i64 te) hbl4 hq5 hbl, ?_, ?_⟩
            · exact R7.out.only ((Only.refl [q5] V8).setCell (p := ⟨q5, 8, none⟩) (fun _ => by simp) _) (by intro i hi; simp at hi; omega)
            · exact T7.out.only ((Only.refl [q5] V8).setCell (p := ⟨q5, 8, none⟩) (fun _ => by simp) _) (by intro i hi; simp at hi; omega)
          rw [← hZ8]
          clear hZ8 G7 R7 T7
          have hgm : goodM ⟨k, f, 1 - f, e, o, p, al, j, lc, at2, j2, tc2, te⟩ (lens L) T = true := HG.out
          have hRL := rvM_lens R8.out.bytes
          have HGd := Lib.hid (fun W (kk : Kept Z8 W) => msg_good ⟨k, f, 1 - f, e, o, p, al, j, lc, at2, j2, tc2, te⟩ (lens L) T W (by have := (R8.out.slQ.kept kk).slM; rwa [hRL] at this) (kk.sl T8.out.sl) hW (by dsimp only; omega))
          have HPt := Lib.hid (fun W (kk : Kept Z8 W) => msg_put ⟨k, f, 1 - f, e, o, p, al, j, lc, at2, j2, tc2, te⟩ R L T W (R8.out.slQ.kept kk) (R8.out.bytes.kept kk) (fun l hl => (Hst.out l hl).2) (kk.sl T8.out.sl) hW (by dsimp only; omega))
          simp only [hgm, if_true] at HGd HPt
          unfold MV.cs at HGd HPt
          dsimp only at HGd HPt
          have KZ : Kept Z8 Z8 := Kept.refl _
          generalize encM k f e o p L T te = ZS at HSO HPt hB
          have HC : Hid (∀ V, Kept Z8 V → V.heap[q5]? = some (.cells #[.int .i64 k, .int .i64 f, .int .i64 (1 - f), .int .i64 e, .int .i64 o, .int .i64 p, .slice al j lc, .slice at2 j2 tc2, .int .i64 te] 33 (0, 0))) := fun V kk => kk.only.heap G8.out.box (by simp)
          obtain ⟨q0, q1, q2, q3, q4', q5', q6, q7, q8⟩ := nine_cells G8.out.box
          go_upto_region 17 with (first
            | (go_at_call 36; refine (getE hbne G8.out.inb).mono ?_; rintro E V ⟨rfl, rfl⟩)
            | (go_at_call 17; refine (HGd.out _ KZ).mono ?_; clear q0 q1 q2 q3 q4' q5' q6 q7 q8; rintro E V ⟨rfl, J⟩; replace KZ := KZ.trans J; clear J; obtain ⟨q0, q1, q2, q3, q4', q5', q6, q7, q8⟩ := nine_cells (HC.out _ KZ))
            | (go_at_call 18; refine (HPt.out _ KZ).mono ?_; clear q0 q1 q2 q3 q4' q5' q6 q7 q8; rintro E V ⟨a9, n9, c9, rfl, hs9, J⟩; replace KZ := KZ.trans J; clear J; have HS9 := Lib.hid hs9; clear hs9; obtain ⟨q0, q1, q2, q3, q4', q5', q6, q7, q8⟩ := nine_cells (HC.out _ KZ))
            | (go_at_call 20; refine (bytes_self _ _ _ _ _ _ _ _ HS9.out ((G8.out.kept.trans KZ).sl HSO.out) hB).mono ?_; rintro E V ⟨rfl, rfl⟩))
          have hr := KZ.only.heap G8.out.res (by simp)
          have y0 := one_free hr
          obtain ⟨x0, x1, x2, x3, x4, x5, x6, x7, x8⟩ := nine_cells hr
          have d := nine_set hr (.int .i64 k) (.int .i64 f) (.int .i64 (1 - f)) (.int .i64 e) (.int .i64 o) (.int .i64 p) (.slice al j lc) (.slice at2 j2 tc2) (.int .i64 te)
          have O := only_set9 V w.heap.size (.int .i64 k) (.int .i64 f) (.int .i64 (1 - f)) (.int .i64 e) (.int .i64 o) (.int .i64 p) (.slice al j lc) (.slice at2 j2 tc2) (.int .i64 te)
          have R9 := (R8.out.only KZ.only (by simp)).only O (by intro i hi; simp at hi; omega)
          have T9 := (T8.out.only KZ.only (by simp)).only O (by intro i hi; simp at hi; omega)
          have KE := (G8.out.kept.trans KZ).onl O (by intro i hi; simp at hi; omega)
          go_wp2_with fail
          clear x0 x1 x2 x3 x4 x5 x6 x7 x8 q0 q1 q2 q3 q4' q5' q6 q7 q8
          obtain ⟨d0, d1, d2, d3, d4, d5, d6, d7, d8⟩ := nine_cells d
          generalize World.setCell (World.setCell (World.setCell (World.setCell (World.setCell (World.setCell (World.setCell (World.setCell (World.setCell V _ _) _ _) _ _) _ _) _ _) _ _) _ _) _ _) _ _ = V9 at *
          exact bodyPost_ret (v := .tuple #[.agg #[.int .i64 k, .int .i64 f, .int .i64 (1 - f), .int .i64 e, .int .i64 o, .int .i64 p, .slice al j lc, .slice at2 j2 tc2, .int .i64 te], .int .i64 0]) (by simp [results, Try.results24, go_sem, d0, d1, d2, d3, d4, d5, d6, d7, d8]) rfl ⟨al, lc, at2, tc2, R, rfl, R9.slQ, R9.bytes, T9.sl, KE⟩
end Go.Proofs.Ytnnjflljlooifaa
