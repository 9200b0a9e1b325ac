/- The document's own New, Done, Take. -/
import Derived.Test.YtmkoabalakfehaaShipRefG
import Derived.Test.YtmkoabalakfehaaShipKnownM
set_option linter.unusedVariables false
set_option linter.unusedSimpArgs false
namespace Go.Proofs.Ytmkoabalakfehaa
open Go.RowKit
set_option maxHeartbeats 1000000 in
theorem ref_new (who ep ed : Int) (w : World) :
    Calls Try.prog 22 #[.int .i64 who, .int .i64 ep, .int .i64 ed] w fun e w' => e = .returned (.tuple #[(newS who ep ed).v, .int .i64 (newE who ep ed)]) ∧ Kept w w' := by
  by_cases hq : (who = 0 ∨ who = 1) ∧ 1 ≤ ep ∧ ep ≤ 1048575 ∧ 0 ≤ ed ∧ ed ≤ 17592186044415
  · unfold newS newE
    rw [if_pos hq, if_pos hq]
    have K := kept_al w (.cells #[.int .i64 who, .int .i64 ep, .int .i64 ed, .int .i64 0] 57)
    obtain ⟨h0, h1, h2, h3, h4⟩ := hq
    unfold SV.v
    dsimp only
    rcases h0 with rfl | rfl
    all_goals
      go_enter Try.func22, Try.ntmps22
      go_wp2
      exact bodyPost_ret (v := .tuple #[.agg #[.int .i64 _, .int .i64 ep, .int .i64 ed, .int .i64 0], .int .i64 0]) (by simp [results, Try.results22, go_sem]) rfl ⟨rfl, K⟩
  · unfold newS newE
    rw [if_neg hq, if_neg hq]
    have K := kept_al w (.cells #[.int .i64 0, .int .i64 0, .int .i64 0, .int .i64 0] 57)
    unfold SV.v
    dsimp only
    have hcs : (who < 0) ∨ (1 < who) ∨ ((who = 0 ∨ who = 1) ∧ ep < 1) ∨ ((who = 0 ∨ who = 1) ∧ 1 ≤ ep ∧ 1048576 ≤ ep) ∨ ((who = 0 ∨ who = 1) ∧ 1 ≤ ep ∧ ep < 1048576 ∧ ed < 0) ∨ ((who = 0 ∨ who = 1) ∧ 1 ≤ ep ∧ ep < 1048576 ∧ 0 ≤ ed ∧ 17592186044416 ≤ ed) := by
      by_cases h0 : who = 0 ∨ who = 1
      · by_cases h1 : 1 ≤ ep
        · by_cases h2 : ep ≤ 1048575
          · by_cases h3 : 0 ≤ ed
            · exact .inr (.inr (.inr (.inr (.inr ⟨h0, h1, by omega, h3, Int.not_lt.1 fun h4 => hq ⟨h0, h1, h2, h3, by omega⟩⟩))))
            · exact .inr (.inr (.inr (.inr (.inl ⟨h0, h1, by omega, by omega⟩))))
          · exact .inr (.inr (.inr (.inl ⟨h0, h1, by omega⟩)))
        · exact .inr (.inr (.inl ⟨h0, by omega⟩))
      · by_cases h1 : who < 0
        · exact .inl h1
        · exact .inr (.inl (by omega))
    clear hq
    rcases hcs with h1 | h1 | ⟨rfl | rfl, h1⟩ | ⟨rfl | rfl, h1, h2⟩ | ⟨rfl | rfl, h1, h2, h3⟩ | ⟨rfl | rfl, h1, h2, h3, h4⟩
    all_goals
      go_enter Try.func22, Try.ntmps22
      go_wp2
      exact bodyPost_ret (v := .tuple #[.agg #[.int .i64 0, .int .i64 0, .int .i64 0, .int .i64 0], .int .i64 1]) (by simp [results, Try.results22, go_sem]) rfl ⟨rfl, K⟩
def doneI (s : SV) (safe : Int) (solo : Bool) : Int := if solo then safe else min safe s.ak
set_option maxHeartbeats 1000000 in
theorem ref_done (s : SV) (safe : Int) (solo : Bool) (w : World) : Calls Try.prog 24 #[s.v, .int .i64 safe, .bool solo] w fun e w' => e = .returned (.int .i64 (doneI s safe solo)) ∧ Kept w w' := by
  obtain ⟨who, ep, nx, ak⟩ := s
  have K := kept_al w (.cells #[.int .i64 who, .int .i64 ep, .int .i64 nx, .int .i64 ak] 57)
  have d3 := at_cell (heap_alloc_new w (.cells #[.int .i64 who, .int .i64 ep, .int .i64 nx, .int .i64 ak] 57)) 3 _ rfl
  unfold SV.v doneI
  dsimp only
  cases solo
  · rw [if_neg (by simp)]
    by_cases h : ak < safe
    · rw [show min safe ak = ak by omega]
      go_enter Try.func24, Try.ntmps24
      go_wp2
      go_ret
      exact ⟨rfl, K⟩
    · rw [show min safe ak = safe by omega]
      have h' : safe ≤ ak := by omega
      clear h
      go_enter Try.func24, Try.ntmps24
      go_wp2
      go_ret
      exact ⟨rfl, K⟩
  · rw [if_pos rfl]
    go_enter Try.func24, Try.ntmps24
    go_wp2
    go_ret
    exact ⟨rfl, K⟩
theorem ship_doneI (s : SV) (safe : Int) (solo : Bool) (w : World) : Calls Try.prog 15 #[s.v, .int .i64 safe, .bool solo] w fun e w' => e = .returned (.int .i64 (doneI s safe solo)) ∧ Kept w w' := by
  cases solo
  · exact ship_done s safe w
  · exact ship_solo s safe w

set_option maxRecDepth 100000 in
set_option maxHeartbeats 8000000 in
theorem ref_take (who ep nx ak E : Int) (ta : Option Addr) (tn tc : Nat) (T : List Int) (k f t e o p te : Int) (a : Option Addr) (n c : Nat) (a2 : Option Addr) (tn2 c2 : Nat) (L : List (Int × List Int)) (T2 : List Int) (w : World)
    (hT : Sl .u64 w ta tn tc T) (wT : IsW T) (hL : SlRR w a n c L) (hT2 : Sl .u64 w a2 tn2 c2 T2) (wT2 : IsW T2) (hn : n ≤ 1000) (hLw : ∀ l ∈ L, 0 ≤ l.1 ∧ l.1 ≤ 18446744073709551615) :
    Calls Try.prog 20 #[.agg #[.int .i64 who, .int .i64 ep, .int .i64 nx, .int .i64 ak], .agg #[.slice ta tn tc, .int .i64 E], .agg #[.int .i64 k, .int .i64 f, .int .i64 t, .int .i64 e, .int .i64 o, .int .i64 p, .slice a n c, .slice a2 tn2 c2, .int .i64 te]] w fun e' w' => e' = .returned (.tuple #[(takeS ⟨who, ep, nx, ak⟩ (decide (GoodT T E)) (goodM ⟨k, f, t, e, o, p, none, n, 0, none, tn2, 0, te⟩ (rowL L) T2) E ⟨k, f, t, e, o, p, none, n, 0, none, tn2, 0, te⟩ (meetI T E T2 te)).1.v, .int .i64 (takeS ⟨who, ep, nx, ak⟩ (decide (GoodT T E)) (goodM ⟨k, f, t, e, o, p, none, n, 0, none, tn2, 0, te⟩ (rowL L) T2) E ⟨k, f, t, e, o, p, none, n, 0, none, tn2, 0, te⟩ (meetI T E T2 te)).2]) ∧ Kept w w' := by
  have K : Kept w ((((w.alloc (.cells #[.int .i64 who, .int .i64 ep, .int .i64 nx, .int .i64 ak] 57)).alloc (.cells #[.slice ta tn tc, .int .i64 E] 52)).alloc (.cells #[.int .i64 k, .int .i64 f, .int .i64 t, .int .i64 e, .int .i64 o, .int .i64 p, .slice a n c, .slice a2 tn2 c2, .int .i64 te] 54)).alloc (.cells #[.int .i64 0, .int .i64 0, .int .i64 0, .int .i64 0] 57)) := (((kept_al w _).trans (kept_al _ _)).trans (kept_al _ _)).trans (kept_al _ _)
  have h0 : ((((w.alloc (.cells #[.int .i64 who, .int .i64 ep, .int .i64 nx, .int .i64 ak] 57)).alloc (.cells #[.slice ta tn tc, .int .i64 E] 52)).alloc (.cells #[.int .i64 k, .int .i64 f, .int .i64 t, .int .i64 e, .int .i64 o, .int .i64 p, .slice a n c, .slice a2 tn2 c2, .int .i64 te] 54)).alloc (.cells #[.int .i64 0, .int .i64 0, .int .i64 0, .int .i64 0] 57)).heap[w.heap.size]? = some (.cells #[.int .i64 who, .int .i64 ep, .int .i64 nx, .int .i64 ak] 57 (0, 0)) := (((kept_al _ _).trans (kept_al _ _)).trans (kept_al _ _)).only.heap (heap_alloc_new w _) (by simp)
  have h1 : ((((w.alloc (.cells #[.int .i64 who, .int .i64 ep, .int .i64 nx, .int .i64 ak] 57)).alloc (.cells #[.slice ta tn tc, .int .i64 E] 52)).alloc (.cells #[.int .i64 k, .int .i64 f, .int .i64 t, .int .i64 e, .int .i64 o, .int .i64 p, .slice a n c, .slice a2 tn2 c2, .int .i64 te] 54)).alloc (.cells #[.int .i64 0, .int .i64 0, .int .i64 0, .int .i64 0] 57)).heap[w.heap.size + 1]? = some (.cells #[.slice ta tn tc, .int .i64 E] 52 (0, 0)) := ((kept_al _ _).trans (kept_al _ _)).only.heap (new_at _ (by simp)) (by simp)
  have h2 : ((((w.alloc (.cells #[.int .i64 who, .int .i64 ep, .int .i64 nx, .int .i64 ak] 57)).alloc (.cells #[.slice ta tn tc, .int .i64 E] 52)).alloc (.cells #[.int .i64 k, .int .i64 f, .int .i64 t, .int .i64 e, .int .i64 o, .int .i64 p, .slice a n c, .slice a2 tn2 c2, .int .i64 te] 54)).alloc (.cells #[.int .i64 0, .int .i64 0, .int .i64 0, .int .i64 0] 57)).heap[w.heap.size + 2]? = some (.cells #[.int .i64 k, .int .i64 f, .int .i64 t, .int .i64 e, .int .i64 o, .int .i64 p, .slice a n c, .slice a2 tn2 c2, .int .i64 te] 54 (0, 0)) := (kept_al _ _).only.heap (new_at _ (by simp)) (by simp)
  have h3 : ((((w.alloc (.cells #[.int .i64 who, .int .i64 ep, .int .i64 nx, .int .i64 ak] 57)).alloc (.cells #[.slice ta tn tc, .int .i64 E] 52)).alloc (.cells #[.int .i64 k, .int .i64 f, .int .i64 t, .int .i64 e, .int .i64 o, .int .i64 p, .slice a n c, .slice a2 tn2 c2, .int .i64 te] 54)).alloc (.cells #[.int .i64 0, .int .i64 0, .int .i64 0, .int .i64 0] 57)).heap[w.heap.size + 3]? = some (.cells #[.int .i64 0, .int .i64 0, .int .i64 0, .int .i64 0] 57 (0, 0)) := new_at _ (by simp)
  have HC : Hid (∀ Z, Kept ((((w.alloc (.cells #[.int .i64 who, .int .i64 ep, .int .i64 nx, .int .i64 ak] 57)).alloc (.cells #[.slice ta tn tc, .int .i64 E] 52)).alloc (.cells #[.int .i64 k, .int .i64 f, .int .i64 t, .int .i64 e, .int .i64 o, .int .i64 p, .slice a n c, .slice a2 tn2 c2, .int .i64 te] 54)).alloc (.cells #[.int .i64 0, .int .i64 0, .int .i64 0, .int .i64 0] 57)) Z → Z.cell? ⟨w.heap.size, 0, none⟩ = some (.int .i64 who) ∧ Z.cell? ⟨w.heap.size, 1, none⟩ = some (.int .i64 ep) ∧ Z.cell? ⟨w.heap.size, 2, none⟩ = some (.int .i64 nx) ∧ Z.cell? ⟨w.heap.size, 3, none⟩ = some (.int .i64 ak) ∧ Z.cell? ⟨w.heap.size + 1, 0, none⟩ = some (.slice ta tn tc) ∧ Z.cell? ⟨w.heap.size + 1, 1, none⟩ = some (.int .i64 E) ∧ Z.cell? ⟨w.heap.size + 2, 0, none⟩ = some (.int .i64 k) ∧ Z.cell? ⟨w.heap.size + 2, 1, none⟩ = some (.int .i64 f) ∧ Z.cell? ⟨w.heap.size + 2, 2, none⟩ = some (.int .i64 t) ∧ Z.cell? ⟨w.heap.size + 2, 3, none⟩ = some (.int .i64 e) ∧ Z.cell? ⟨w.heap.size + 2, 4, none⟩ = some (.int .i64 o) ∧ Z.cell? ⟨w.heap.size + 2, 5, none⟩ = some (.int .i64 p) ∧ Z.cell? ⟨w.heap.size + 2, 6, none⟩ = some (.slice a n c) ∧ Z.cell? ⟨w.heap.size + 2, 7, none⟩ = some (.slice a2 tn2 c2) ∧ Z.cell? ⟨w.heap.size + 2, 8, none⟩ = some (.int .i64 te)) := fun Z kk => by
    obtain ⟨s0, s1, s2, s3⟩ := four_cells h0
    obtain ⟨t0, t1⟩ := two_cells h1
    obtain ⟨m0, m1, m2, m3, m4, m5, m6, m7, m8⟩ := nine_cells h2
    exact ⟨kk.cel s0, kk.cel s1, kk.cel s2, kk.cel s3, kk.cel t0, kk.cel t1, kk.cel m0, kk.cel m1, kk.cel m2, kk.cel m3, kk.cel m4, kk.cel m5, kk.cel m6, kk.cel m7, kk.cel m8⟩
  have H0 : Hid (∀ Z, Kept ((((w.alloc (.cells #[.int .i64 who, .int .i64 ep, .int .i64 nx, .int .i64 ak] 57)).alloc (.cells #[.slice ta tn tc, .int .i64 E] 52)).alloc (.cells #[.int .i64 k, .int .i64 f, .int .i64 t, .int .i64 e, .int .i64 o, .int .i64 p, .slice a n c, .slice a2 tn2 c2, .int .i64 te] 54)).alloc (.cells #[.int .i64 0, .int .i64 0, .int .i64 0, .int .i64 0] 57)) Z → Z.heap[w.heap.size]? = some (.cells #[.int .i64 who, .int .i64 ep, .int .i64 nx, .int .i64 ak] 57 (0, 0))) := fun Z kk => kk.only.heap h0 (by simp)
  have H3 : Hid (∀ Z, Kept ((((w.alloc (.cells #[.int .i64 who, .int .i64 ep, .int .i64 nx, .int .i64 ak] 57)).alloc (.cells #[.slice ta tn tc, .int .i64 E] 52)).alloc (.cells #[.int .i64 k, .int .i64 f, .int .i64 t, .int .i64 e, .int .i64 o, .int .i64 p, .slice a n c, .slice a2 tn2 c2, .int .i64 te] 54)).alloc (.cells #[.int .i64 0, .int .i64 0, .int .i64 0, .int .i64 0] 57)) Z → Z.heap[w.heap.size + 3]? = some (.cells #[.int .i64 0, .int .i64 0, .int .i64 0, .int .i64 0] 57 (0, 0))) := fun Z kk => kk.only.heap h3 (by simp)
  have hnc := hL.2.1
  have hcm := hL.2.2.1
  have HG := Lib.hid (fun W (kk : Kept w W) => ref_good ta tn tc T E W (kk.sl hT) wT)
  have HM := Lib.hid (fun W (kk : Kept w W) => ref_goodM k f t e o p te a n c a2 tn2 c2 L T2 W (hL.kept kk) (kk.sl hT2) wT2 hn hLw)
  have HMt := Lib.hid (fun W (kk : Kept w W) => ref_meet ta a2 tn tc tn2 c2 T T2 E te W (kk.sl hT) (kk.sl hT2) wT wT2)
  have hkk : goodM ⟨k, f, t, e, o, p, none, n, 0, none, tn2, 0, te⟩ (rowL L) T2 = true → k = 1 ∨ k = 2 ∨ k = 3 := by
    intro h
    unfold goodM at h
    simp only [Bool.and_eq_true] at h
    have h5 := h.2.2.2.2
    by_cases k1 : k = 1
    · exact .inl k1
    · by_cases k2 : k = 2
      · exact .inr (.inl k2)
      · by_cases k3 : k = 3
        · exact .inr (.inr k3)
        · rw [if_neg k1, if_neg k2, if_neg k3] at h5; cases h5
  obtain ⟨r, hr⟩ : ∃ r, takeS ⟨who, ep, nx, ak⟩ (decide (GoodT T E)) (goodM ⟨k, f, t, e, o, p, none, n, 0, none, tn2, 0, te⟩ (rowL L) T2) E ⟨k, f, t, e, o, p, none, n, 0, none, tn2, 0, te⟩ (meetI T E T2 te) = r := ⟨_, rfl⟩
  rw [hr]
  unfold takeS at hr
  dsimp only at hr
  have HR := Lib.hid hr
  obtain ⟨s0, s1, s2, s3, t0, t1, m0, m1, m2, m3, m4, m5, m6, m7, m8⟩ := HC.out _ (Kept.refl _)
  clear hT wT hL hT2 wT2 hLw h0 h1 h2 h3 hr hnc hcm
  generalize goodM ⟨k, f, t, e, o, p, none, n, 0, none, tn2, 0, te⟩ (rowL L) T2 = gm at *
  generalize decide (GoodT T E) = gt at *
  generalize meetI T E T2 te = mt at *
  go_enter Try.func20, Try.ntmps20
  go_wp2_with fail
  clear s0 s1 s2 s3 t0 t1 m0 m1 m2 m3 m4 m5 m6 m7 m8
  generalize World.alloc (World.alloc (World.alloc (World.alloc w _) _) _) _ = X at *
  refine (HG.out _ K).mono ?_
  rintro e' V1 ⟨rfl, J1⟩
  obtain ⟨s0, s1, s2, s3, t0, t1, m0, m1, m2, m3, m4, m5, m6, m7, m8⟩ := HC.out _ J1
  cases gt
  · have hv := HR.out
    rw [if_pos (.inl rfl)] at hv
    subst hv
    clear HR hkk
    have hb := H3.out V1 (J1)
    obtain ⟨z0, z1, z2, z3⟩ := four_cells hb
    have zf := one_free hb
    have hd := four_cells (four_set hb (.int .i64 0) (.int .i64 0) (.int .i64 0) (.int .i64 0))
    obtain ⟨y0, y1, y2, y3⟩ := hd
    clear hb y0 y1 y2 y3
    go_wp2
    have hd := four_cells (four_set (H3.out V1 (J1)) (.int .i64 0) (.int .i64 0) (.int .i64 0) (.int .i64 0))
    obtain ⟨y0, y1, y2, y3⟩ := hd
    exact bodyPost_ret (v := .tuple #[.agg #[.int .i64 0, .int .i64 0, .int .i64 0, .int .i64 0], .int .i64 1]) (by simp [results, Try.results20, go_sem, y0, y1, y2, y3]) rfl ⟨rfl, (K.trans (J1)).onl (only_set4 _ _ _ _ _ _) (by intro q hq; have := List.mem_singleton.1 hq; omega)⟩
  · go_wp2_with fail
    clear s0 s1 s2 s3 t0 t1 m0 m1 m2 m3 m4 m5 m6 m7 m8
    refine (HM.out _ (K.trans J1)).mono ?_
    rintro e' V2 ⟨rfl, J2⟩
    have J := J1.trans J2
    obtain ⟨s0, s1, s2, s3, t0, t1, m0, m1, m2, m3, m4, m5, m6, m7, m8⟩ := HC.out _ J
    cases gm
    · have hv := HR.out
      rw [if_pos (.inr (.inl rfl))] at hv
      subst hv
      clear HR hkk
      have hb := H3.out V2 (J)
      obtain ⟨z0, z1, z2, z3⟩ := four_cells hb
      have zf := one_free hb
      have hd := four_cells (four_set hb (.int .i64 0) (.int .i64 0) (.int .i64 0) (.int .i64 0))
      obtain ⟨y0, y1, y2, y3⟩ := hd
      clear hb y0 y1 y2 y3
      go_wp2
      have hd := four_cells (four_set (H3.out V2 (J)) (.int .i64 0) (.int .i64 0) (.int .i64 0) (.int .i64 0))
      obtain ⟨y0, y1, y2, y3⟩ := hd
      exact bodyPost_ret (v := .tuple #[.agg #[.int .i64 0, .int .i64 0, .int .i64 0, .int .i64 0], .int .i64 1]) (by simp [results, Try.results20, go_sem, y0, y1, y2, y3]) rfl ⟨rfl, (K.trans (J)).onl (only_set4 _ _ _ _ _ _) (by intro q hq; have := List.mem_singleton.1 hq; omega)⟩
    · have hk := hkk rfl
      clear hkk
      by_cases ht : t = who
      · have tt : (t != who) = false := by simp [ht]
        have hv := HR.out
        rw [if_neg (by simp [ht])] at hv
        clear HR
        by_cases he : e = ep
        · have te1 : (e == ep) = true := by simp [he]
          have te2 : (e != ep) = false := by simp [he]
          rw [if_neg (by simp [he])] at hv
          rcases hk with rfl | rfl | rfl
          · rw [if_pos (.inl rfl)] at hv
            subst hv
            clear ht he
            obtain ⟨z0, z1, z2, z3⟩ := four_cells (H3.out V2 (J))
            have zf := one_free (H3.out V2 (J))
            go_wp2
            have O : Only [w.heap.size] V2 V2 := (Only.refl [w.heap.size] V2)
            obtain ⟨y0, y1, y2, y3⟩ := four_cells (four_set (O.heap (H3.out V2 (J)) (by simp)) (.int .i64 0) (.int .i64 0) (.int .i64 0) (.int .i64 0))
            exact bodyPost_ret (v := .tuple #[.agg #[.int .i64 0, .int .i64 0, .int .i64 0, .int .i64 0], .int .i64 1]) (by simp [results, Try.results20, go_sem, y0, y1, y2, y3]) rfl ⟨rfl, (((K.trans (J)).onl O (by intro q hq; have := List.mem_singleton.1 hq; omega))).onl (only_set4 _ _ _ _ _ _) (by intro q hq; have := List.mem_singleton.1 hq; omega)⟩
          · by_cases hE : E < o
            · rw [if_pos (.inr ⟨rfl, hE⟩)] at hv
              subst hv
              clear ht he
              obtain ⟨z0, z1, z2, z3⟩ := four_cells (H3.out V2 (J))
              have zf := one_free (H3.out V2 (J))
              go_wp2
              have O : Only [w.heap.size] V2 V2 := (Only.refl [w.heap.size] V2)
              obtain ⟨y0, y1, y2, y3⟩ := four_cells (four_set (O.heap (H3.out V2 (J)) (by simp)) (.int .i64 0) (.int .i64 0) (.int .i64 0) (.int .i64 0))
              exact bodyPost_ret (v := .tuple #[.agg #[.int .i64 0, .int .i64 0, .int .i64 0, .int .i64 0], .int .i64 1]) (by simp [results, Try.results20, go_sem, y0, y1, y2, y3]) rfl ⟨rfl, (((K.trans (J)).onl O (by intro q hq; have := List.mem_singleton.1 hq; omega))).onl (only_set4 _ _ _ _ _ _) (by intro q hq; have := List.mem_singleton.1 hq; omega)⟩
            · rw [if_neg (by omega), if_pos rfl] at hv
              have hE' : o ≤ E := by omega
              clear ht he hE
              by_cases h1 : ak < o
              · by_cases h2 : nx < o
                · rw [show max nx o = o by omega, show max ak o = o by omega] at hv
                  subst hv
                  have sf := one_free (H0.out V2 (J))
                  obtain ⟨z0, z1, z2, z3⟩ := four_cells (H3.out V2 (J))
                  have zf := one_free (H3.out V2 (J))
                  go_wp2
                  have O : Only [w.heap.size] V2 ((V2.setCell ⟨w.heap.size, 3, none⟩ (.int .i64 o)).setCell ⟨w.heap.size, 2, none⟩ (.int .i64 o)) := (((Only.refl [w.heap.size] V2).setCell (fun _ => by simp) _).setCell (fun _ => by simp) _)
                  obtain ⟨y0, y1, y2, y3⟩ := four_cells (four_set (O.heap (H3.out V2 (J)) (by simp)) (.int .i64 who) (.int .i64 ep) (.int .i64 o) (.int .i64 o))
                  exact bodyPost_ret (v := .tuple #[.agg #[.int .i64 who, .int .i64 ep, .int .i64 o, .int .i64 o], .int .i64 0]) (by simp [results, Try.results20, go_sem, y0, y1, y2, y3]) rfl ⟨rfl, (((K.trans (J)).onl O (by intro q hq; have := List.mem_singleton.1 hq; omega))).onl (only_set4 _ _ _ _ _ _) (by intro q hq; have := List.mem_singleton.1 hq; omega)⟩
                · rw [show max nx o = nx by omega, show max ak o = o by omega] at hv
                  subst hv
                  have h2p : o ≤ nx := by omega
                  have sf := one_free (H0.out V2 (J))
                  obtain ⟨z0, z1, z2, z3⟩ := four_cells (H3.out V2 (J))
                  have zf := one_free (H3.out V2 (J))
                  go_wp2
                  have O : Only [w.heap.size] V2 (V2.setCell ⟨w.heap.size, 3, none⟩ (.int .i64 o)) := ((Only.refl [w.heap.size] V2).setCell (fun _ => by simp) _)
                  obtain ⟨y0, y1, y2, y3⟩ := four_cells (four_set (O.heap (H3.out V2 (J)) (by simp)) (.int .i64 who) (.int .i64 ep) (.int .i64 nx) (.int .i64 o))
                  exact bodyPost_ret (v := .tuple #[.agg #[.int .i64 who, .int .i64 ep, .int .i64 nx, .int .i64 o], .int .i64 0]) (by simp [results, Try.results20, go_sem, y0, y1, y2, y3]) rfl ⟨rfl, (((K.trans (J)).onl O (by intro q hq; have := List.mem_singleton.1 hq; omega))).onl (only_set4 _ _ _ _ _ _) (by intro q hq; have := List.mem_singleton.1 hq; omega)⟩
              · have h1p : o ≤ ak := by omega
                by_cases h2 : nx < o
                · rw [show max nx o = o by omega, show max ak o = ak by omega] at hv
                  subst hv
                  have sf := one_free (H0.out V2 (J))
                  obtain ⟨z0, z1, z2, z3⟩ := four_cells (H3.out V2 (J))
                  have zf := one_free (H3.out V2 (J))
                  go_wp2
                  have O : Only [w.heap.size] V2 (V2.setCell ⟨w.heap.size, 2, none⟩ (.int .i64 o)) := ((Only.refl [w.heap.size] V2).setCell (fun _ => by simp) _)
                  obtain ⟨y0, y1, y2, y3⟩ := four_cells (four_set (O.heap (H3.out V2 (J)) (by simp)) (.int .i64 who) (.int .i64 ep) (.int .i64 o) (.int .i64 ak))
                  exact bodyPost_ret (v := .tuple #[.agg #[.int .i64 who, .int .i64 ep, .int .i64 o, .int .i64 ak], .int .i64 0]) (by simp [results, Try.results20, go_sem, y0, y1, y2, y3]) rfl ⟨rfl, (((K.trans (J)).onl O (by intro q hq; have := List.mem_singleton.1 hq; omega))).onl (only_set4 _ _ _ _ _ _) (by intro q hq; have := List.mem_singleton.1 hq; omega)⟩
                · rw [show max nx o = nx by omega, show max ak o = ak by omega] at hv
                  subst hv
                  have h2p : o ≤ nx := by omega
                  obtain ⟨z0, z1, z2, z3⟩ := four_cells (H3.out V2 (J))
                  have zf := one_free (H3.out V2 (J))
                  go_wp2
                  have O : Only [w.heap.size] V2 V2 := (Only.refl [w.heap.size] V2)
                  obtain ⟨y0, y1, y2, y3⟩ := four_cells (four_set (O.heap (H3.out V2 (J)) (by simp)) (.int .i64 who) (.int .i64 ep) (.int .i64 nx) (.int .i64 ak))
                  exact bodyPost_ret (v := .tuple #[.agg #[.int .i64 who, .int .i64 ep, .int .i64 nx, .int .i64 ak], .int .i64 0]) (by simp [results, Try.results20, go_sem, y0, y1, y2, y3]) rfl ⟨rfl, (((K.trans (J)).onl O (by intro q hq; have := List.mem_singleton.1 hq; omega))).onl (only_set4 _ _ _ _ _ _) (by intro q hq; have := List.mem_singleton.1 hq; omega)⟩
          · rw [if_neg (by omega), if_neg (by omega)] at hv
            subst hv
            clear ht he
            go_wp2_with fail
            refine (HMt.out _ (K.trans J)).mono ?_
            rintro e' V3 ⟨rfl, J3⟩
            have JJ := J.trans J3
            clear s0 s1 s2 s3 t0 t1 m0 m1 m2 m3 m4 m5 m6 m7 m8
            obtain ⟨s0, s1, s2, s3, t0, t1, m0, m1, m2, m3, m4, m5, m6, m7, m8⟩ := HC.out _ JJ
            have sf := one_free (H0.out V3 (JJ))
            obtain ⟨z0, z1, z2, z3⟩ := four_cells (H3.out V3 (JJ))
            have zf := one_free (H3.out V3 (JJ))
            go_wp2
            have O : Only [w.heap.size] V3 (V3.setCell ⟨w.heap.size, 2, none⟩ (.int .i64 mt)) := ((Only.refl [w.heap.size] V3).setCell (fun _ => by simp) _)
            obtain ⟨y0, y1, y2, y3⟩ := four_cells (four_set (O.heap (H3.out V3 (JJ)) (by simp)) (.int .i64 who) (.int .i64 ep) (.int .i64 mt) (.int .i64 ak))
            exact bodyPost_ret (v := .tuple #[.agg #[.int .i64 who, .int .i64 ep, .int .i64 mt, .int .i64 ak], .int .i64 0]) (by simp [results, Try.results20, go_sem, y0, y1, y2, y3]) rfl ⟨rfl, (((K.trans (JJ)).onl O (by intro q hq; have := List.mem_singleton.1 hq; omega))).onl (only_set4 _ _ _ _ _ _) (by intro q hq; have := List.mem_singleton.1 hq; omega)⟩
        · have te1 : (e == ep) = false := by simp [he]
          have te2 : (e != ep) = true := by simp [he]
          rw [if_pos he] at hv
          subst hv
          clear ht he
          rcases hk with rfl | rfl | rfl
          · skip
            obtain ⟨z0, z1, z2, z3⟩ := four_cells (H3.out V2 (J))
            have zf := one_free (H3.out V2 (J))
            go_wp2
            have O : Only [w.heap.size] V2 V2 := (Only.refl [w.heap.size] V2)
            obtain ⟨y0, y1, y2, y3⟩ := four_cells (four_set (O.heap (H3.out V2 (J)) (by simp)) (.int .i64 0) (.int .i64 0) (.int .i64 0) (.int .i64 0))
            exact bodyPost_ret (v := .tuple #[.agg #[.int .i64 0, .int .i64 0, .int .i64 0, .int .i64 0], .int .i64 8]) (by simp [results, Try.results20, go_sem, y0, y1, y2, y3]) rfl ⟨rfl, (((K.trans (J)).onl O (by intro q hq; have := List.mem_singleton.1 hq; omega))).onl (only_set4 _ _ _ _ _ _) (by intro q hq; have := List.mem_singleton.1 hq; omega)⟩
          · skip
            obtain ⟨z0, z1, z2, z3⟩ := four_cells (H3.out V2 (J))
            have zf := one_free (H3.out V2 (J))
            go_wp2
            have O : Only [w.heap.size] V2 V2 := (Only.refl [w.heap.size] V2)
            obtain ⟨y0, y1, y2, y3⟩ := four_cells (four_set (O.heap (H3.out V2 (J)) (by simp)) (.int .i64 0) (.int .i64 0) (.int .i64 0) (.int .i64 0))
            exact bodyPost_ret (v := .tuple #[.agg #[.int .i64 0, .int .i64 0, .int .i64 0, .int .i64 0], .int .i64 8]) (by simp [results, Try.results20, go_sem, y0, y1, y2, y3]) rfl ⟨rfl, (((K.trans (J)).onl O (by intro q hq; have := List.mem_singleton.1 hq; omega))).onl (only_set4 _ _ _ _ _ _) (by intro q hq; have := List.mem_singleton.1 hq; omega)⟩
          · skip
            obtain ⟨z0, z1, z2, z3⟩ := four_cells (H3.out V2 (J))
            have zf := one_free (H3.out V2 (J))
            go_wp2
            have O : Only [w.heap.size] V2 V2 := (Only.refl [w.heap.size] V2)
            obtain ⟨y0, y1, y2, y3⟩ := four_cells (four_set (O.heap (H3.out V2 (J)) (by simp)) (.int .i64 0) (.int .i64 0) (.int .i64 0) (.int .i64 0))
            exact bodyPost_ret (v := .tuple #[.agg #[.int .i64 0, .int .i64 0, .int .i64 0, .int .i64 0], .int .i64 8]) (by simp [results, Try.results20, go_sem, y0, y1, y2, y3]) rfl ⟨rfl, (((K.trans (J)).onl O (by intro q hq; have := List.mem_singleton.1 hq; omega))).onl (only_set4 _ _ _ _ _ _) (by intro q hq; have := List.mem_singleton.1 hq; omega)⟩
      · have tt : (t != who) = true := by simp [ht]
        have hv := HR.out
        rw [if_pos (.inr (.inr ht))] at hv
        subst hv
        clear HR ht hk
        obtain ⟨z0, z1, z2, z3⟩ := four_cells (H3.out V2 (J))
        have zf := one_free (H3.out V2 (J))
        go_wp2
        have O : Only [w.heap.size] V2 V2 := (Only.refl [w.heap.size] V2)
        obtain ⟨y0, y1, y2, y3⟩ := four_cells (four_set (O.heap (H3.out V2 (J)) (by simp)) (.int .i64 0) (.int .i64 0) (.int .i64 0) (.int .i64 0))
        exact bodyPost_ret (v := .tuple #[.agg #[.int .i64 0, .int .i64 0, .int .i64 0, .int .i64 0], .int .i64 1]) (by simp [results, Try.results20, go_sem, y0, y1, y2, y3]) rfl ⟨rfl, (((K.trans (J)).onl O (by intro q hq; have := List.mem_singleton.1 hq; omega))).onl (only_set4 _ _ _ _ _ _) (by intro q hq; have := List.mem_singleton.1 hq; omega)⟩
end Go.Proofs.Ytmkoabalakfehaa
