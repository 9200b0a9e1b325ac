/- EventKnown: the walk. -/
import Derived.Test.YteaepgbakcifkaaDoorEvKnown
set_option linter.unusedVariables false
set_option linter.unusedSimpArgs false
namespace Go.Proofs.YteaepgbakcifkaaDoor
open Go.RowKit
def badL : Obj := .cells #[.int .i64 0, .int .i64 0, .int .i64 0, .int .i64 0, .int .i64 0, .string ⟨#[]⟩, .string ⟨#[]⟩, .string ⟨#[]⟩, .int .i64 10, .int .i64 0, .int .i64 0, .int .i64 0, .int .i64 0, .string ⟨#[]⟩, .string ⟨#[]⟩, .string ⟨#[]⟩, .int .i64 6, .int .i64 0, .int .i64 0, .int .i64 0, .int .i64 0, .string ⟨#[]⟩, .string ⟨#[]⟩, .string ⟨#[]⟩, .int .i64 6, .int .i64 0, .int .i64 0, .int .i64 0, .int .i64 1099511627777, .string ⟨#[]⟩, .string ⟨#[]⟩, .string ⟨#[]⟩, .int .i64 6, .int .i64 1, .int .i64 0, .int .i64 0, .int .i64 1, .string ⟨#[]⟩, .string ⟨#[]⟩, .string ⟨#[]⟩, .int .i64 9, .int .i64 0, .int .i64 0, .int .i64 0, .int .i64 1048576, .string ⟨#[]⟩, .string ⟨#[]⟩, .string ⟨#[]⟩, .int .i64 3, .int .i64 1, .int .i64 0, .int .i64 0, .int .i64 0, .string ⟨#[]⟩, .string ⟨#[]⟩, .string ⟨#[]⟩, .int .i64 3, .int .i64 65, .int .i64 0, .int .i64 1, .int .i64 0, .string ⟨#[]⟩, .string ⟨#[]⟩, .string ⟨#[]⟩, .int .i64 3, .int .i64 1, .int .i64 16, .int .i64 1, .int .i64 0, .string ⟨#[]⟩, .string ⟨#[]⟩, .string ⟨#[]⟩, .int .i64 3, .int .i64 1, .int .i64 0, .int .i64 10, .int .i64 0, .string ⟨#[]⟩, .string ⟨#[]⟩, .string ⟨#[]⟩, .int .i64 1, .int .i64 0, .int .i64 0, .int .i64 0, .int .i64 0, .string ⟨#[65]⟩, .string ⟨#[]⟩, .string ⟨#[]⟩, .int .i64 2, .int .i64 1, .int .i64 0, .int .i64 0, .int .i64 0, .string ⟨#[97]⟩, .string ⟨#[49, 50, 51, 52, 53, 54, 55, 56, 57, 48, 49, 50, 51, 52, 53, 54, 55]⟩, .string ⟨#[]⟩, .int .i64 2, .int .i64 1, .int .i64 0, .int .i64 0, .int .i64 0, .string ⟨#[97]⟩, .string ⟨#[]⟩, .string ⟨#[120]⟩, .int .i64 8, .int .i64 0, .int .i64 0, .int .i64 0, .int .i64 0, .string ⟨#[]⟩, .string ⟨#[]⟩, .string ⟨#[]⟩, .int .i64 5, .int .i64 1, .int .i64 0, .int .i64 1, .int .i64 0, .string ⟨#[]⟩, .string ⟨#[]⟩, .string ⟨#[120]⟩] 24 (0, 0)
theorem badL_eq : badL = badO := by kernel_rfl
theorem kn_put1 {w wr w1 : World} {m : Nat} {ys : List Int} {a1 : Option Addr} {c1 : Nat} {g1 : Option Nat} (HK : Kept w wr) (hA1 : App w1 5 1 (.slice a1 (0 + m) c1) (0 + m) g1 ([] ++ bytesV ys)) (hO1 : Only (some wr.heap.size).toList (wr.alloc (.cells #[] 5)) w1) (hG1 : g1 = some wr.heap.size ∨ g1 = some (wr.alloc (.cells #[] 5)).heap.size) (x : Int) :
    App (w1.alloc (.cells #[.int .u8 x] 5)) 5 1 (.slice a1 m c1) m g1 (bytesV ys) ∧ (w1.alloc (.cells #[.int .u8 x] 5)).heap[w1.heap.size]? = some (.cells #[.int .u8 x] 5) ∧ Kept w (w1.alloc (.cells #[.int .u8 x] 5)) ∧ (∀ k, g1 = some k → w.heap.size ≤ k) ∧ Kept wr (w1.alloc (.cells #[.int .u8 x] 5)) ∧ (∀ k, g1 = some k → wr.heap.size ≤ k) := by
  rw [Nat.zero_add, List.nil_append] at hA1
  have hk : Kept wr w1 := (kept_alA wr (.cells #[] 5)).onl hO1 (by intro i hi; simp at hi; omega)
  have hgg : ∀ k, g1 = some k → wr.heap.size ≤ k := by
    intro k hk
    rcases hG1 with e | e
    · rw [e] at hk; injection hk with hk; omega
    · rw [e] at hk; injection hk with hk; simp at hk; omega
  refine ⟨(kept_alA w1 _).only.app hA1 (by simp), heap_alloc_new w1 _, (HK.trans hk).trans (kept_alA w1 _), fun k h => Nat.le_trans HK.size (hgg k h), hk.trans (kept_alA w1 _), hgg⟩
theorem kn_put2 {wr w2 wx : World} {m : Nat} {ys news : List Int} {k : Nat} {a2 : Option Addr} {c2 : Nat} {g1 g2 : Option Nat} (hg : ∀ k, g1 = some k → wr.heap.size ≤ k) (HK : Kept wr wx) (hA2 : App w2 5 1 (.slice a2 (m + k) c2) (m + k) g2 (bytesV ys ++ bytesV news)) (hO2 : Only g1.toList wx w2) :
    Sl .u8 w2 a2 (m + k) c2 (ys ++ news) ∧ Kept wr w2 := by
  refine ⟨(app_sl (by have e : bytesV (ys ++ news) = bytesV ys ++ bytesV news := by simp [bytesV]
                      rw [e]; exact hA2)).1, HK.onl hO2 ?_⟩
  intro i hi
  cases hgg : g1 with
  | none => rw [hgg] at hi; cases hi
  | some k => rw [hgg] at hi; simp at hi; rw [hi]; exact hg k hgg
/-- Get's answer to bytes that it refuses -/
theorem ev_get_no (a : Option Addr) (n c : Nat) (zs : List Int) (W : World) (hS : Sl .u8 W a n c zs) (hB : IsB zs) (hn : n ≤ 1000000) (h : (getE zs).2 = 2) : Calls Tryd.prog 11 #[.slice a n c] W fun E w' => E = .returned (.tuple #[evV (kindE 0), .int .i64 2]) ∧ Kept W w' := by
  have h2 : getE zs = (kindE 0, 2) := by
    unfold getE at h ⊢
    split
    · rename_i hc; rw [if_pos hc] at h; exact absurd h (by show (0 : Int) ≠ 2; decide)
    · rfl
  have := ev_get a n c zs W hS hB hn
  rw [h2] at this
  exact this
set_option maxRecDepth 100000 in
set_option maxHeartbeats 16000000 in
theorem evKnown {w : World} (hv : EvV w) : Calls Tryd.prog 3 #[] w fun E w' => E = .returned (.bool true) ∧ Kept w w' := by
  have HAw := Lib.hid (ev_awake hv)
  have HV := Lib.hid hv
  clear hv
  go_enter Tryd.func3, Tryd.ntmps3
  go_wp2_with fail
  refine HAw.out.mono ?_
  rintro E X ⟨rfl, hK1⟩
  have HK1 := Lib.hid (hK1.trans (kept_alA X badL))
  have hB0 : (X.alloc badL).heap[X.heap.size]? = some badO := by rw [badL_eq]; exact heap_alloc_new X badO
  have HB1 := Lib.hid hB0
  clear hK1 hB0 HAw
  go_wp2_with fail
  generalize hX1 : X.alloc (.cells #[.int .i64 0, .int .i64 0, .int .i64 0, .int .i64 0, .int .i64 0, .string ⟨#[]⟩, .string ⟨#[]⟩, .string ⟨#[]⟩, .int .i64 10, .int .i64 0, .int .i64 0, .int .i64 0, .int .i64 0, .string ⟨#[]⟩, .string ⟨#[]⟩, .string ⟨#[]⟩, .int .i64 6, .int .i64 0, .int .i64 0, .int .i64 0, .int .i64 0, .string ⟨#[]⟩, .string ⟨#[]⟩, .string ⟨#[]⟩, .int .i64 6, .int .i64 0, .int .i64 0, .int .i64 0, .int .i64 1099511627777, .string ⟨#[]⟩, .string ⟨#[]⟩, .string ⟨#[]⟩, .int .i64 6, .int .i64 1, .int .i64 0, .int .i64 0, .int .i64 1, .string ⟨#[]⟩, .string ⟨#[]⟩, .string ⟨#[]⟩, .int .i64 9, .int .i64 0, .int .i64 0, .int .i64 0, .int .i64 1048576, .string ⟨#[]⟩, .string ⟨#[]⟩, .string ⟨#[]⟩, .int .i64 3, .int .i64 1, .int .i64 0, .int .i64 0, .int .i64 0, .string ⟨#[]⟩, .string ⟨#[]⟩, .string ⟨#[]⟩, .int .i64 3, .int .i64 65, .int .i64 0, .int .i64 1, .int .i64 0, .string ⟨#[]⟩, .string ⟨#[]⟩, .string ⟨#[]⟩, .int .i64 3, .int .i64 1, .int .i64 16, .int .i64 1, .int .i64 0, .string ⟨#[]⟩, .string ⟨#[]⟩, .string ⟨#[]⟩, .int .i64 3, .int .i64 1, .int .i64 0, .int .i64 10, .int .i64 0, .string ⟨#[]⟩, .string ⟨#[]⟩, .string ⟨#[]⟩, .int .i64 1, .int .i64 0, .int .i64 0, .int .i64 0, .int .i64 0, .string ⟨#[65]⟩, .string ⟨#[]⟩, .string ⟨#[]⟩, .int .i64 2, .int .i64 1, .int .i64 0, .int .i64 0, .int .i64 0, .string ⟨#[97]⟩, .string ⟨#[49, 50, 51, 52, 53, 54, 55, 56, 57, 48, 49, 50, 51, 52, 53, 54, 55]⟩, .string ⟨#[]⟩, .int .i64 2, .int .i64 1, .int .i64 0, .int .i64 0, .int .i64 0, .string ⟨#[97]⟩, .string ⟨#[]⟩, .string ⟨#[120]⟩, .int .i64 8, .int .i64 0, .int .i64 0, .int .i64 0, .int .i64 0, .string ⟨#[]⟩, .string ⟨#[]⟩, .string ⟨#[]⟩, .int .i64 5, .int .i64 1, .int .i64 0, .int .i64 1, .int .i64 0, .string ⟨#[]⟩, .string ⟨#[]⟩, .string ⟨#[120]⟩] 24 (0, 0)) = X1
  rw [show X.alloc badL = X1 from hX1] at HK1 HB1
  clear hX1
  generalize X.heap.size = b at *
  go_loopw [2] (fun vi wr => ∃ i : Nat, vi = .int .i64 (i : Nat) ∧ i ≤ 15 ∧ Hid (wr.heap[b]? = some badO) ∧ Hid (Kept w wr)) (fun vi _ => 15 - (intOf vi).toNat)
  case atStart => exact ⟨0, rfl, by omega, HB1, HK1⟩
  case round =>
    obtain ⟨i, rfl, hi, HB, HK⟩ := hrel
    clear HB1 HK1
    by_cases hlt : i < 15
    · have hlt' : (i : Int) < 15 := by omega
      obtain ⟨e, hg, c0, c1, c2, c3, c4, c5, c6, c7⟩ := bad_row HB.out i hlt
      have HG := Lib.hid (fun W => ev_good e W)
      rw [hg] at HG
      have HP := Lib.hid (fun W => ev_put_no e hg W)
      have HS := Lib.hid (fun W => ev_show_no e hg W)
      have HC := Lib.hid (fun (W : World) (h : Kept wr W) => (⟨h.cel c0, h.cel c1, h.cel c2, h.cel c3, h.cel c4, h.cel c5, h.cel c6, h.cel c7⟩ : W.cell? ⟨b, i * 8, none⟩ = some (.int .i64 e.k) ∧ W.cell? ⟨b, i * 8 + 1, none⟩ = some (.int .i64 e.r) ∧ W.cell? ⟨b, i * 8 + 2, none⟩ = some (.int .i64 e.t) ∧ W.cell? ⟨b, i * 8 + 3, none⟩ = some (.int .i64 e.y) ∧ W.cell? ⟨b, i * 8 + 4, none⟩ = some (.int .i64 e.n) ∧ W.cell? ⟨b, i * 8 + 5, none⟩ = some (.string e.nm) ∧ W.cell? ⟨b, i * 8 + 6, none⟩ = some (.string e.ky) ∧ W.cell? ⟨b, i * 8 + 7, none⟩ = some (.string e.dt)))
      clear hg
      go_wp2_with fail
      refine (HG.out _).mono ?_
      rintro E V1 ⟨rfl, hK1⟩
      have HK1 := Lib.hid hK1
      clear c0 c1 c2 c3 c4 c5 c6 c7 hK1
      obtain ⟨c0, c1, c2, c3, c4, c5, c6, c7⟩ := HC.out _ HK1.out
      go_wp2_with fail
      refine (HP.out _).mono ?_
      rintro E V2 ⟨rfl, hK2⟩
      have HK2 := Lib.hid (HK1.out.trans hK2)
      clear c0 c1 c2 c3 c4 c5 c6 c7 hK2
      obtain ⟨c0, c1, c2, c3, c4, c5, c6, c7⟩ := HC.out _ HK2.out
      go_wp2_with fail
      refine (HS.out _).mono ?_
      rintro E V3 ⟨rfl, hK3⟩
      have HK3 := Lib.hid (HK2.out.trans hK3)
      clear c0 c1 c2 c3 c4 c5 c6 c7 hK3
      have HB3 := Lib.hid (HK3.out.only.heap HB.out (by simp))
      have HKw3 := Lib.hid (HK.out.trans HK3.out)
      go_wp2_with fail
      go_roundw
      case rel => exact ⟨i + 1, by go_num, by omega, HB3, HKw3⟩
      case measure => simp [intOf]; omega
    · have hge : (15 : Int) ≤ i := by omega
      clear HB
      have HPd := Lib.hid (fun W => ev_put_yes knD knD_good W)
      rw [knD_enc] at HPd
      have HS1 := Lib.hid (heap_keep (heap_alloc_new wr (evO knS)) (evO knD))
      have HD1 : Hid (((wr.alloc (evO knS)).alloc (evO knD)).heap[wr.heap.size + 1]? = some (evO knD)) := new_at _ (by simp)
      have HK1 := Lib.hid ((HK.out.trans (kept_alA wr (evO knS))).trans (kept_alA _ (evO knD)))
      clear HK
      go_wp2_with fail
      generalize hX2 : (wr.alloc (.cells #[.int .i64 2, .int .i64 1, .int .i64 0, .int .i64 0, .int .i64 0, .string ⟨#[97]⟩, .string ⟨#[]⟩, .string ⟨#[]⟩] 24 (0, 0))).alloc (.cells #[.int .i64 4, .int .i64 64, .int .i64 15, .int .i64 9, .int .i64 0, .string ⟨#[]⟩, .string ⟨#[]⟩, .string ⟨#[111, 107, 59]⟩] 24 (0, 0)) = X2
      rw [show (wr.alloc (evO knS)).alloc (evO knD) = X2 from hX2] at HS1 HD1 HK1
      clear hX2
      generalize wr.heap.size + 1 = q at *
      generalize wr.heap.size = p at *
      refine (HPd.out X2).mono ?_
      rintro E V1 ⟨pa, pc, rfl, hPS, hK1⟩
      replace hPS : Sl .u8 V1 pa 8 pc [4, 64, 15, 9, 3, 111, 107, 59] := hPS
      replace HS1 := Lib.hid (hK1.only.heap HS1.out (by simp))
      replace HD1 := Lib.hid (hK1.only.heap HD1.out (by simp))
      replace HK1 := Lib.hid (HK1.out.trans hK1)
      have HPS := Lib.hid hPS
      have HPS0 := Lib.hid ((kept_alA V1 (.cells #[] 5)).sl hPS)
      have HA0 := Lib.hid (app_empty V1 5)
      clear hK1 hPS HPd
      go_wp2_with (first
        | (at_builtin; refine wpList_app rfl (.tmp 65) (.tmp 66) 27 27 rfl elemB _ 0 _ _ rfl HA0.out _ 8 _ rfl (src_sl Tryd.underlying27 HPS0.out) (by omega) (by unfold maxLen; omega) ?_; intro a1 c1 g1 w1 hA1 hO1 hG1; have HP2 := Lib.hid (kn_put1 HK1.out hA1 hO1 hG1 0); clear hA1 hO1 hG1)
        | (at_builtin; refine wpList_app rfl (.tmp 67) (.tmp 68) 27 27 rfl elemB _ 8 _ _ rfl HP2.out.1 _ 1 _ rfl (src_block Tryd.underlying27 HP2.out.2.1 1 1 rfl (by simp [Value.oneCell'])) (by omega) (by unfold maxLen; omega) ?_; intro a2 c2 g2 w2 hA2 hO2 hG2; have HP3 := Lib.hid (kn_put2 (news := [0]) HP2.out.2.2.2.2.2 HP2.out.2.2.2.2.1 hA2 hO2); clear hA2 hO2 hG2))
      obtain ⟨z, HGn⟩ : ∃ z, Hid (∀ (a : Option Addr) (n c : Nat) (zs : List Int) (W : World), Sl .u8 W a n c zs → IsB zs → n ≤ 1000000 → (getE zs).2 = 2 → Calls Tryd.prog 11 #[.slice a n c] W fun E w' => E = .returned (.tuple #[evV z, .int .i64 2]) ∧ Kept W w') := ⟨_, ev_get_no⟩
      refine (HGn.out a2 9 c2 [4, 64, 15, 9, 3, 111, 107, 59, 0] w2 HP3.out.1 (isB_of_mem (by intro x hx; simp at hx; omega)) (by omega) kn1).mono ?_
      rintro E V3 ⟨rfl, hK1⟩
      have HK3 := Lib.hid (HP3.out.2.trans hK1)
      clear hK1 HP3 HP2 HPS0 HA0
      go_wp2_with fail
      refine (HGn.out none 0 0 [] _ (sl_nil _ _) (isB_of_mem (by simp)) (by omega) kn2).mono ?_
      rintro E V4 ⟨rfl, hK1⟩
      have HK4 := Lib.hid ((HK3.out.trans (kept_alA V3 _)).trans hK1)
      clear hK1 HK3
      go_wp2_with fail
      have HL := sl_lit .u8 (V4.alloc (evO z)) 5 (0, 0) [8, 129, 0] 3 rfl (by unfold maxLen; omega)
      rw [show (V4.alloc (evO z)).heap.size = V4.heap.size + 1 by simp] at HL
      refine (HGn.out _ 3 3 [8, 129, 0] _ HL (isB_of_mem (by intro x hx; simp at hx; omega)) (by omega) kn3).mono ?_
      rintro E V5 ⟨rfl, hK1⟩
      have HK5 := Lib.hid (((HK4.out.trans (kept_alA V4 _)).trans (kept_alA _ _)).trans hK1)
      clear hK1 HK4 HL
      go_wp2_with fail
      have HL := sl_lit .u8 (V5.alloc (evO z)) 5 (0, 0) [8, 65] 2 rfl (by unfold maxLen; omega)
      rw [show (V5.alloc (evO z)).heap.size = V5.heap.size + 1 by simp] at HL
      refine (HGn.out _ 2 2 [8, 65] _ HL (isB_of_mem (by intro x hx; simp at hx; omega)) (by omega) kn4).mono ?_
      rintro E V6 ⟨rfl, hK1⟩
      have HK6 := Lib.hid ((((HK5.out.trans (kept_alA V5 _)).trans (kept_alA _ _)).trans hK1).trans (kept_alA V6 (evO z)))
      clear hK1 HK5 HL
      have HSh := Lib.hid (fun W (h : EvV W) => ev_show knS h)
      have HDh := Lib.hid (fun W (h : EvV W) => ev_show knD h)
      rw [knS_show] at HSh
      rw [knD_show] at HDh
      have HCv := Lib.hid (fun V (k : Kept V1 V) => run_conv (k.sl HPS.out))
      obtain ⟨s0, s1, s2, s3, s4, s5, s6, s7⟩ := ev_cells (HK6.out.only.heap HS1.out (by simp))
      obtain ⟨d0, d1, d2, d3, d4, d5, d6, d7⟩ := ev_cells (HK6.out.only.heap HD1.out (by simp))
      have hcv := HCv.out _ HK6.out
      go_wp2_with fail
      refine (HSh.out _ (HV.out.kept (HK1.out.trans HK6.out))).mono ?_
      rintro E V7 ⟨rfl, hK1⟩
      have HK7 := Lib.hid (HK6.out.trans hK1)
      clear hK1 HK6 hcv s0 s1 s2 s3 s4 s5 s6 s7 d0 d1 d2 d3 d4 d5 d6 d7
      obtain ⟨d0, d1, d2, d3, d4, d5, d6, d7⟩ := ev_cells (HK7.out.only.heap HD1.out (by simp))
      go_wp2_with fail
      refine (HDh.out _ (HV.out.kept (HK1.out.trans HK7.out))).mono ?_
      rintro E V8 ⟨rfl, hK1⟩
      have HK8 := Lib.hid (HK7.out.trans hK1)
      clear hK1 HK7 d0 d1 d2 d3 d4 d5 d6 d7
      have hcv := HCv.out _ HK8.out
      rw [show strOf [4, 64, 15, 9, 3, 111, 107, 59] = ⟨#[4, 64, 15, 9, 3, 111, 107, 59]⟩ by decide +kernel] at hcv
      go_wp2_with fail
      go_ret
      exact ⟨rfl, HK1.out.trans HK8.out⟩
end Go.Proofs.YteaepgbakcifkaaDoor
