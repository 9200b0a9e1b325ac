/- The document's PutU, PutS. -/
import Derived.Test.YteaepgbakcifkaaDoorEvD4
import Derived.Test.YteaepgbakcifkaaDoorEvClone
set_option linter.unusedVariables false
set_option linter.unusedSimpArgs false
namespace Go.Proofs.YteaepgbakcifkaaDoor
open Go.RowKit
theorem kept_al5 (w : World) (o : Obj) : Kept w (w.alloc o) := by (unfold Kept; repeat (first | exact Below.refl _ _ | assumption | (refine Below.alloc ?_ (by simp) _) | (refine Below.setCell ?_ (by simp) _) | (refine Below.drew ?_) | (refine _root_.Go.below_drewN ?_ _)))
theorem put1 {w wr w1 : World} {m : Nat} {ys : List Int} {a1 : Option Addr} {c1 : Nat} {g1 : Option Nat} (HK : Kept w wr) (hA1 : App w1 5 1 (.slice a1 (0 + m) c1) (0 + m) g1 ([] ++ bytesV ys)) (hO1 : Only (some wr.heap.size).toList (wr.alloc (.cells #[] 5)) w1) (hG1 : g1 = some wr.heap.size ∨ g1 = some (wr.alloc (.cells #[] 5)).heap.size) :
    App w1 5 1 (.slice a1 m c1) m g1 (bytesV ys) ∧ Kept w w1 ∧ (∀ k, g1 = some k → w.heap.size ≤ k) := by
  rw [Nat.zero_add, List.nil_append] at hA1
  refine ⟨hA1, HK.trans ((kept_al5 wr (.cells #[] 5)).onl hO1 (by intro i hi; simp at hi; omega)), ?_⟩
  intro k hk
  have := HK.size
  rcases hG1 with e | e
  · rw [e] at hk; injection hk with hk; omega
  · rw [e] at hk; injection hk with hk; simp at hk; omega
theorem put2 {w w1 : World} {m : Nat} {ys : List Int} {a1 : Option Addr} {c1 : Nat} {g1 : Option Nat} (h : App w1 5 1 (.slice a1 m c1) m g1 (bytesV ys) ∧ Kept w w1 ∧ (∀ k, g1 = some k → w.heap.size ≤ k)) (x : Int) :
    App (w1.alloc (.cells #[.int .u8 x] 5)) 5 1 (.slice a1 m c1) m g1 (bytesV ys) ∧ (w1.alloc (.cells #[.int .u8 x] 5)).heap[w1.heap.size]? = some (.cells #[.int .u8 x] 5) ∧ Kept w (w1.alloc (.cells #[.int .u8 x] 5)) :=
  ⟨(kept_al5 w1 _).only.app h.1 (by simp), heap_alloc_new w1 _, h.2.1.trans (kept_al5 w1 _)⟩
theorem put3 {w w2 wx : World} {m : Nat} {ys news : List Int} {k : Nat} {a2 : Option Addr} {c2 : Nat} {g1 g2 : Option Nat} (hg : ∀ k, g1 = some k → w.heap.size ≤ k) (HK : Kept w wx) (hA2 : App w2 5 1 (.slice a2 (m + k) c2) (m + k) g2 (bytesV ys ++ bytesV news)) (hO2 : Only g1.toList wx w2) :
    Sl .u8 w2 a2 (m + k) c2 (ys ++ news) ∧ Kept w w2 := by
  refine ⟨(app_sl (by have e : bytesV (ys ++ news) = bytesV ys ++ bytesV news := by simp [bytesV]
                      rw [e]; exact hA2)).1, HK.onl hO2 ?_⟩
  intro i hi
  cases hgg : g1 with
  | none => rw [hgg] at hi; cases hi
  | some k => rw [hgg] at hi; simp at hi; rw [hi]; exact hg k hgg
set_option maxRecDepth 100000 in
set_option maxHeartbeats 4000000 in
theorem rput_U (a : Option Addr) (n c : Nat) (xs : List Int) (v : Int) (w : World) (hS : Sl .u8 w a n c xs) (hb : n ≤ 1000000) (h0 : 0 ≤ v) (h1 : v ≤ 18446744073709551615) : Calls Tryd.prog 40 #[.slice a n c, .int .u64 v] w fun e w' => ∃ a' c', e = .returned (.slice a' (xs ++ encU v).length c') ∧ Sl .u8 w' a' (xs ++ encU v).length c' (xs ++ encU v) ∧ Kept w w' := by
  obtain ⟨zs, hzs⟩ : ∃ zs, xs ++ encU v = zs := ⟨_, rfl⟩
  rw [hzs]
  have hlz : zs.length ≤ n + 10 := by
    have := (lenU_le v).2
    unfold lenU at this
    rw [← hzs, List.length_append, hS.1]; omega
  have HZ := Lib.hid hzs
  have HS0 := Lib.hid hS
  have HLZ := Lib.hid hlz
  clear hzs hS hlz
  go_enter Tryd.func40, Tryd.ntmps40
  go_wp2_with fail
  go_loopw [0, 1] (fun vb vv wr => ∃ (a : Option Addr) (m c : Nat) (ys : List Int) (x : Int), vb = .slice a m c ∧ vv = .int .u64 x ∧ 0 ≤ x ∧ x ≤ 18446744073709551615 ∧ m ≤ 1000010 ∧ Hid (Sl .u8 wr a m c ys) ∧ Hid (ys ++ encU x = zs) ∧ Hid (Kept w wr)) (fun _ vv _ => (intOf vv).toNat)
  case atStart => exact ⟨a, n, c, xs, v, rfl, rfl, h0, h1, by omega, HS0, HZ, Kept.refl _⟩
  case round =>
    obtain ⟨b, m, d, ys, x, rfl, rfl, x0, x1, hm, HS, HY, HK⟩ := hrel
    clear HS0 HZ
    have hys : ys.length = m := HS.out.1
    have HS1 := Lib.hid ((kept_al5 wr (.cells #[] 5)).sl HS.out)
    have HA0 := Lib.hid (app_empty wr 5)
    by_cases hx : 128 ≤ x
    · have HE := Lib.hid (encU_ge x hx x1)
      have hw1 : IntKind.u8.wrap (x % 128 + 128) = x % 128 + 128 := by rw [IntKind.wrap_u8]; omega
      have hw2 : IntKind.u64.wrap (x % 128 + 128) = x % 128 + 128 := by rw [IntKind.wrap_u64]; omega
      have ht : x.tmod 128 = x % 128 := Int.tmod_eq_emod_of_nonneg (by omega)
      have ht2 : x.tdiv 128 = x / 128 := Int.tdiv_eq_ediv_of_nonneg (by omega)
      have hw3 : IntKind.u64.wrap (x / 128) = x / 128 := by rw [IntKind.wrap_u64]; omega
      go_wp2_with (first
        | (at_builtin; refine wpList_app rfl (.tmp 7) (.tmp 8) 27 27 rfl elemB _ 0 _ _ rfl HA0.out _ m _ rfl (src_sl Tryd.underlying27 HS1.out) (by omega) (by unfold maxLen; omega) ?_; intro a1 c1 g1 w1 hA1 hO1 hG1; have HP1 := Lib.hid (put1 HK.out hA1 hO1 hG1); have HP2 := Lib.hid (put2 HP1.out (x % 128 + 128)); clear hA1 hO1 hG1)
        | (at_builtin; refine wpList_app rfl (.tmp 9) (.tmp 14) 27 27 rfl elemB _ m _ _ rfl HP2.out.1 _ 1 _ rfl (src_block Tryd.underlying27 HP2.out.2.1 1 1 rfl (by simp [Value.oneCell'])) (by omega) (by unfold maxLen; omega) ?_; intro a2 c2 g2 w2 hA2 hO2 hG2; have HP3 := Lib.hid (put3 (news := [x % 128 + 128]) HP1.out.2.2 HP2.out.2.2 hA2 hO2); clear hA2 hO2 hG2 HP1 HP2))
      have HY2 : Hid ((ys ++ [x % 128 + 128]) ++ encU (x / 128) = zs) := by
        unfold Hid
        rw [← HY.out, HE.out, List.append_assoc]; rfl
      have hm2 : m + 1 ≤ 1000010 := by
        have h := congrArg List.length HY2.out
        have := HLZ.out
        simp only [List.length_append, List.length_cons, List.length_nil] at h
        omega
      clear HE HY HS HS1 HA0
      go_roundw
      case rel => exact ⟨a2, m + 1, c2, ys ++ [x % 128 + 128], x / 128, rfl, rfl, by omega, by omega, hm2, HP3.out.1, HY2, HP3.out.2⟩
      case measure => simp [intOf]; omega
    · have hx' : x < 128 := by omega
      have HE := Lib.hid (encU_lt x hx')
      have hw1 : IntKind.u8.wrap x = x := by rw [IntKind.wrap_u8]; omega
      clear hx
      go_wp2_with (first
        | (at_builtin; refine wpList_app rfl (.tmp 18) (.tmp 19) 27 27 rfl elemB _ 0 _ _ rfl HA0.out _ m _ rfl (src_sl Tryd.underlying27 HS1.out) (by omega) (by unfold maxLen; omega) ?_; intro a1 c1 g1 w1 hA1 hO1 hG1; have HP1 := Lib.hid (put1 HK.out hA1 hO1 hG1); have HP2 := Lib.hid (put2 HP1.out (x)); clear hA1 hO1 hG1)
        | (at_builtin; refine wpList_app rfl (.tmp 20) (.tmp 23) 27 27 rfl elemB _ m _ _ rfl HP2.out.1 _ 1 _ rfl (src_block Tryd.underlying27 HP2.out.2.1 1 1 rfl (by simp [Value.oneCell'])) (by omega) (by unfold maxLen; omega) ?_; intro a2 c2 g2 w2 hA2 hO2 hG2; have HP3 := Lib.hid (put3 (news := [x]) HP1.out.2.2 HP2.out.2.2 hA2 hO2); clear hA2 hO2 hG2 HP1 HP2))
      have HZs : Hid (zs = ys ++ [x]) := by
        unfold Hid
        rw [← HY.out, HE.out]
      have hzl : zs.length = m + 1 := by rw [HZs.out, List.length_append, hys]; rfl
      have HZL := Lib.hid hzl
      go_ret
      exact ⟨a2, c2, by rw [HZL.out]; rfl, by rw [HZL.out, HZs.out]; exact HP3.out.1, HP3.out.2⟩
set_option maxRecDepth 100000 in
set_option maxHeartbeats 4000000 in
theorem rput_S (a : Option Addr) (n c : Nat) (xs : List Int) (s : ByteArray) (w : World) (hS : Sl .u8 w a n c xs) (hb : n ≤ 900000) (hs : s.size ≤ 1024) : Calls Tryd.prog 41 #[.slice a n c, .string s] w fun e w' => ∃ a' c', e = .returned (.slice a' (xs ++ encS (ofStr s)).length c') ∧ Sl .u8 w' a' (xs ++ encS (ofStr s)).length c' (xs ++ encS (ofStr s)) ∧ Kept w w' := by
  have HU := Lib.hid (rput_U a n c xs s.size w hS (by omega) (by omega) (by omega))
  obtain ⟨ys, hys⟩ : ∃ ys, xs ++ encU (s.size : Int) = ys := ⟨_, rfl⟩
  obtain ⟨zs, hzs⟩ : ∃ zs, xs ++ encS (ofStr s) = zs := ⟨_, rfl⟩
  have hzy : zs = ys ++ ofStr s := by rw [← hzs, ← hys]; unfold encS; rw [ofStr_len, List.append_assoc]
  have hyl : ys.length ≤ n + 10 := by
    have := (lenU_le (s.size : Int)).2
    unfold lenU at this
    rw [← hys, List.length_append, hS.1]; omega
  rw [hys] at HU
  rw [hzs]
  have HZY := Lib.hid hzy
  clear hzs hzy hys hS
  obtain ⟨m, hm⟩ : ∃ m, ys.length = m := ⟨_, rfl⟩
  rw [hm] at HU hyl
  have HM := Lib.hid hm
  clear hm
  go_enter Tryd.func41, Tryd.ntmps41
  go_wp2_with fail
  refine HU.out.mono ?_
  rintro e wr ⟨a0, c0, rfl, hS0, hK⟩
  have HK := Lib.hid hK
  have HS1 := Lib.hid ((kept_al5 wr (.cells #[] 5)).sl hS0)
  have HA0 := Lib.hid (app_empty wr 5)
  clear hK hS0 HU
  go_wp2_with (first
    | (at_builtin; refine wpList_app rfl (.tmp 10) (.tmp 11) 27 27 rfl elemB _ 0 _ _ rfl HA0.out _ m _ rfl (src_sl Tryd.underlying27 HS1.out) (by omega) (by unfold maxLen; omega) ?_; intro a1 c1 g1 w1 hA1 hO1 hG1; have HP1 := Lib.hid (put1 HK.out hA1 hO1 hG1); clear hA1 hO1 hG1)
    | (at_builtin; refine wpList_app rfl (.tmp 12) (.tmp 13) 27 9 rfl elemB _ m _ _ rfl HP1.out.1 _ s.size _ rfl (Src.ofString _ Tryd.underlying9 s) (by omega) (by unfold maxLen; omega) ?_; intro a2 c2 g2 w2 hA2 hO2 hG2; have HP3 := Lib.hid (put3 (news := ofStr s) HP1.out.2.2 HP1.out.2.1 (by rw [byteCells_eq] at hA2; exact hA2) hO2); clear hA2 hO2 hG2 HP1))
  have hzl : zs.length = m + s.size := by rw [HZY.out, List.length_append, HM.out, ofStr_len]
  go_ret
  exact ⟨a2, c2, by rw [hzl]; rfl, by rw [hzl, HZY.out]; exact HP3.out.1, HP3.out.2⟩
end Go.Proofs.YteaepgbakcifkaaDoor
