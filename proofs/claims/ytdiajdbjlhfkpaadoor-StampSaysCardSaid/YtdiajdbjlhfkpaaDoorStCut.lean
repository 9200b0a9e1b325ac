/- Stamps' texts: Cut at a dot. -/
import Derived.Test.YtdiajdbjlhfkpaaDoorStStr
import Derived.Lib.CutLaws
import Derived.Laws.Strings3
set_option linter.unusedVariables false
set_option linter.unusedSimpArgs false
namespace Go.Proofs.YtdiajdbjlhfkpaaDoor
open Go.RowKit
theorem ixB (l : List UInt8) (c : UInt8) : Lib.indexByte l c = Lib.index l [c] := by
  induction l with
  | nil => rfl
  | cons b l ih =>
    show (if (b == c) = true then (0 : Int) else if (Lib.indexByte l c == -1) = true then -1 else Lib.indexByte l c + 1) = (if ([c] : List UInt8).isPrefixOf (b :: l) = true then (0 : Int) else if (Lib.index l [c] == -1) = true then -1 else Lib.index l [c] + 1)
    rw [ih]
    have : ((b == c) = true) ↔ (([c] : List UInt8).isPrefixOf (b :: l) = true) := by
      simp only [List.isPrefixOf, Bool.and_true, beq_iff_eq]
      exact eq_comm
    by_cases h : b == c
    · rw [if_pos h, if_pos (this.1 h)]
    · rw [if_neg h, if_neg (fun k => h (this.2 k))]
set_option maxRecDepth 100000 in
set_option maxHeartbeats 4000000 in
theorem st_cutl (s : ByteArray) (hs : s.size ≤ 281474976710656) (w : World) : Calls Tryd.prog 38 #[.string s, .string ⟨#[46]⟩] w fun e w' => e = .returned (.tuple #[.string ⟨(Lib.cut s.data.toList [46]).1.toArray⟩, .string ⟨(Lib.cut s.data.toList [46]).2.1.toArray⟩, .bool (Lib.cut s.data.toList [46]).2.2]) ∧ Kept w w' := by
  have HI := Lib.hid (Any.stringslite_Index_one idxL s 46)
  rw [ixB] at HI
  rcases Lib.indexB_cases s ⟨#[46]⟩ with hix | ⟨i, hix, hroom⟩
  · obtain ⟨e1, e2, e3⟩ := Lib.cutB_miss s ⟨#[46]⟩ hix
    have e1 : (⟨(Lib.cut s.data.toList [46]).1.toArray⟩ : ByteArray) = s := e1
    have e2 : (⟨(Lib.cut s.data.toList [46]).2.1.toArray⟩ : ByteArray) = ⟨#[]⟩ := e2
    have e3 : (Lib.cut s.data.toList [46]).2.2 = false := e3
    rw [e1, e2, e3]
    rw [show Lib.index s.data.toList [46] = -1 from hix] at HI
    clear e1 e2 e3 hix
    go_enter Tryd.func38, Tryd.ntmps38
    go_wp2_with fail
    refine (HI.out _).mono ?_
    rintro e w' ⟨rfl, rfl⟩
    go_wp2_with fail
    exact bodyPost_ret (v := .tuple #[.string s, .string ⟨#[]⟩, .bool false]) (by simp [results, Tryd.results38, go_sem]) rfl ⟨rfl, by (unfold Kept; repeat (first | exact Below.refl _ _ | assumption | (refine Below.alloc ?_ (by simp) _) | (refine Below.setCell ?_ (by simp) _) | (refine Below.drew ?_) | (refine below_drewN ?_ _)))⟩
  · obtain ⟨e1, e2, e3⟩ := Lib.cutB_hit s ⟨#[46]⟩ i hix
    have e1 : (⟨(Lib.cut s.data.toList [46]).1.toArray⟩ : ByteArray) = s.extract 0 i := e1
    have e2 : (⟨(Lib.cut s.data.toList [46]).2.1.toArray⟩ : ByteArray) = s.extract (i + 1) s.size := e2
    have e3 : (Lib.cut s.data.toList [46]).2.2 = true := e3
    have hroom : i + 1 ≤ s.size := hroom
    rw [e1, e2, e3]
    rw [show Lib.index s.data.toList [46] = i from hix] at HI
    clear e1 e2 e3 hix
    have c1 : (0 : Int) ≤ ↑i := by omega
    have c2 : (↑i : Int) ≤ ↑s.size := by omega
    have c3 : (0 : Int) ≤ ↑i + 1 := by omega
    have c4 : (↑i + 1 : Int) ≤ ↑s.size := by omega
    have hW : IntKind.i64.wrap ((i : Int) + ((⟨#[46]⟩ : ByteArray).size : Nat)) = (i : Int) + 1 := by
      show IntKind.i64.wrap ((i : Int) + ((1 : Nat) : Int)) = _
      rw [Int.natCast_one]
      exact IntWalk.i64_in _ (by omega)
    have hW2 : ((i : Int) + 1).toNat = i + 1 := by omega
    have hW3 : (i : Int).toNat = i := by omega
    go_enter Tryd.func38, Tryd.ntmps38
    go_wp2_with fail
    refine (HI.out _).mono ?_
    rintro e w' ⟨rfl, rfl⟩
    go_wp2_with fail
    go_quiet (fail)
    go_wp2_with fail
    exact bodyPost_ret (v := .tuple #[.string (s.extract 0 i), .string (s.extract (i + 1) s.size), .bool true]) (by simp [results, Tryd.results38, go_sem]) rfl ⟨rfl, by (unfold Kept; repeat (first | exact Below.refl _ _ | assumption | (refine Below.alloc ?_ (by simp) _) | (refine Below.setCell ?_ (by simp) _) | (refine Below.drew ?_) | (refine below_drewN ?_ _)))⟩
set_option maxRecDepth 100000 in
set_option maxHeartbeats 4000000 in
theorem st_cut (s : ByteArray) (hs : s.size ≤ 281474976710656) (w : World) : Calls Tryd.prog 32 #[.string s, .string ⟨#[46]⟩] w fun e w' => e = .returned (.tuple #[.string ⟨(Lib.cut s.data.toList [46]).1.toArray⟩, .string ⟨(Lib.cut s.data.toList [46]).2.1.toArray⟩, .bool (Lib.cut s.data.toList [46]).2.2]) ∧ Kept w w' := by
  have HC := Lib.hid (st_cutl s hs)
  generalize (Lib.cut s.data.toList [46]).2.2 = f at HC ⊢
  generalize (⟨(Lib.cut s.data.toList [46]).2.1.toArray⟩ : ByteArray) = b at HC ⊢
  generalize (⟨(Lib.cut s.data.toList [46]).1.toArray⟩ : ByteArray) = a at HC ⊢
  go_enter Tryd.func32, Tryd.ntmps32
  go_wp2_with fail
  refine (HC.out _).mono ?_
  rintro e w' ⟨rfl, hK⟩
  have HK := Lib.hid hK
  clear hK HC
  go_wp2_with fail
  exact bodyPost_ret (v := .tuple #[.string a, .string b, .bool f]) (by simp [results, Tryd.results32, go_sem]) rfl ⟨rfl, HK.out⟩
end Go.Proofs.YtdiajdbjlhfkpaaDoor
