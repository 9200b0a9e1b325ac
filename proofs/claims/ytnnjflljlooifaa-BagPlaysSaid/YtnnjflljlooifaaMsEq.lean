/- bytes.Equal. -/
import Derived.Test.YtnnjflljlooifaaTwo
import Derived.Test.YtnnjflljlooifaaStrs
set_option linter.unusedVariables false
set_option linter.unusedSimpArgs false
namespace Go.Proofs.Ytnnjflljlooifaa
open Go.RowKit
set_option maxHeartbeats 1000000 in
theorem bytes_equal (a : Option Addr) (n c : Nat) (b : Option Addr) (m d : Nat) (xs ys : List Int) (w : World) (hx : Sl .u8 w a n c xs) (hy : Sl .u8 w b m d ys) (ix : IsB xs) (iy : IsB ys) :
    Calls Try.prog 20 #[.slice a n c, .slice b m d] w fun e w' => e = .returned (.bool (decide (xs = ys))) ∧ w = w' := by
  have h1 := run_str (P := Try.prog) (w := w) 53 9 5 Try.underlying53 Try.underlying5 Try.underlying9 hx
  have h2 := run_str (P := Try.prog) (w := w) 53 9 5 Try.underlying53 Try.underlying5 Try.underlying9 hy
  have hd : decide (xs = ys) = ((strOf xs).toList == (strOf ys).toList) := by
    by_cases h : xs = ys
    · subst h; simp
    · rw [decide_eq_false h, str_ne (fun e => h (strOf_inj ix iy e))]
  rw [hd]
  clear hd
  generalize strOf xs = s at *
  generalize strOf ys = t at *
  go_enter Try.func20, Try.ntmps20
  go_wp2
  exact bodyPost_ret (v := .bool (s.toList == t.toList)) (by simp [results, Try.results20, go_sem]) rfl ⟨rfl, rfl⟩
end Go.Proofs.Ytnnjflljlooifaa
