/- Events, plainly: what is read. -/
import Derived.Test.YteaepgbakcifkaaDoorEvM2
set_option linter.unusedVariables false
set_option linter.unusedSimpArgs false
namespace Go.Proofs.YteaepgbakcifkaaDoor
open Go.RowKit
/-- a field, read -/
def gtF (p : EV × St) (c : UInt8) : EV × St :=
  if c = 82 then ({ p.1 with r := (stSmall 64 p.2).1 }, (stSmall 64 p.2).2) else if c = 84 then ({ p.1 with t := (stSmall 16 p.2).1 }, (stSmall 16 p.2).2) else if c = 89 then ({ p.1 with y := (stSmall 9 p.2).1 }, (stSmall 9 p.2).2)
  else if c = 78 then ({ p.1 with n := min (stU p.2).1 1099511627777 }, (stU p.2).2) else if c = 77 then ({ p.1 with nm := strOf (stS 16 p.2).1 }, (stS 16 p.2).2) else if c = 75 then ({ p.1 with ky := strOf (stS 16 p.2).1 }, (stS 16 p.2).2)
  else if c = 68 then ({ p.1 with dt := strOf (stS 900 p.2).1 }, (stS 900 p.2).2) else p
def getK (zs : List Int) : Int := (stSmall 9 (zs, false)).1
def getL (zs : List Int) (l : List UInt8) : EV × St := l.foldl gtF (kindE (getK zs), (stSmall 9 (zs, false)).2)
def getP (zs : List Int) : EV × St := getL zs (flds (getK zs))
def getOk (zs : List Int) : Bool := (!(getP zs).2.2 && (getP zs).2.1.isEmpty) && goodE (getP zs).1
def getE (zs : List Int) : EV × Int := if getOk zs = true then ((getP zs).1, 0) else (kindE 0, 2)
theorem getL_succ (zs : List Int) (l : List UInt8) (i : Nat) (h : i < l.length) : getL zs (l.take (i + 1)) = gtF (getL zs (l.take i)) (l[i]'h) := by
  unfold getL
  rw [List.take_succ_eq_append_getElem h, List.foldl_append]
  rfl
end Go.Proofs.YteaepgbakcifkaaDoor
