/- MsgSame, whatever it is given. -/
import Derived.Test.YtpojncpblkklgaaMsgSameWalk
import Derived.Test.YtpojncpblkklgaaMsTy
set_option linter.unusedVariables false
set_option linter.unusedSimpArgs false
namespace Go.Proofs.Ytpojncpblkklgaa
open Go.RowKit
theorem msgSame_law (v0 v1 : Value) (x0 x1 : TyMsg.den) (w : World) (w0 : RepV w TyMsg v0 x0) (w1 : RepV w TyMsg v1 x1) :
    Calls Try.prog 4 #[v0, v1] w fun e w' => e = .returned (.bool true) ∧ Below w.heap.size w w' := by
  obtain ⟨m, R, L, T, rfl, hQ, hB, hz, hT, hW⟩ := repV_msg w0
  obtain ⟨m', R', L', T', rfl, hQ', hB', hz', hT', hW'⟩ := repV_msg w1
  exact msgSame_walk m.k m.f m.t m.e m.o m.p m.te m.la m.ln m.lc m.ta m.tn m.tc L T m'.k m'.f m'.t m'.e m'.o m'.p m'.te m'.la m'.ln m'.lc m'.ta m'.tn m'.tc L' T' w ⟨R, hQ, hB, hT⟩ ⟨R', hQ', hB', hT'⟩ hz hz' hW hW'
end Go.Proofs.Ytpojncpblkklgaa
