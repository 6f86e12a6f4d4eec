/- Quotients and remainders of any whole numbers of 64 bits, towards 0, down and up, are right, or told. -/
import Derived.Test.YtfkbkcdiajjljaaSpec2
namespace Go.Proofs.Ytfkbkcdiajjljaa.Pure
open Go.RowKit Go.Proofs.Ytfkbkcdiajjljaa.PA Go.Proofs.Ytfkbkcdiajjljaa.Spec Go.Proofs.YtfkbkcdiajjljaaW.PrintWords Go.Proofs.YtfkbkcdiajjljaaW.PrintLast

theorem IntsDivides : jigsawlaw01_IntsDivides.Pure := by
  intro a b wa wb
  have ha := fits_of_wf wa
  have hb := fits_of_wf wb
  refine ⟨0 + 1, ?_⟩
  unfold jigsawlaw01_IntsDivides.f
  rw [ints_Div.spec 0 a b ha hb, refDiv.spec a b ha hb, ints_Mod.spec 0 a b ha hb, refMod.spec a b ha hb, ints_Floor.spec 0 a b ha hb, refFloor.spec a b ha hb, ints_Ceil.spec 0 a b ha hb, refCeil.spec a b ha hb, known 0]
  simp only [Option.bind_some, if_true]
end Go.Proofs.Ytfkbkcdiajjljaa.Pure
