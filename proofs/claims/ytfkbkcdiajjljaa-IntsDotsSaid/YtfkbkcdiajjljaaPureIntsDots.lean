/- The plain law of IntsDots: every list of whole numbers of 64 bits that the world holds fits. -/
import Derived.Test.YtfkbkcdiajjljaaPDx5
namespace Go.Proofs.Ytfkbkcdiajjljaa.Pure
open Go.RowKit Go.Proofs.Ytfkbkcdiajjljaa.PA Go.Proofs.Ytfkbkcdiajjljaa.PD Go.Proofs.Ytfkbkcdiajjljaa.Spec Go.Proofs.YtfkbkcdiajjljaaW.PrintWords Go.Proofs.YtfkbkcdiajjljaaW.PrintLast
theorem all_fit {l : List Int} (h : ∀ x ∈ l, (Lit.int .i64 x).wf = true) : allFit l = true := by
  unfold allFit
  rw [List.all_eq_true]
  exact fun x hx => decide_eq_true (fits_of_wf (h x hx))
theorem IntsDots : jigsawlaw01_IntsDots.Pure := by
  intro l0 l1 a2 _ m0 w0 _ m1 w1 wa
  unfold jigsawlaw01_IntsDots.f
  rw [if_pos ⟨by omega, by omega, all_fit w0, all_fit w1, fits_of_wf wa⟩]
end Go.Proofs.Ytfkbkcdiajjljaa.Pure
