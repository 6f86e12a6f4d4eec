/- The functions that these laws reach, each as a Lean function, with the proof that the Go code comes to what it answers: for every input for which it answers. Text by a program for this claim. -/
import Derived.Test.YtfkbkcdiajjljaaProg
import Derived.Below
import Derived.Deep.Draws
import Derived.Deep.AppendLies
import Derived.Maps.AppendAt
import Derived.OwnWalk
import Derived.Laws.BytesArg
import Derived.Laws.MakeOwn
import Derived.Laws.OwnMore
import Derived.Deep.OwnRows
import Derived.Tactics
import Derived.Lib.ConvBytes
import Derived.Laws.Slices
import Derived.WalkKit
import Derived.KernelRfl
import Derived.RowKit3
import Derived.Deep.LoopGhost
import Derived.Deep.QuietTactic
import Derived.BigQuiet
import Derived.WideLaws
import Derived.Deep.DeepCutAuto
import Derived.Deep.CutBlock
import Derived.Deep.RegionHeld3
import Derived.Laws.Rows
import Derived.Lib.AppendStr
import Derived.ArgAppend
import Derived.Laws.IdiomCopy
import Derived.OrdersHeld
import Derived.Laws.BitsLemmas
import Derived.RowKit
import Derived.Test.YtfkbkcdiajjljaaWWords
import Derived.Test.YtfkbkcdiajjljaaWLast
import Derived.Test.YtfkbkcdiajjljaaWTab
import Derived.Test.YtfkbkcdiajjljaaWFour
import Derived.Test.YtfkbkcdiajjljaaWQPut
import Derived.Test.YtfkbkcdiajjljaaWApart
import Derived.Test.YtfkbkcdiajjljaaWArr
import Derived.Test.YtfkbkcdiajjljaaWZeros
import Derived.Test.YtfkbkcdiajjljaaWFoot
import Derived.Test.YtfkbkcdiajjljaaWKept
import Derived.Test.YtfkbkcdiajjljaaWShare
import Derived.Test.YtfkbkcdiajjljaaWN
import Derived.Test.YtfkbkcdiajjljaaWFootNe
import Derived.Test.YtfkbkcdiajjljaaWAt
import Derived.Test.YtfkbkcdiajjljaaWEqStruct
import Derived.Test.YtfkbkcdiajjljaaWRepsOne
import Derived.Test.YtfkbkcdiajjljaaWInv
import Derived.Test.YtfkbkcdiajjljaaWInvWords
import Derived.Test.YtfkbkcdiajjljaaWGuard
import Derived.Test.YtfkbkcdiajjljaaWNEv
import Derived.Test.YtfkbkcdiajjljaaWMore
namespace Go.Proofs.Ytfkbkcdiajjljaa.PA
open Go.RowKit Go.Proofs.YtfkbkcdiajjljaaW.PrintWords Go.Proofs.YtfkbkcdiajjljaaW.PrintLast Go.Proofs.YtfkbkcdiajjljaaW.PrintMore
attribute [local go_sem] max2_int min2_int max_two min_two max_three min_three max_four min_four   -- for this text's walks alone
set_option linter.unusedVariables false
set_option linter.unusedSimpArgs false



def errW : Option Int → Value
  | none => .nilIface
  | some c => .iface 0 (.int .i64 c)
theorem errW_none : errW none = .nilIface := rfl
theorem errW_some (c : Int) : errW (some c) = .iface 0 (.int .i64 c) := rfl

theorem info2 : (Try.prog.info? 2).map (fun i => (i.zero, i.size, i.bytes)) = some (some (.int .i64 0), 1, 8) := by kernel_rfl
-- the values' own types

end Go.Proofs.Ytfkbkcdiajjljaa.PA
