/- Parts of the laws of dom: functions of the program, each with the proof of what it answers; the conditions are those of each theorem. -/
import Derived.Test.YtnfdppkbbfdmnaaGreatDoorC12
import Derived.RangeFuncNested
import Derived.RangeFuncBound
import Derived.RangeFuncCalls
import Derived.RangeFuncLeaves
import Derived.Shelf.Abstract
import Derived.Shelf.RegionOpen
import Derived.OwnWalkIn
import Derived.TacticsInMore
import Derived.LoopNIn
import Derived.LoopIn
namespace Go.Proofs.YtnfdppkbbfdmnaaGreatDoor.PD
open Go.RowKit Go.Proofs.YtnfdppkbbfdmnaaGreatDoorW.PrintWords Go.Proofs.YtnfdppkbbfdmnaaGreatDoorW.PrintLast Go.Proofs.YtnfdppkbbfdmnaaGreatDoorW.PrintMore
set_option linter.unusedVariables false
set_option linter.unusedSimpArgs false
/-! ### the iterator of Each -/
attribute [local go_sem] Oper.semAt_some
end Go.Proofs.YtnfdppkbbfdmnaaGreatDoor.PD

namespace Go.Proofs.YtnfdppkbbfdmnaaGreatDoor.PD
open Go.RowKit Go.Proofs.YtnfdppkbbfdmnaaGreatDoorW.PrintWords Go.Proofs.YtnfdppkbbfdmnaaGreatDoorW.PrintLast Go.Proofs.YtnfdppkbbfdmnaaGreatDoorW.PrintMore
set_option linter.unusedVariables false
set_option linter.unusedSimpArgs false
/-! ### the fixed calls -/
theorem kn1 : normS (points [5, 1, 2, 2]) = ([⟨1, 2⟩, ⟨5, 5⟩], 0) := by rfl
theorem kn2 : spanS 1 9 = ([⟨1, 9⟩], 0) := by rfl
theorem kn3 : takenL [⟨1, 9⟩] = ([⟨1, 9⟩] : List S57) := by rfl
theorem kn4 : restL (-1000000) (takenL [⟨3, 5⟩]) = ([⟨-1000000, 2⟩, ⟨6, 1000000⟩] : List S57) := by rfl
theorem kn6 : nextL (takenL [⟨1, 2⟩, ⟨7, 9⟩]) 3 = (7, true) := by rfl
theorem kn5 : bothL (takenL [⟨1, 9⟩]) [⟨-1000000, 2⟩, ⟨6, 1000000⟩] = ([⟨1, 2⟩, ⟨6, 9⟩] : List S57) := by
  simp [kn3, bothL, some1]
  rfl
theorem decB_small (n : Nat) (h : n < 10) : decB (n : Nat) = ⟨#[UInt8.ofNat (48 + n)]⟩ := by
  unfold decB Lib.itoa
  rw [if_neg (by omega)]
  have : Lib.decDigits ((n : Nat) : Int).toNat = [UInt8.ofNat (48 + n)] := by
    rw [Int.toNat_natCast]
    unfold Lib.decDigits
    rw [dif_pos h]
  rw [this]
theorem kn7 : textT [⟨1, 2⟩, ⟨5, 5⟩] = ⟨#[49, 46, 46, 50, 44, 53]⟩ := by
  have e1 := decB_small 1 (by omega)
  have e2 := decB_small 2 (by omega)
  have e5 := decB_small 5 (by omega)
  show rngT ⟨1, 2⟩ ++ (⟨#[44]⟩ ++ rngT ⟨5, 5⟩ ++ ⟨#[]⟩) = _
  unfold rngT
  rw [if_pos (by decide), if_neg (by decide)]
  show decB ((1 : Nat) : Int) ++ (⟨#[46, 46]⟩ ++ decB ((2 : Nat) : Int)) ++ (⟨#[44]⟩ ++ decB ((5 : Nat) : Int) ++ ⟨#[]⟩) = _
  rw [e1, e2, e5]
  rfl
theorem kn8 : textT [⟨1, 2⟩, ⟨6, 9⟩] = ⟨#[49, 46, 46, 50, 44, 54, 46, 46, 57]⟩ := by
  have e1 := decB_small 1 (by omega)
  have e2 := decB_small 2 (by omega)
  have e6 := decB_small 6 (by omega)
  have e9 := decB_small 9 (by omega)
  show rngT ⟨1, 2⟩ ++ (⟨#[44]⟩ ++ rngT ⟨6, 9⟩ ++ ⟨#[]⟩) = _
  unfold rngT
  rw [if_pos (by decide), if_pos (by decide)]
  show decB ((1 : Nat) : Int) ++ (⟨#[46, 46]⟩ ++ decB ((2 : Nat) : Int)) ++ (⟨#[44]⟩ ++ (decB ((6 : Nat) : Int) ++ (⟨#[46, 46]⟩ ++ decB ((9 : Nat) : Int))) ++ ⟨#[]⟩) = _
  rw [e1, e2, e6, e9]
  rfl

end Go.Proofs.YtnfdppkbbfdmnaaGreatDoor.PD
