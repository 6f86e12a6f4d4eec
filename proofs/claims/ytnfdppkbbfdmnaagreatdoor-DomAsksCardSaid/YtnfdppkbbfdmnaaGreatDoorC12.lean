/- Parts of the laws of dom: functions of the program, each with the proof of what it answers; the conditions are those of each theorem. -/
import Derived.Test.YtnfdppkbbfdmnaaGreatDoorC11
import Derived.Lib.SplitLaws
namespace Go.Proofs.YtnfdppkbbfdmnaaGreatDoor.PD
open Go.RowKit Go.Proofs.YtnfdppkbbfdmnaaGreatDoorW.PrintWords Go.Proofs.YtnfdppkbbfdmnaaGreatDoorW.PrintLast Go.Proofs.YtnfdppkbbfdmnaaGreatDoorW.PrintMore
set_option linter.unusedVariables false
set_option linter.unusedSimpArgs false
/-! ### a text of parts, parted at its commas -/
end Go.Proofs.YtnfdppkbbfdmnaaGreatDoor.PD

namespace Go.Proofs.YtnfdppkbbfdmnaaGreatDoor.PD
open Go.RowKit Go.Proofs.YtnfdppkbbfdmnaaGreatDoorW.PrintWords Go.Proofs.YtnfdppkbbfdmnaaGreatDoorW.PrintLast Go.Proofs.YtnfdppkbbfdmnaaGreatDoorW.PrintMore
set_option linter.unusedVariables false
set_option linter.unusedSimpArgs false
/-! ### the bytes of a number -/
theorem digits_ok : ∀ (m : Nat), ∀ c ∈ Lib.decDigits m, 48 ≤ c.toNat ∧ c.toNat ≤ 57 := by
  intro m
  induction m using Nat.strongRecOn with
  | ind m ih =>
    intro c hc
    unfold Lib.decDigits at hc
    have hd : ∀ q, q < 10 → 48 ≤ (UInt8.ofNat (48 + q)).toNat ∧ (UInt8.ofNat (48 + q)).toNat ≤ 57 := by
      intro q hq
      rw [UInt8.toNat_ofNat']
      omega
    split at hc
    · rw [List.mem_singleton] at hc
      subst hc
      exact hd m (by assumption)
    · rw [List.mem_append, List.mem_singleton] at hc
      rcases hc with hc | rfl
      · exact ih (m / 10) (by omega) c hc
      · exact hd (m % 10) (by omega)
end Go.Proofs.YtnfdppkbbfdmnaaGreatDoor.PD

namespace Go.Proofs.YtnfdppkbbfdmnaaGreatDoor.PD
open Go.RowKit Go.Proofs.YtnfdppkbbfdmnaaGreatDoorW.PrintWords Go.Proofs.YtnfdppkbbfdmnaaGreatDoorW.PrintLast Go.Proofs.YtnfdppkbbfdmnaaGreatDoorW.PrintMore
set_option linter.unusedVariables false
set_option linter.unusedSimpArgs false
/-! ### the parts of a list's text -/
theorem textT_list {r : S57} {t : List S57} : (textT (r :: t)).data.toList = (rngT r).data.toList ++ Lib.joinTail [44] ((partsT t).map (·.data.toList)) := by
  have e : textT (r :: t) = rngT r ++ restT t := rfl
  rw [e, ByteArray.data_append, Array.toList_append, restT_list]
end Go.Proofs.YtnfdppkbbfdmnaaGreatDoor.PD
