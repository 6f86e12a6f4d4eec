/- Parts of the laws of bits: functions of the program, each with the proof of what it answers; the conditions are those of each theorem. -/
import Derived.Test.YtfkbkcdiajjljaaDoorBx
namespace Go.Proofs.YtfkbkcdiajjljaaDoor.PBitsSteps
open Go.RowKit Go.Proofs.YtfkbkcdiajjljaaDoorW.PrintWords Go.Proofs.YtfkbkcdiajjljaaDoorW.PrintLast Go.Proofs.YtfkbkcdiajjljaaDoorW.PrintMore
set_option linter.unusedVariables false
set_option linter.unusedSimpArgs false
theorem same_world (w : World) (p : Value) (nq : Nat) : ∀ W, (((w.alloc (Obj.cells #[p] 23)).alloc (Obj.cells #[Value.bool false] 4)).drewN nq).setCell ⟨w.heap.size + 1, 0, none⟩ (Value.bool false) = W → W.cell? ⟨w.heap.size + 1, 0, none⟩ = some (.bool false) ∧ Below w.heap.size w W := by
  rintro W rfl
  constructor
  · have := Boxed.new (w.alloc (.cells #[p] 23)) 4 (.bool false)
    rw [World.size_alloc] at this
    exact ((show Boxed (((w.alloc (Obj.cells #[p] 23)).alloc (Obj.cells #[Value.bool false] 4)).drewN nq) (w.heap.size + 1) 4 (.bool false) from this).set (.bool false)).cell
  · exact (pw_below_drewN (((Below.refl _ _).alloc (Nat.le_refl _) _).alloc (by simp) _) nq).setCell (p := ⟨w.heap.size + 1, 0, none⟩) (by show w.heap.size ≤ w.heap.size + 1; omega) _
set_option maxHeartbeats 4000000 in
theorem same_nil_l (p : Value) (hp : p.oneCell' = true) (w : World) : Calls Tryd.prog 26 #[.pointer none, p] w fun e w' => e = .returned (.bool false) ∧ Below w.heap.size w w' := by
  go_enter Tryd.func26, Tryd.ntmps26
  go_wp2_with fail
  go_quiet (fail)
  go_wp2_with fail
  generalize hW : World.setCell _ _ (Value.bool false) = W
  obtain ⟨c, hb⟩ := same_world w p nq W hW
  clear hW
  refine ⟨rfl, .bool false, ?_, rfl, hb⟩
  simp [results, Tryd.results26, go_sem, c]
set_option maxHeartbeats 4000000 in
theorem same_nil_r (g : Nat) (w : World) : Calls Tryd.prog 26 #[setP g, .pointer none] w fun e w' => e = .returned (.bool false) ∧ Below w.heap.size w w' := by
  have U : setP g = .pointer (some ⟨g, 0, none⟩) := rfl
  rw [U]
  go_enter Tryd.func26, Tryd.ntmps26
  go_wp2_with fail
  go_quiet (fail)
  go_wp2_with fail
  generalize hW : World.setCell _ _ (Value.bool false) = W
  obtain ⟨c, hb⟩ := same_world w _ nq W hW
  clear hW
  refine ⟨rfl, .bool false, ?_, rfl, hb⟩
  simp [results, Tryd.results26, go_sem, c]

end Go.Proofs.YtfkbkcdiajjljaaDoor.PBitsSteps
