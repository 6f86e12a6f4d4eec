/- What was added is taken away again, and what was multiplied is divided again, where nothing was beyond: for every two numbers of 64 bits. -/
import Derived.Test.YtfkbkcdiajjljaaSpec
namespace Go.Proofs.Ytfkbkcdiajjljaa.Pure
open Go.RowKit Go.Proofs.Ytfkbkcdiajjljaa.PA Go.Proofs.Ytfkbkcdiajjljaa.Spec Go.Proofs.YtfkbkcdiajjljaaW.PrintWords Go.Proofs.YtfkbkcdiajjljaaW.PrintLast

theorem back_j4 (k : Nat) (b p g : Int) (x : Bool) (h : x = true → p = -9223372036854775808 ∧ b = -1 ∧ g = 10) : jigsawlaw01_IntsBack.j4 (k + 1 + 1) b p g x = some true := by
  simp only [jigsawlaw01_IntsBack.j4]
  cases x
  · simp [known]
  · obtain ⟨rfl, rfl, rfl⟩ := h rfl
    simp [known]

theorem back_j3 (k : Nat) (a b : Int) (ha : fits a) (hb : fits b) (hf : fits (a * b)) : jigsawlaw01_IntsBack.j3 (k + 1 + 1 + 1) a b (a * b) (b != 0) = some true := by
  simp only [jigsawlaw01_IntsBack.j3]
  by_cases h : b = 0
  · simp [h, known]
  · have hn : (b != 0) = true := by rw [bne_iff_ne]; exact h
    rw [hn, if_pos rfl, ints_Div.spec _ _ _ hf hb]
    simp only [Option.bind_some]
    unfold divS
    rw [if_neg h, Int.mul_tdiv_cancel a h, reck_pos ha, if_pos rfl]
    exact back_j4 k _ _ _ _ (fun hx => absurd rfl (bne_iff_ne.1 hx))

theorem back_j3' (k : Nat) (a b : Int) (p : Int) : jigsawlaw01_IntsBack.j3 (k + 1 + 1) a b p false = some true := by
  simp only [jigsawlaw01_IntsBack.j3]
  simp [known]

theorem back_j1 (k : Nat) (a b : Int) (ha : fits a) (hb : fits b) : jigsawlaw01_IntsBack.j1 (k + 1 + 1 + 1 + 1 + 1) a b = some true := by
  simp only [jigsawlaw01_IntsBack.j1]
  rw [ints_Mul.spec _ _ _ ha hb, ints_Mul.spec _ _ _ hb ha, Int.mul_comm b a]
  simp only [Option.bind_some, if_true]
  simp only [jigsawlaw01_IntsBack.j2]
  rw [if_neg (by simp)]
  by_cases hf : fits (a * b)
  · rw [reck_pos hf, if_pos rfl]
    exact back_j3 k a b ha hb hf
  · rw [reck_neg hf, if_neg (by decide)]
    exact back_j3' (k + 1) a b _

theorem IntsBack : jigsawlaw01_IntsBack.Pure := by
  intro a b wa wb
  have ha := fits_of_wf wa
  have hb := fits_of_wf wb
  refine ⟨0 + 1 + 1 + 1 + 1 + 1 + 1, ?_⟩
  unfold jigsawlaw01_IntsBack.f
  rw [ints_Add.spec a b ha hb, ints_Add.spec b a hb ha, Int.add_comm b a]
  simp only [Option.bind_some, if_true]
  simp only [jigsawlaw01_IntsBack.j0]
  rw [if_neg (by simp)]
  by_cases hf : fits (a + b)
  · rw [reck_pos hf, if_pos rfl, ints_Sub.spec _ _ hf hb, Int.add_sub_cancel, reck_pos ha]
    simp only [Option.bind_some, if_true]
    exact back_j1 0 a b ha hb
  · rw [reck_neg hf, if_neg (by decide)]
    exact back_j1 0 a b ha hb
end Go.Proofs.Ytfkbkcdiajjljaa.Pure
