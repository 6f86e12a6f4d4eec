/- A power of one more is the power times the number, where it is not beyond, and a square root of a square is the number's size: for every two whole numbers of 64 bits. -/
import Derived.Test.YtfkbkcdiajjljaaSpec2
namespace Go.Proofs.Ytfkbkcdiajjljaa.Pure
open Go.RowKit Go.Proofs.Ytfkbkcdiajjljaa.PA Go.Proofs.Ytfkbkcdiajjljaa.Spec Go.Proofs.YtfkbkcdiajjljaaW.PrintWords Go.Proofs.YtfkbkcdiajjljaaW.PrintLast

theorem isRoot_size {s : Int} (hs : fits (s * s)) : fits s → IsRoot (s * s) (s.natAbs : Int) := by
  intro hfs
  have e : (s.natAbs : Int) * (s.natAbs : Int) = s * s := by
    by_cases h : s < 0
    · rw [show (s.natAbs : Int) = -s by omega, Int.neg_mul_neg]
    · rw [show (s.natAbs : Int) = s by omega]
  have hle : (s.natAbs : Int) ≤ 3037000499 := by
    by_cases h : (s.natAbs : Int) ≤ 3037000499
    · exact h
    · have := sq_le (x := 3037000500) (y := (s.natAbs : Int)) (by omega) (by omega)
      unfold fits at hs
      omega
  refine ⟨by omega, hle, by omega, ?_⟩
  rw [← e]
  have h0 : (0 : Int) ≤ (s.natAbs : Int) := by omega
  generalize (s.natAbs : Int) = n at *
  rw [Int.add_mul, Int.mul_add]
  omega

theorem powers_j1 (a : Int) (ha : fits a) : Ev (fun k => jigsawlaw01_IntsPowers.j1 k a) true := by
  by_cases hf : fits (a * a)
  · have h0 : 0 ≤ a * a := by
      by_cases h : a < 0
      · exact Int.mul_nonneg_of_nonpos_of_nonpos (by omega) (by omega)
      · exact Int.mul_nonneg (by omega) (by omega)
    have hr := isRoot_size hf ha
    obtain ⟨r, hr2, hE⟩ := ints_Root.spec (a * a) h0 hf
    obtain rfl := root_one hr2 hr
    obtain ⟨K, hK⟩ : ∃ K, ∀ k, K ≤ k → ints_Root.f k (a * a) = some ((a.natAbs : Int), 0) := hE
    refine ⟨K + 1 + 1 + 1, fun k hk => ?_⟩
    obtain ⟨k, rfl⟩ : ∃ m, k = m + 1 + 1 + 1 := ⟨k - 3, by omega⟩
    simp only [jigsawlaw01_IntsPowers.j1]
    rw [ints_Mul.spec _ _ _ ha ha, reck_pos hf]
    simp only [Option.bind_some, if_true]
    rw [hK _ (by omega), ints_Abs.spec _ _ ha, reck_pos (by unfold fits; have := hr.2.1; omega)]
    simp only [Option.bind_some, if_true, known]
  · refine ⟨3, fun k hk => ?_⟩
    obtain ⟨k, rfl⟩ : ∃ m, k = m + 1 + 1 + 1 := ⟨k - 3, by omega⟩
    simp only [jigsawlaw01_IntsPowers.j1]
    rw [ints_Mul.spec _ _ _ ha ha, reck_neg hf]
    simp only [Option.bind_some, known]
    simp

theorem IntsPowers : jigsawlaw01_IntsPowers.Pure := by
  intro a b wa wb
  have ha := fits_of_wf wa
  have hb := fits_of_wf wb
  obtain ⟨K, hK⟩ : ∃ K, ∀ k, K ≤ k → jigsawlaw01_IntsPowers.j1 k a = some true := powers_j1 a ha
  refine ⟨K + 1 + 1 + 1, ?_⟩
  have hj0 : ∀ x : Bool, (x = true → 0 ≤ b ∧ b < 200) → jigsawlaw01_IntsPowers.j0 (K + 1 + 1 + 1) a b x = some true := by
    intro x hx
    simp only [jigsawlaw01_IntsPowers.j0]
    cases x
    · rw [if_neg (by simp)]; exact hK _ (by omega)
    · obtain ⟨h1, h2⟩ := hx rfl
      have e1 : wrap64 (b + 1) = b + 1 := IntWalk.wrap64_in _ (by omega)
      have hfb : fits (b + 1) := by unfold fits; omega
      have en : (b + 1).toNat = b.toNat + 1 := by omega
      rw [if_pos rfl, e1, ints_Pow.spec a b ha hb, ints_Pow.spec a (b + 1) ha hfb, powS_nonneg a b h1, powS_nonneg a (b + 1) (by omega), en]
      simp only [Option.bind_some]
      rw [ints_Mul.spec _ _ _ (reck_fits _) ha]
      simp only [Option.bind_some]
      by_cases hf : fits (a ^ b.toNat)
      · rw [reck_pos hf, if_pos rfl, ← Int.pow_succ, if_pos rfl, if_pos rfl]
        exact hK _ (by omega)
      · have hf2 : ¬ fits (a ^ (b.toNat + 1)) := beyond_up (big_of_beyond ha hf) (by omega) hf
        rw [reck_neg hf, reck_neg hf2, if_neg (by decide), if_neg (by decide)]
        exact hK _ (by omega)
  unfold jigsawlaw01_IntsPowers.f
  by_cases h : b ≥ 0
  · rw [if_pos h]
    exact hj0 _ (fun x => ⟨h, of_decide_eq_true x⟩)
  · rw [if_neg h]
    exact hj0 _ (fun x => by cases x)
end Go.Proofs.Ytfkbkcdiajjljaa.Pure
