/- What the functions of package ints answer, as plain functions on whole numbers: for every number of 64 bits. -/
import Derived.Test.YtfkbkcdiajjljaaPAx3
set_option linter.unusedVariables false
set_option linter.unusedSimpArgs false
namespace Go.Proofs.Ytfkbkcdiajjljaa.Spec
open Go.RowKit Go.Proofs.Ytfkbkcdiajjljaa.PA Go.Proofs.YtfkbkcdiajjljaaW.PrintWords

theorem fits_of_wf {a : Int} (h : (Lit.int .i64 a).wf = true) : fits a := by
  simp only [Lit.wf, Bool.and_eq_true, decide_eq_true_eq] at h
  exact h
theorem reck_pos {x : Int} (h : fits x) : reck x = (x, 0) := by unfold reck; rw [if_pos h]
theorem reck_neg {x : Int} (h : ¬ fits x) : reck x = (0, 10) := by unfold reck; rw [if_neg h]
theorem reck_fits (x : Int) : fits (reck x).1 := by
  by_cases h : fits x
  · rw [reck_pos h]; exact h
  · rw [reck_neg h]; unfold fits; decide

theorem ints_Add.spec (a b : Int) (ha : fits a) (hb : fits b) : ints_Add.f a b = some (reck (a + b)) := by
  unfold fits at ha hb
  by_cases h : fits (a + b)
  · rw [reck_pos h]
    unfold fits at h
    unfold ints_Add.f wrap64
    repeat' split
    all_goals (first | omega | (refine congrArg some (Prod.ext ?_ rfl); show _ = a + b; omega))
  · rw [reck_neg h]
    unfold fits at h
    unfold ints_Add.f wrap64
    repeat' split
    all_goals (first | rfl | omega)

theorem ints_Sub.spec (a b : Int) (ha : fits a) (hb : fits b) : ints_Sub.f a b = some (reck (a - b)) := by
  unfold fits at ha hb
  by_cases h : fits (a - b)
  · rw [reck_pos h]
    unfold fits at h
    unfold ints_Sub.f wrap64
    repeat' split
    all_goals (first | omega | (refine congrArg some (Prod.ext ?_ rfl); show _ = a - b; omega))
  · rw [reck_neg h]
    unfold fits at h
    unfold ints_Sub.f wrap64
    repeat' split
    all_goals (first | rfl | omega)

theorem tdiv_abs (a b : Int) : a.tdiv b = if ((decide (a < 0)) != (decide (b < 0))) = true then -((a.natAbs : Int) / (b.natAbs : Int)) else (a.natAbs : Int) / (b.natAbs : Int) := by
  by_cases ha : a < 0 <;> by_cases hb : b < 0
  · rw [decide_eq_true ha, decide_eq_true hb, show (a.natAbs : Int) = -a by omega, show (b.natAbs : Int) = -b by omega, ← Int.tdiv_eq_ediv_of_nonneg (by omega)]
    simp [Int.neg_tdiv, Int.tdiv_neg]
  · rw [decide_eq_true ha, decide_eq_false hb, show (a.natAbs : Int) = -a by omega, show (b.natAbs : Int) = b by omega, ← Int.tdiv_eq_ediv_of_nonneg (by omega)]
    simp [Int.neg_tdiv]
  · rw [decide_eq_false ha, decide_eq_true hb, show (a.natAbs : Int) = a by omega, show (b.natAbs : Int) = -b by omega, ← Int.tdiv_eq_ediv_of_nonneg (by omega)]
    simp [Int.tdiv_neg]
  · rw [decide_eq_false ha, decide_eq_false hb, show (a.natAbs : Int) = a by omega, show (b.natAbs : Int) = b by omega, ← Int.tdiv_eq_ediv_of_nonneg (by omega)]
    simp
theorem tmod_abs (a b : Int) : a.tmod b = if a < 0 then -((a.natAbs : Int) % (b.natAbs : Int)) else (a.natAbs : Int) % (b.natAbs : Int) := by
  have e : ∀ x : Int, x % (b.natAbs : Int) = x % b := fun x => by
    by_cases hb : b < 0
    · rw [show (b.natAbs : Int) = -b by omega, Int.emod_neg]
    · rw [show (b.natAbs : Int) = b by omega]
  rw [e]
  by_cases ha : a < 0
  · rw [if_pos ha, show (a.natAbs : Int) = -a by omega, ← Int.tmod_eq_emod_of_nonneg (by omega)]
    simp [Int.neg_tmod]
  · rw [if_neg ha, show (a.natAbs : Int) = a by omega, ← Int.tmod_eq_emod_of_nonneg (by omega)]

def divS (a b : Int) : Int × Int := if b = 0 then (0, 11) else reck (a.tdiv b)
def modS (a b : Int) : Int × Int := if b = 0 then (0, 11) else (a.tmod b, 0)
def floorS (a b : Int) : Int × Int := if b = 0 then (0, 11) else if fits (a.tdiv b) then (if a.tmod b ≠ 0 ∧ ((decide (a < 0)) != (decide (b < 0))) = true then a.tdiv b - 1 else a.tdiv b, 0) else (0, 10)
def ceilS (a b : Int) : Int × Int := if b = 0 then (0, 11) else if fits (a.tdiv b) then (if a.tmod b ≠ 0 ∧ ((decide (a < 0)) == (decide (b < 0))) = true then a.tdiv b + 1 else a.tdiv b, 0) else (0, 10)

theorem div_le_abs (a b : Int) : (0 : Int) ≤ (a.natAbs : Int) / (b.natAbs : Int) ∧ (a.natAbs : Int) / (b.natAbs : Int) ≤ (a.natAbs : Int) :=
  ⟨Int.ediv_nonneg (by omega) (by omega), Int.ediv_le_self _ (by omega)⟩
theorem mod_abs (a b : Int) (hb : b ≠ 0) : (0 : Int) ≤ (a.natAbs : Int) % (b.natAbs : Int) ∧ (a.natAbs : Int) % (b.natAbs : Int) < (b.natAbs : Int) ∧ (a.natAbs : Int) % (b.natAbs : Int) ≤ (a.natAbs : Int) :=
  ⟨Int.emod_nonneg _ (by omega), Int.emod_lt_of_pos _ (by omega), by
    have := Int.emod_lt_of_pos (a.natAbs : Int) (show (0 : Int) < (b.natAbs : Int) by omega)
    have h2 := Int.emod_add_mul_ediv (a.natAbs : Int) (b.natAbs : Int)
    have h3 : (0 : Int) ≤ (b.natAbs : Int) * ((a.natAbs : Int) / (b.natAbs : Int)) := Int.mul_nonneg (by omega) (div_le_abs a b).1
    omega⟩

theorem ints_Div.spec (k : Nat) (a b : Int) (ha : fits a) (hb : fits b) : ints_Div.f (k + 1) a b = some (divS a b) := by
  unfold ints_Div.f divS
  by_cases h : b = 0
  · rw [if_pos h, if_pos h]
  · rw [if_neg h, if_neg h, ints_size.spec a ha, ints_size.spec b hb]
    simp only [Option.bind_some]
    rw [if_neg (by omega)]
    have h1 := div_le_abs a b
    have h2 := natAbs_range a ha
    rw [Int.tdiv_eq_ediv_of_nonneg (by omega), IntWalk.u64_in _ (by omega), ints_signed.spec k _ _ h1.1 (by omega), ← tdiv_abs]
    rfl

theorem tmod_fits (a b : Int) (ha : fits a) (h : b ≠ 0) : fits (a.tmod b) := by
  rw [tmod_abs]
  have h1 := mod_abs a b h
  unfold fits at *
  split <;> omega

theorem tmod_zero_abs (a b : Int) : (a.natAbs : Int) % (b.natAbs : Int) = 0 ↔ a.tmod b = 0 := by
  rw [tmod_abs]; split <;> omega

theorem half_of_rest (a b : Int) (ha : fits a) (h : b ≠ 0) (hm : a.tmod b ≠ 0) : -4611686018427387904 ≤ a.tdiv b ∧ a.tdiv b ≤ 4611686018427387904 := by
  have hb2 : (2 : Int) ≤ (b.natAbs : Int) := by
    by_cases e : b.natAbs = 1
    · exfalso
      apply hm
      rw [← tmod_zero_abs, e]
      omega
    · omega
  have h1 : (a.natAbs : Int) / (b.natAbs : Int) ≤ (a.natAbs : Int) / 2 := by
    rw [Int.le_ediv_iff_mul_le (by omega)]
    have h2 := Int.emod_add_mul_ediv (a.natAbs : Int) (b.natAbs : Int)
    have h3 := (mod_abs a b h).1
    have h4 := (div_le_abs a b).1
    have h5 : (a.natAbs : Int) / (b.natAbs : Int) * 2 ≤ (a.natAbs : Int) / (b.natAbs : Int) * (b.natAbs : Int) := Int.mul_le_mul_of_nonneg_left hb2 h4
    rw [Int.mul_comm] at h2
    omega
  have h0 := (div_le_abs a b).1
  rw [tdiv_abs]
  unfold fits at ha
  split <;> omega

theorem ints_Floor.spec (k : Nat) (a b : Int) (ha : fits a) (hb : fits b) : ints_Floor.f (k + 1) a b = some (floorS a b) := by
  unfold ints_Floor.f
  rw [ints_Div.spec k a b ha hb]
  unfold floorS divS
  simp only [Option.bind_some]
  by_cases h : b = 0
  · rw [if_pos h, if_pos h]; rfl
  · rw [if_neg h, if_neg h]
    by_cases hf : fits (a.tdiv b)
    · rw [reck_pos hf, if_pos rfl, if_pos hf]
      by_cases hs : ((decide (a < 0)) != (decide (b < 0))) = true
      · rw [if_pos hs, ints_size.spec a ha, ints_size.spec b hb]
        simp only [Option.bind_some]
        rw [if_neg (by omega), Int.tmod_eq_emod_of_nonneg (by omega)]
        by_cases hm : a.tmod b = 0
        · rw [if_pos ((tmod_zero_abs a b).2 hm), if_neg (fun x => x.1 hm)]
        · rw [if_neg (fun x => hm ((tmod_zero_abs a b).1 x)), if_pos ⟨hm, hs⟩]
          have := half_of_rest a b ha h hm
          rw [IntWalk.wrap64_in _ (by omega)]
      · rw [if_neg hs, if_neg (fun x => hs x.2)]
    · rw [reck_neg hf, if_neg (by decide), if_neg hf]

theorem ints_Pow.spec (a b : Int) (ha : fits a) (hb : fits b) : ints_Pow.f a b = some (powS a b) := by
  unfold ints_Pow.f
  rw [if_pos ⟨ha, hb⟩]

theorem known (k : Nat) : jigsawlaw01_known.f (k + 1) = some true := by
  unfold jigsawlaw01_known.f
  rw [ints_Add.spec _ _ (by decide) (by decide), ints_Div.spec k _ _ (by decide) (by decide), ints_Floor.spec k _ _ (by decide) (by decide), ints_Pow.spec _ _ (by decide) (by decide)]
  decide +kernel
end Go.Proofs.Ytfkbkcdiajjljaa.Spec
