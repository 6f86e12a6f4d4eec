/- Quotient and remainder give the number back; down, towards 0 and up are in order; a root's square is not above the number, that of one more is: for every two whole numbers of 64 bits. -/
import Derived.Test.YtfkbkcdiajjljaaSpec2
import Derived.Test.YtfkbkcdiajjljaaPAx11
namespace Go.Proofs.Ytfkbkcdiajjljaa.Pure
open Go.RowKit Go.Proofs.Ytfkbkcdiajjljaa.PA Go.Proofs.Ytfkbkcdiajjljaa.Spec Go.Proofs.YtfkbkcdiajjljaaW.PrintWords Go.Proofs.YtfkbkcdiajjljaaW.PrintLast

theorem meets_j1 (a : Int) (ha : fits a) : Ev (fun k => jigsawlaw01_IntsMeets.j1 k a) true := by
  by_cases h0 : 0 ≤ a
  · obtain ⟨r, hr, hE⟩ := ints_Root.spec a h0 ha
    obtain ⟨K, hK⟩ : ∃ K, ∀ k, K ≤ k → ints_Root.f k a = some (r, 0) := hE
    obtain ⟨r0, r1, r2, r3⟩ := hr
    have hfr : fits r := by unfold fits; omega
    have hfr1 : fits (r + 1) := by unfold fits; omega
    have hrr : fits (r * r) := by have := Int.mul_nonneg r0 r0; unfold fits at *; omega
    refine ⟨K + 1 + 1 + 1, fun k hk => ?_⟩
    obtain ⟨k, rfl⟩ : ∃ m, k = m + 1 + 1 + 1 := ⟨k - 3, by omega⟩
    simp only [jigsawlaw01_IntsMeets.j1]
    rw [hK _ (by omega)]
    simp only [Option.bind_some, if_true]
    rw [IntWalk.wrap64_in (r + 1) (by omega), ints_Mul.spec _ _ _ hfr hfr, ints_Mul.spec _ _ _ hfr1 hfr1, reck_pos hrr]
    simp only [Option.bind_some, if_true, known]
    rw [if_pos r2]
    by_cases hf : fits ((r + 1) * (r + 1))
    · rw [reck_pos hf, if_neg (by show ¬ (0 : Int) = 10; decide), if_pos r3]
    · rw [reck_neg hf, if_pos rfl]
  · refine ⟨3, fun k hk => ?_⟩
    obtain ⟨k, rfl⟩ : ∃ m, k = m + 1 + 1 + 1 := ⟨k - 3, by omega⟩
    simp only [jigsawlaw01_IntsMeets.j1, ints_Root.f]
    rw [if_pos (by omega)]
    simp only [Option.bind_some, known]
    rw [if_neg (by decide), if_pos (by omega)]

theorem tdiv_back (a b : Int) : a.tdiv b * b + a.tmod b = a := by
  have := Int.tmod_add_mul_tdiv a b
  rw [Int.mul_comm] at this
  omega

theorem meets_j0 (a b : Int) (ha : fits a) (hb : fits b) (h : b ≠ 0) (hq : fits (a.tdiv b)) : Ev (fun k => jigsawlaw01_IntsMeets.j0 k a b (a.tdiv b) (a.tmod b) (floorS a b).1 (floorS a b).2 (ceilS a b).1 (ceilS a b).2 true) true := by
  obtain ⟨K, hK⟩ := meets_j1 a ha
  refine ⟨K + 1 + 1, fun k hk => ?_⟩
  obtain ⟨k, rfl⟩ : ∃ m, k = m + 1 + 1 := ⟨k - 2, by omega⟩
  have hback := tdiv_back a b
  have hm := tmod_fits a b ha h
  have hsg := tmod_sign a b
  have hp : fits (a.tdiv b * b) := by
    by_cases e : a.tmod b = 0
    · rw [e, Int.add_zero] at hback; rw [hback]; exact ha
    · have := hsg e
      have h1 := mod_abs a b h
      have h2 := tmod_abs a b
      unfold fits at *
      split at h2 <;> omega
  have hK' : jigsawlaw01_IntsMeets.j1 (k + 1) a = some true := hK (k + 1) (by omega)
  have hhalf := half_of_rest a b ha h
  have step : ∀ lo hi : Int, lo ≤ a.tdiv b → a.tdiv b ≤ hi → hi - lo ≤ 1 → 0 ≤ hi - lo → ((hi == lo) = (a.tmod b == 0)) →
      jigsawlaw01_IntsMeets.j0 (k + 1 + 1) a b (a.tdiv b) (a.tmod b) lo 0 hi 0 true = some true := by
    intro lo hi h1 h2 h3 h4 h5
    simp only [jigsawlaw01_IntsMeets.j0]
    rw [if_pos trivial, ints_Mul.spec _ _ _ hq hb, reck_pos hp]
    simp only [Option.bind_some]
    rw [ints_Add.spec _ _ hp hm, hback, reck_pos ha]
    simp only [Option.bind_some, if_true]
    rw [if_neg (by omega), if_neg (by omega), IntWalk.wrap64_in (hi - lo) (by omega), if_neg (by omega), h5, if_neg (by simp)]
    exact hK'
  by_cases e : a.tmod b = 0
  · have e1 : floorS a b = (a.tdiv b, 0) := by unfold floorS; rw [if_neg h, if_pos hq, if_neg (fun x => x.1 e)]
    have e2 : ceilS a b = (a.tdiv b, 0) := by unfold ceilS; rw [if_neg h, if_pos hq, if_neg (fun x => x.1 e)]
    rw [e1, e2]
    exact step _ _ (by omega) (by omega) (by omega) (by omega) (by simp [e])
  · have hh := hhalf e
    have e4 : (a.tmod b == 0) = false := by rw [beq_eq_false_iff_ne]; exact e
    by_cases hs : ((decide (a < 0)) == (decide (b < 0))) = true
    · have hs2 : ¬ ((decide (a < 0)) != (decide (b < 0))) = true := by simpa using hs
      have e1 : floorS a b = (a.tdiv b, 0) := by unfold floorS; rw [if_neg h, if_pos hq, if_neg (fun x => hs2 x.2)]
      have e2 : ceilS a b = (a.tdiv b + 1, 0) := by unfold ceilS; rw [if_neg h, if_pos hq, if_pos ⟨e, hs⟩]
      have e3 : (a.tdiv b + 1 == a.tdiv b) = false := by rw [beq_eq_false_iff_ne]; omega
      rw [e1, e2]
      exact step _ _ (by omega) (by omega) (by omega) (by omega) (by rw [e3, e4])
    · have hs2 : ((decide (a < 0)) != (decide (b < 0))) = true := by simpa using hs
      have e1 : floorS a b = (a.tdiv b - 1, 0) := by unfold floorS; rw [if_neg h, if_pos hq, if_pos ⟨e, hs2⟩]
      have e2 : ceilS a b = (a.tdiv b, 0) := by unfold ceilS; rw [if_neg h, if_pos hq, if_neg (fun x => hs x.2)]
      have e3 : (a.tdiv b == a.tdiv b - 1) = false := by rw [beq_eq_false_iff_ne]; omega
      rw [e1, e2]
      exact step _ _ (by omega) (by omega) (by omega) (by omega) (by rw [e3, e4])

theorem meets_no (a b : Int) (x5 x7 x9 x10 x11 x12 : Int) (ha : fits a) : Ev (fun k => jigsawlaw01_IntsMeets.j0 k a b x5 x7 x9 x10 x11 x12 false) true :=
  Ev.step (fun k => by simp only [jigsawlaw01_IntsMeets.j0]; rw [if_neg (by simp)]) (meets_j1 a ha)

theorem IntsMeets : jigsawlaw01_IntsMeets.Pure := by
  intro a b wa wb
  have ha := fits_of_wf wa
  have hb := fits_of_wf wb
  by_cases h : b = 0
  · obtain ⟨K, hK⟩ := meets_no a b 0 0 0 11 0 11 ha
    refine ⟨K + 1, ?_⟩
    unfold jigsawlaw01_IntsMeets.f
    rw [ints_Div.spec _ a b ha hb, ints_Mod.spec _ a b ha hb, ints_Floor.spec _ a b ha hb, ints_Ceil.spec _ a b ha hb]
    unfold divS modS floorS ceilS
    simp only [Option.bind_some, if_pos h]
    exact hK (K + 1) (by omega)
  · by_cases hq : fits (a.tdiv b)
    · obtain ⟨K, hK⟩ := meets_j0 a b ha hb h hq
      refine ⟨K + 1, ?_⟩
      unfold jigsawlaw01_IntsMeets.f
      rw [ints_Div.spec _ a b ha hb, ints_Mod.spec _ a b ha hb, ints_Floor.spec _ a b ha hb, ints_Ceil.spec _ a b ha hb]
      unfold divS modS
      simp only [Option.bind_some, if_neg h, reck_pos hq, if_true]
      exact hK (K + 1) (by omega)
    · obtain ⟨K, hK⟩ := meets_no a b 0 (a.tmod b) 0 10 0 10 ha
      refine ⟨K + 1, ?_⟩
      unfold jigsawlaw01_IntsMeets.f
      rw [ints_Div.spec _ a b ha hb, ints_Mod.spec _ a b ha hb, ints_Floor.spec _ a b ha hb, ints_Ceil.spec _ a b ha hb]
      unfold divS modS floorS ceilS
      simp only [Option.bind_some, if_neg h, reck_neg hq, if_neg hq]
      exact hK (K + 1) (by omega)
end Go.Proofs.Ytfkbkcdiajjljaa.Pure
