/- What more functions of package ints answer (the sign turned, the size, what is left, up, the root), and the reference's quotients, as plain functions: for every number of 64 bits. -/
import Derived.Test.YtfkbkcdiajjljaaSpec
import Derived.Test.YtfkbkcdiajjljaaPAx10
set_option linter.unusedVariables false
set_option linter.unusedSimpArgs false
namespace Go.Proofs.Ytfkbkcdiajjljaa.Spec
open Go.RowKit Go.Proofs.Ytfkbkcdiajjljaa.PA Go.Proofs.YtfkbkcdiajjljaaW.PrintWords

theorem ints_Neg.spec (a : Int) (ha : fits a) : ints_Neg.f a = some (reck (-a)) := by
  unfold ints_Neg.f
  rw [ints_Sub.spec 0 a (by unfold fits; decide) ha, Int.zero_sub]
  rfl
theorem ints_Abs.spec (k : Nat) (a : Int) (ha : fits a) : ints_Abs.f (k + 1) a = some (reck (a.natAbs : Int)) := by
  unfold ints_Abs.f
  rw [ints_size.spec a ha]
  simp only [Option.bind_some]
  rw [ints_signed.spec k _ false (natAbs_range a ha).1 (natAbs_range a ha).2]
  rfl

theorem ints_Mod.spec (k : Nat) (a b : Int) (ha : fits a) (hb : fits b) : ints_Mod.f (k + 1) a b = some (modS a b) := by
  unfold ints_Mod.f modS
  by_cases h : b = 0
  · rw [if_pos h, if_pos h]
  · rw [if_neg h, if_neg h, ints_size.spec a ha, ints_size.spec b hb]
    simp only [Option.bind_some]
    rw [if_neg (by omega)]
    have h1 := mod_abs a b h
    have h2 := natAbs_range a ha
    rw [Int.tmod_eq_emod_of_nonneg (by omega), ints_signed.spec k _ _ h1.1 (by omega)]
    simp only [Option.bind_some, decide_eq_true_eq]
    rw [← tmod_abs, reck_pos (tmod_fits a b ha h)]

theorem ints_Ceil.spec (k : Nat) (a b : Int) (ha : fits a) (hb : fits b) : ints_Ceil.f (k + 1) a b = some (ceilS a b) := by
  unfold ints_Ceil.f
  rw [ints_Div.spec k a b ha hb]
  unfold ceilS divS
  simp only [Option.bind_some]
  by_cases h : b = 0
  · rw [if_pos h, if_pos h]; rfl
  · rw [if_neg h, if_neg h]
    by_cases hf : fits (a.tdiv b)
    · rw [reck_pos hf, if_pos rfl, if_pos hf]
      by_cases hs : ((decide (a < 0)) == (decide (b < 0))) = true
      · rw [if_pos hs, ints_size.spec a ha, ints_size.spec b hb]
        simp only [Option.bind_some]
        rw [if_neg (by omega), Int.tmod_eq_emod_of_nonneg (by omega)]
        by_cases hm : a.tmod b = 0
        · rw [if_pos ((tmod_zero_abs a b).2 hm), if_neg (fun x => x.1 hm)]
        · rw [if_neg (fun x => hm ((tmod_zero_abs a b).1 x)), if_pos ⟨hm, hs⟩]
          have := half_of_rest a b ha h hm
          rw [IntWalk.wrap64_in _ (by omega)]
      · rw [if_neg hs, if_neg (fun x => hs x.2)]
    · rw [reck_neg hf, if_neg (by decide), if_neg hf]


theorem i64_wrap (x : Int) : IntKind.i64.wrap x = wrap64 x := IntWalk.i64_left x

/-! ### the reference's quotients -/
theorem tdiv_least {a b : Int} (ha : fits a) (hb : fits b) (h0 : b ≠ 0) : ¬ fits (a.tdiv b) ↔ a = -9223372036854775808 ∧ b = -1 := by
  constructor
  · intro h
    have h1 := div_le_abs a b
    rw [tdiv_abs] at h
    unfold fits at *
    by_cases e : b.natAbs = 1
    · rw [e] at h1 h
      by_cases hs : ((decide (a < 0)) != (decide (b < 0))) = true
      · rw [if_pos hs] at h; omega
      · rw [if_neg hs] at h
        have : (decide (a < 0)) = (decide (b < 0)) := by simpa using hs
        rw [decide_eq_decide] at this
        omega
    · have h2 : (a.natAbs : Int) / (b.natAbs : Int) ≤ (a.natAbs : Int) / 2 := by
        rw [Int.le_ediv_iff_mul_le (by omega)]
        have h5 : (a.natAbs : Int) / (b.natAbs : Int) * 2 ≤ (a.natAbs : Int) / (b.natAbs : Int) * (b.natAbs : Int) := Int.mul_le_mul_of_nonneg_left (by omega) h1.1
        have := Int.ediv_mul_le (a.natAbs : Int) (show (b.natAbs : Int) ≠ 0 by omega)
        omega
      exfalso
      split at h <;> omega
  · rintro ⟨rfl, rfl⟩; decide

theorem refDiv.spec (a b : Int) (ha : fits a) (hb : fits b) : jigsawref01_Div.f a b = some (divS a b) := by
  unfold jigsawref01_Div.f divS
  by_cases h : b = 0
  · rw [if_pos h, if_pos h]
  · rw [if_neg h, if_neg h]
    have ht := tdiv_least ha hb h
    by_cases h1 : a = -9223372036854775808
    · rw [if_pos h1]
      by_cases h2 : b = -1
      · rw [if_pos h2, reck_neg (ht.2 ⟨h1, h2⟩)]
      · have hf : fits (a.tdiv b) := Decidable.byContradiction fun x => h2 (ht.1 x).2
        rw [if_neg h2, reck_pos hf]
        rw [IntWalk.wrap64_in _ hf]
    · have hf : fits (a.tdiv b) := Decidable.byContradiction fun x => h1 (ht.1 x).1
      rw [if_neg h1, reck_pos hf]
      rw [IntWalk.wrap64_in _ hf]
theorem refMod.spec (a b : Int) (ha : fits a) (hb : fits b) : jigsawref01_Mod.f a b = some (modS a b) := by
  unfold jigsawref01_Mod.f modS
  by_cases h : b = 0
  · rw [if_pos h, if_pos h]
  · rw [if_neg h, if_neg h]
    by_cases h1 : b = -1
    · rw [if_pos h1, h1]
      simp [Int.tmod_neg]
    · rw [if_neg h1]
theorem tmod_sign (a b : Int) (h : a.tmod b ≠ 0) : (a.tmod b < 0) ↔ a < 0 := by
  have h1 := Int.emod_nonneg (a.natAbs : Int) (b := (b.natAbs : Int))
  by_cases hb : b = 0
  · subst hb; rw [Int.tmod_zero]
  · have h2 := mod_abs a b hb
    rw [tmod_abs] at h ⊢
    split at h <;> split <;> omega
theorem refFloor.spec (a b : Int) (ha : fits a) (hb : fits b) : jigsawref01_Floor.f a b = some (floorS a b) := by
  unfold jigsawref01_Floor.f
  rw [refDiv.spec a b ha hb]
  unfold floorS divS
  simp only [Option.bind_some]
  by_cases h : b = 0
  · rw [if_pos h, if_pos h]; rfl
  · rw [if_neg h, if_neg h]
    by_cases hf : fits (a.tdiv b)
    · rw [reck_pos hf, if_pos rfl, if_pos hf, refMod.spec a b ha hb]
      unfold modS
      rw [if_neg h]
      simp only [Option.bind_some]
      by_cases hm : a.tmod b = 0
      · rw [if_pos hm, if_neg (fun x => x.1 hm)]
      · rw [if_neg hm]
        have hs := tmod_sign a b hm
        have := half_of_rest a b ha h hm
        rw [show (decide (a.tmod b < 0)) = decide (a < 0) from decide_eq_decide.2 hs]
        by_cases hd : ((decide (a < 0)) != (decide (b < 0))) = true
        · rw [if_pos hd, if_pos ⟨hm, hd⟩, IntWalk.wrap64_in _ (by omega)]
        · rw [if_neg hd, if_neg (fun x => hd x.2)]
    · rw [reck_neg hf, if_neg (by decide), if_neg hf]
theorem refCeil.spec (a b : Int) (ha : fits a) (hb : fits b) : jigsawref01_Ceil.f a b = some (ceilS a b) := by
  unfold jigsawref01_Ceil.f
  rw [refDiv.spec a b ha hb]
  unfold ceilS divS
  simp only [Option.bind_some]
  by_cases h : b = 0
  · rw [if_pos h, if_pos h]; rfl
  · rw [if_neg h, if_neg h]
    by_cases hf : fits (a.tdiv b)
    · rw [reck_pos hf, if_pos rfl, if_pos hf, refMod.spec a b ha hb]
      unfold modS
      rw [if_neg h]
      simp only [Option.bind_some]
      by_cases hm : a.tmod b = 0
      · rw [if_pos hm, if_neg (fun x => x.1 hm)]
      · rw [if_neg hm]
        have hs := tmod_sign a b hm
        have := half_of_rest a b ha h hm
        rw [show (decide (a.tmod b < 0)) = decide (a < 0) from decide_eq_decide.2 hs]
        by_cases hd : ((decide (a < 0)) == (decide (b < 0))) = true
        · rw [if_pos hd, if_pos ⟨hm, hd⟩, IntWalk.wrap64_in _ (by omega)]
        · rw [if_neg hd, if_neg (fun x => hd x.2)]
    · rw [reck_neg hf, if_neg (by decide), if_neg hf]

/-! ### the root -/
def IsRoot (a r : Int) : Prop := 0 ≤ r ∧ r ≤ 3037000499 ∧ r * r ≤ a ∧ a < (r + 1) * (r + 1)
theorem sq_le {x y : Int} (h0 : 0 ≤ x) (h : x ≤ y) : x * x ≤ y * y := Int.mul_le_mul h h h0 (by omega)
theorem root_one {a r s : Int} (h : IsRoot a r) (k : IsRoot a s) : r = s := by
  obtain ⟨h1, _, h3, h4⟩ := h
  obtain ⟨k1, _, k3, k4⟩ := k
  by_cases e : r < s
  · have := sq_le (x := r + 1) (y := s) (by omega) (by omega); omega
  · by_cases e2 : s < r
    · have := sq_le (x := s + 1) (y := r) (by omega) (by omega); omega
    · omega
theorem root_l0 (a : Int) (d : Nat) : ∀ lo hi : Int, 0 ≤ lo → lo ≤ hi → hi ≤ 3037000499 → hi - lo ≤ d → lo * lo ≤ a → a < (hi + 1) * (hi + 1) →
    ∃ r, IsRoot a r ∧ Ev (fun k => ints_Root.l0 k a lo hi) (r, 0) := by
  induction d with
  | zero =>
    intro lo hi h0 h1 h2 h3 h4 h5
    obtain rfl : lo = hi := by omega
    exact ⟨lo, ⟨h0, h2, h4, h5⟩, Ev.step (f := fun _ => some (lo, 0)) (fun k => by simp only [ints_Root.l0]; rw [if_neg (by omega)]) (Ev.now _)⟩
  | succ d ih =>
    intro lo hi h0 h1 h2 h3 h4 h5
    by_cases e : lo < hi
    · have w1 : wrap64 (lo + hi) = lo + hi := IntWalk.wrap64_in _ (by omega)
      have w2 : wrap64 (lo + hi + 1) = lo + hi + 1 := IntWalk.wrap64_in _ (by omega)
      have w3 : wrap64 (Int.tdiv (lo + hi + 1) 2) = (lo + hi + 1) / 2 := by rw [Int.tdiv_eq_ediv_of_nonneg (by omega)]; exact IntWalk.wrap64_in _ (by omega)
      have hm : lo < (lo + hi + 1) / 2 ∧ (lo + hi + 1) / 2 ≤ hi := by omega
      have hst : ∀ k, ints_Root.l0 (k + 1) a lo hi = if (wrap64 ((lo + hi + 1) / 2 * ((lo + hi + 1) / 2))) ≤ a then ints_Root.l0 k a ((lo + hi + 1) / 2) hi else ints_Root.l0 k a lo (wrap64 ((lo + hi + 1) / 2 - 1)) := fun k => by
        simp only [ints_Root.l0]; rw [if_pos e]; simp only [w1, w2, w3]
      generalize (lo + hi + 1) / 2 = mid at *
      have b1 := sq_le (x := mid) (y := 3037000499) (by omega) (by omega)
      have b2 : 0 ≤ mid * mid := Int.mul_nonneg (by omega) (by omega)
      rw [IntWalk.wrap64_in (mid * mid) (by omega), IntWalk.wrap64_in (mid - 1) (by omega)] at hst
      by_cases hc : mid * mid ≤ a
      · obtain ⟨r, hr, hE⟩ := ih mid hi (by omega) (by omega) h2 (by omega) hc h5
        exact ⟨r, hr, Ev.step (fun k => by rw [hst, if_pos hc]) hE⟩
      · obtain ⟨r, hr, hE⟩ := ih lo (mid - 1) h0 (by omega) (by omega) (by omega) h4 (by rw [Int.sub_add_cancel]; omega)
        exact ⟨r, hr, Ev.step (fun k => by rw [hst, if_neg hc]) hE⟩
    · obtain rfl : lo = hi := by omega
      exact ⟨lo, ⟨h0, h2, h4, h5⟩, Ev.step (f := fun _ => some (lo, 0)) (fun k => by simp only [ints_Root.l0]; rw [if_neg (by omega)]) (Ev.now _)⟩
theorem ints_Root.spec (a : Int) (h0 : 0 ≤ a) (ha : fits a) : ∃ r, IsRoot a r ∧ Ev (fun k => ints_Root.f k a) (r, 0) := by
  obtain ⟨r, hr, hE⟩ := root_l0 a 3037000499 0 3037000499 (by omega) (by omega) (by omega) (by omega) (by omega) (by unfold fits at ha; omega)
  exact ⟨r, hr, Ev.congr (fun k => by unfold ints_Root.f; rw [if_neg (by omega)]) hE⟩

/-! ### powers -/
theorem neg_one_pow (n : Nat) : (-1 : Int) ^ n = if n % 2 = 0 then 1 else -1 := by
  induction n with
  | zero => rfl
  | succ n ih => rw [Int.pow_succ, ih]; split <;> split <;> omega
theorem powS_nonneg (a b : Int) (hb : 0 ≤ b) : powS a b = reck (a ^ b.toNat) := by
  have r1 : reck 1 = (1, 0) := by decide
  have r2 : reck (-1) = (-1, 0) := by decide
  have r0 : reck 0 = (0, 0) := by decide
  unfold powS smallS
  by_cases h1 : b = 0
  · subst h1; simp [r1]
  · rw [if_neg h1]
    by_cases h2 : a = 1
    · subst h2; rw [if_pos rfl, Int.one_pow, r1]
    · rw [if_neg h2]
      by_cases h3 : a = -1
      · subst h3
        rw [if_pos rfl, neg_one_pow]
        by_cases h4 : b % 2 = 0
        · rw [if_pos h4, if_pos (by omega), r1]
        · rw [if_neg h4, if_neg (by omega), r2]
      · rw [if_neg h3]
        by_cases h4 : a = 0
        · subst h4
          rw [if_pos rfl, if_neg (by omega), Int.zero_pow (by omega), r0]
        · rw [if_neg h4, if_neg (by omega)]
theorem big_of_beyond {a : Int} (ha : fits a) {n : Nat} (h : ¬ fits (a ^ n)) : 2 ≤ a.natAbs := by
  have f1 : fits 1 := by decide
  have f2 : fits (-1) := by decide
  by_cases h1 : a = 1
  · subst h1; rw [Int.one_pow] at h; exact absurd f1 h
  · by_cases h2 : a = -1
    · subst h2; rw [neg_one_pow] at h; split at h <;> contradiction
    · by_cases h3 : a = 0
      · subst h3
        cases n with
        | zero => exact absurd f1 h
        | succ n => rw [Int.zero_pow (by omega)] at h; exact absurd ha h
      · omega
end Go.Proofs.Ytfkbkcdiajjljaa.Spec
