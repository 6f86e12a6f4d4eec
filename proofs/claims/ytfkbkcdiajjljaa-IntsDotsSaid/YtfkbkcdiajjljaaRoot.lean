/- Square roots: the walk that the print wrote, and what it computes. -/
import Derived.Test.YtfkbkcdiajjljaaPAx0
import Derived.Test.YtfkbkcdiajjljaaSpec
namespace Go.Proofs.Ytfkbkcdiajjljaa.PA
open Go.RowKit Go.Proofs.YtfkbkcdiajjljaaW.PrintWords Go.Proofs.YtfkbkcdiajjljaaW.PrintLast Go.Proofs.YtfkbkcdiajjljaaW.PrintMore
attribute [local go_sem] max2_int min2_int max_two min_two max_three min_three max_four min_four   -- for this text's walks alone
set_option linter.unusedVariables false
set_option linter.unusedSimpArgs false


/-! ### ints_Root: function 30 -/
def ints_Root.l0 : Nat → Int → Int → Int → Option (Int × Int)
  | 0, _, _, _ => none
  | k + 1, x0, x4, x5 => if x4 < x5 then (if (wrap64 ((wrap64 (Int.tdiv (wrap64 ((wrap64 (x4 + x5)) + 1)) 2)) * (wrap64 (Int.tdiv (wrap64 ((wrap64 (x4 + x5)) + 1)) 2)))) ≤ x0 then (ints_Root.l0 k x0 (wrap64 (Int.tdiv (wrap64 ((wrap64 (x4 + x5)) + 1)) 2)) x5) else (ints_Root.l0 k x0 x4 (wrap64 ((wrap64 (Int.tdiv (wrap64 ((wrap64 (x4 + x5)) + 1)) 2)) - 1)))) else (some (x4, 0))
def ints_Root.f (k : Nat) (a0 : Int) : Option (Int × Int) := if a0 < 0 then (some (0, 1)) else (ints_Root.l0 k a0 0 3037000499)
theorem ints_Root.mono_l : ∀ k, (∀ y0 y1 y2, LeO (ints_Root.l0 k y0 y1 y2) (ints_Root.l0 (k + 1) y0 y1 y2))
  | 0 => fun _ _ _ r h => by simp [ints_Root.l0] at h
  | k + 1 => by
    have ih0 := ints_Root.mono_l k
    · intro y0 y1 y2
      unfold ints_Root.l0
      repeat' first
      | (with_reducible exact ih0 _ _ _)
      | (with_reducible exact LeO.refl _)
      | (with_reducible exact LeO.none _)
      | (with_reducible refine LeO.ite ?_ ?_)
      | (with_reducible refine LeO.bind ?_ (fun _ => ?_))
      | exact ih0 _ _ _
      | exact LeO.none _
      | refine LeO.ite ?_ ?_
      | refine LeO.bind ?_ (fun _ => ?_)
theorem ints_Root.mono : ∀ a0 k, LeO (ints_Root.f k a0) (ints_Root.f (k + 1) a0) := by
  intro a0 k
  have ih0 := ints_Root.mono_l k
  unfold ints_Root.f
  repeat' first
      | (with_reducible exact ih0 _ _ _)
      | (with_reducible exact LeO.refl _)
      | (with_reducible exact LeO.none _)
      | (with_reducible refine LeO.ite ?_ ?_)
      | (with_reducible refine LeO.bind ?_ (fun _ => ?_))
      | exact ih0 _ _ _
      | exact LeO.none _
      | refine LeO.ite ?_ ?_
      | refine LeO.bind ?_ (fun _ => ?_)
set_option maxHeartbeats 8000000 in
set_option maxRecDepth 100000 in
theorem ints_Root.calls (k : Nat) (a0 : Int) (r1 : Int) (r2 : Int) (w : World) (h : ints_Root.f k a0 = some (r1, r2)) :
    Calls Try.prog 30 #[.int .i64 a0] w fun e w' => e = .returned (.tuple #[.int .i64 r1, .int .i64 r2]) ∧ Drawn0 w w' := by
  have H : (if a0 < 0 then (some (0, 1)) else (ints_Root.l0 k a0 0 3037000499)) = some (r1, r2) := h
  clear h
  by_cases c2 : a0 < 0
  · rw [if_pos c2] at H
    have c2b0 : decide (a0 < 0) = true := decide_eq_true c2
    clear c2
    simp only [Option.some.injEq, Prod.mk.injEq] at H
    obtain ⟨rfl, rfl⟩ := H
    go_enter Try.func30, Try.ntmps30
    go_wp2
    go_ret2
    exact ⟨by first | rfl | (simp; done) | (simp [*]; done), by repeat (first | exact Drawn0.refl _ | apply Drawn0.step)⟩
  · rw [if_neg c2] at H
    have c2b0 : decide (a0 < 0) = false := decide_eq_false c2
    clear c2
    have H' := Aside0.mk H
    clear H
    go_enter Try.func30, Try.ntmps30
    go_wp2
    go_loopg [4, 5] k (fun kq v4 v5 w' => ∃ (x4_1 : Int) (x5_1 : Int), v4 = .int .i64 x4_1 ∧ v5 = .int .i64 x5_1 ∧ Aside0 (ints_Root.l0 kq a0 x4_1 x5_1 = some (r1, r2)) ∧ Aside0 (kq ≤ k) ∧ Drawn0 w w')
    case atStart => exact ⟨(0), (3037000499), (by first | rfl | (simp; done) | (simp [*]; done)), (by first | rfl | (simp; done) | (simp [*]; done)), H', ⟨Nat.le_refl _⟩, by repeat (first | exact Drawn0.refl _ | apply Drawn0.step)⟩
    case round =>
      clear H'
      try clear c2
      try clear c2b0
      try clear p2
      obtain ⟨x4_1, x5_1, rfl, rfl, HA, HK1, ⟨m1, rfl⟩⟩ := hrel
      cases gk with
      | zero => exact absurd HA.out (by simp [ints_Root.l0])
      | succ k1 =>
        have H := HA.out
        clear HA
        simp only [ints_Root.l0] at H
        by_cases c3 : x4_1 < x5_1
        · rw [if_pos c3] at H
          have c3b0 : decide (x4_1 < x5_1) = true := decide_eq_true c3
          clear c3
          by_cases c4 : (wrap64 ((wrap64 (Int.tdiv (wrap64 ((wrap64 (x4_1 + x5_1)) + 1)) 2)) * (wrap64 (Int.tdiv (wrap64 ((wrap64 (x4_1 + x5_1)) + 1)) 2)))) ≤ a0
          · rw [if_pos c4] at H
            have c4b0 : decide ((wrap64 ((wrap64 (Int.tdiv (wrap64 ((wrap64 (x4_1 + x5_1)) + 1)) 2)) * (wrap64 (Int.tdiv (wrap64 ((wrap64 (x4_1 + x5_1)) + 1)) 2)))) ≤ a0) = true := decide_eq_true c4
            clear c4
            have H' := Aside0.mk H
            clear H
            go_wp2
            go_roundg k1
            case measure => have := HK1.out; omega
            case rel => exact ⟨(wrap64 (Int.tdiv (wrap64 ((wrap64 (x4_1 + x5_1)) + 1)) 2)), (x5_1), (by first | rfl | (simp; done) | (simp [*]; done)), (by first | rfl | (simp; done) | (simp [*]; done)), H', ⟨by have := HK1.out; omega⟩, by repeat (first | exact Drawn0.refl _ | apply Drawn0.step)⟩
          · rw [if_neg c4] at H
            have c4b0 : decide ((wrap64 ((wrap64 (Int.tdiv (wrap64 ((wrap64 (x4_1 + x5_1)) + 1)) 2)) * (wrap64 (Int.tdiv (wrap64 ((wrap64 (x4_1 + x5_1)) + 1)) 2)))) ≤ a0) = false := decide_eq_false c4
            clear c4
            have H' := Aside0.mk H
            clear H
            go_wp2
            go_roundg k1
            case measure => have := HK1.out; omega
            case rel => exact ⟨(x4_1), (wrap64 ((wrap64 (Int.tdiv (wrap64 ((wrap64 (x4_1 + x5_1)) + 1)) 2)) - 1)), (by first | rfl | (simp; done) | (simp [*]; done)), (by first | rfl | (simp; done) | (simp [*]; done)), H', ⟨by have := HK1.out; omega⟩, by repeat (first | exact Drawn0.refl _ | apply Drawn0.step)⟩
        · rw [if_neg c3] at H
          have c3b0 : decide (x4_1 < x5_1) = false := decide_eq_false c3
          clear c3
          simp only [Option.some.injEq, Prod.mk.injEq] at H
          obtain ⟨rfl, rfl⟩ := H
          go_wp2
          go_ret2
          exact ⟨by first | rfl | (simp; done) | (simp [*]; done), by repeat (first | exact Drawn0.refl _ | apply Drawn0.step)⟩
end Go.Proofs.Ytfkbkcdiajjljaa.PA
namespace Go.Proofs.Ytfkbkcdiajjljaa.Spec
open Go.RowKit Go.Proofs.Ytfkbkcdiajjljaa.PA Go.Proofs.YtfkbkcdiajjljaaW.PrintWords Go.Proofs.YtfkbkcdiajjljaaW.PrintLast Go.Proofs.YtfkbkcdiajjljaaW.PrintMore
theorem i64_wrap (x : Int) : IntKind.i64.wrap x = wrap64 x := IntWalk.i64_left x
def IsRoot (a r : Int) : Prop := 0 ≤ r ∧ r ≤ 3037000499 ∧ r * r ≤ a ∧ a < (r + 1) * (r + 1)
theorem sq_le {x y : Int} (h0 : 0 ≤ x) (h : x ≤ y) : x * x ≤ y * y := Int.mul_le_mul h h h0 (by omega)
theorem root_one {a r s : Int} (h : IsRoot a r) (k : IsRoot a s) : r = s := by
  obtain ⟨h1, _, h3, h4⟩ := h
  obtain ⟨k1, _, k3, k4⟩ := k
  by_cases e : r < s
  · have := sq_le (x := r + 1) (y := s) (by omega) (by omega); omega
  · by_cases e2 : s < r
    · have := sq_le (x := s + 1) (y := r) (by omega) (by omega); omega
    · omega
theorem root_l0 (a : Int) (d : Nat) : ∀ lo hi : Int, 0 ≤ lo → lo ≤ hi → hi ≤ 3037000499 → hi - lo ≤ d → lo * lo ≤ a → a < (hi + 1) * (hi + 1) →
    ∃ r, IsRoot a r ∧ Ev (fun k => ints_Root.l0 k a lo hi) (r, 0) := by
  induction d with
  | zero =>
    intro lo hi h0 h1 h2 h3 h4 h5
    obtain rfl : lo = hi := by omega
    exact ⟨lo, ⟨h0, h2, h4, h5⟩, Ev.step (f := fun _ => some (lo, 0)) (fun k => by simp only [ints_Root.l0]; rw [if_neg (by omega)]) (Ev.now _)⟩
  | succ d ih =>
    intro lo hi h0 h1 h2 h3 h4 h5
    by_cases e : lo < hi
    · have w1 : wrap64 (lo + hi) = lo + hi := IntWalk.wrap64_in _ (by omega)
      have w2 : wrap64 (lo + hi + 1) = lo + hi + 1 := IntWalk.wrap64_in _ (by omega)
      have w3 : wrap64 (Int.tdiv (lo + hi + 1) 2) = (lo + hi + 1) / 2 := by rw [Int.tdiv_eq_ediv_of_nonneg (by omega)]; exact IntWalk.wrap64_in _ (by omega)
      have hm : lo < (lo + hi + 1) / 2 ∧ (lo + hi + 1) / 2 ≤ hi := by omega
      have hst : ∀ k, ints_Root.l0 (k + 1) a lo hi = if (wrap64 ((lo + hi + 1) / 2 * ((lo + hi + 1) / 2))) ≤ a then ints_Root.l0 k a ((lo + hi + 1) / 2) hi else ints_Root.l0 k a lo (wrap64 ((lo + hi + 1) / 2 - 1)) := fun k => by
        simp only [ints_Root.l0]; rw [if_pos e]; simp only [w1, w2, w3]
      generalize (lo + hi + 1) / 2 = mid at *
      have b1 := sq_le (x := mid) (y := 3037000499) (by omega) (by omega)
      have b2 : 0 ≤ mid * mid := Int.mul_nonneg (by omega) (by omega)
      rw [IntWalk.wrap64_in (mid * mid) (by omega), IntWalk.wrap64_in (mid - 1) (by omega)] at hst
      by_cases hc : mid * mid ≤ a
      · obtain ⟨r, hr, hE⟩ := ih mid hi (by omega) (by omega) h2 (by omega) hc h5
        exact ⟨r, hr, Ev.step (fun k => by rw [hst, if_pos hc]) hE⟩
      · obtain ⟨r, hr, hE⟩ := ih lo (mid - 1) h0 (by omega) (by omega) (by omega) h4 (by rw [Int.sub_add_cancel]; omega)
        exact ⟨r, hr, Ev.step (fun k => by rw [hst, if_neg hc]) hE⟩
    · obtain rfl : lo = hi := by omega
      exact ⟨lo, ⟨h0, h2, h4, h5⟩, Ev.step (f := fun _ => some (lo, 0)) (fun k => by simp only [ints_Root.l0]; rw [if_neg (by omega)]) (Ev.now _)⟩
theorem ints_Root.spec (a : Int) (h0 : 0 ≤ a) (ha : fits a) : ∃ r, IsRoot a r ∧ Ev (fun k => ints_Root.f k a) (r, 0) := by
  obtain ⟨r, hr, hE⟩ := root_l0 a 3037000499 0 3037000499 (by omega) (by omega) (by omega) (by omega) (by omega) (by unfold fits at ha; omega)
  exact ⟨r, hr, Ev.congr (fun k => by unfold ints_Root.f; rw [if_neg (by omega)]) hE⟩

/-! ### powers -/
theorem neg_one_pow (n : Nat) : (-1 : Int) ^ n = if n % 2 = 0 then 1 else -1 := by
  induction n with
  | zero => rfl
  | succ n ih => rw [Int.pow_succ, ih]; split <;> split <;> omega
theorem powS_nonneg (a b : Int) (hb : 0 ≤ b) : powS a b = reck (a ^ b.toNat) := by
  have r1 : reck 1 = (1, 0) := by decide
  have r2 : reck (-1) = (-1, 0) := by decide
  have r0 : reck 0 = (0, 0) := by decide
  unfold powS smallS
  by_cases h1 : b = 0
  · subst h1; simp [r1]
  · rw [if_neg h1]
    by_cases h2 : a = 1
    · subst h2; rw [if_pos rfl, Int.one_pow, r1]
    · rw [if_neg h2]
      by_cases h3 : a = -1
      · subst h3
        rw [if_pos rfl, neg_one_pow]
        by_cases h4 : b % 2 = 0
        · rw [if_pos h4, if_pos (by omega), r1]
        · rw [if_neg h4, if_neg (by omega), r2]
      · rw [if_neg h3]
        by_cases h4 : a = 0
        · subst h4
          rw [if_pos rfl, if_neg (by omega), Int.zero_pow (by omega), r0]
        · rw [if_neg h4, if_neg (by omega)]
theorem big_of_beyond {a : Int} (ha : fits a) {n : Nat} (h : ¬ fits (a ^ n)) : 2 ≤ a.natAbs := by
  have f1 : fits 1 := by decide
  have f2 : fits (-1) := by decide
  by_cases h1 : a = 1
  · subst h1; rw [Int.one_pow] at h; exact absurd f1 h
  · by_cases h2 : a = -1
    · subst h2; rw [neg_one_pow] at h; split at h <;> contradiction
    · by_cases h3 : a = 0
      · subst h3
        cases n with
        | zero => exact absurd f1 h
        | succ n => rw [Int.zero_pow (by omega)] at h; exact absurd ha h
      · omega
end Go.Proofs.Ytfkbkcdiajjljaa.Spec
