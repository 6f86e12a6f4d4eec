/- Parts of the laws of bits: functions of the program, each with the proof of what it answers; the conditions are those of each theorem. -/
import Derived.Test.YtfkbkcdiajjljaaDoorBm
import Derived.Test.YtfkbkcdiajjljaaDoorPBitsStepsx2
namespace Go.Proofs.YtfkbkcdiajjljaaDoor.PBitsSteps
open Go.RowKit Go.Proofs.YtfkbkcdiajjljaaDoorW.PrintWords Go.Proofs.YtfkbkcdiajjljaaDoorW.PrintLast Go.Proofs.YtfkbkcdiajjljaaDoorW.PrintMore
set_option linter.unusedVariables false
set_option linter.unusedSimpArgs false
theorem in_f (x : Int) : jigsawref02_in.f x = some (decide (-1000000 ≤ x ∧ x ≤ 1000000)) := by
  unfold jigsawref02_in.f
  by_cases h : x ≥ -1000000
  · rw [if_pos h]
    congr 1
    rw [Bool.eq_iff_iff]
    simp only [decide_eq_true_eq]
    omega
  · rw [if_neg h, decide_eq_false (by omega)]
theorem refRight_l0 (l : List S71) (hl : l.length ≤ 4096) : ∀ (d i : Nat) (e : Int), l.length = i + d → (i = 0 ∧ e = -1000002 ∨ 0 < i ∧ (rd_T71 l ((i - 1 : Nat) : Int)).f1 = e ∧ -1000000 ≤ e ∧ e ≤ 1000000) → jigsawref02_Right.l0 (d + 1) l (i : Int) = some (rightL e (l.drop i))
  | 0, i, e, hd, _ => by
    simp only [jigsawref02_Right.l0]
    rw [if_neg (by omega), List.drop_eq_nil_of_le (by omega)]
    rfl
  | d + 1, i, e, hd, he => by
    have hi : i < l.length := by omega
    have ih := refRight_l0 l hl d (i + 1) l[i].f1 (by omega)
    rw [List.drop_eq_getElem_cons hi]
    rw [jigsawref02_Right.l0]
    rw [if_pos (by omega), if_pos (by omega), in_f, Option.bind_some, rd71 l i hi, in_f]
    rw [show wrap64 ((i : Int) + 1) = ((i + 1 : Nat) : Int) from IntWalk.wrap64_in _ (by omega)]
    rw [show ((i + 1 - 1 : Nat) : Int) = (i : Int) by omega, rd71 l i hi] at ih
    unfold rightL
    generalize l[i] = s at *
    by_cases c1 : -1000000 ≤ s.f0 ∧ s.f0 ≤ 1000000
    · rw [decide_eq_true c1, if_pos rfl, Option.bind_some]
      by_cases c2 : -1000000 ≤ s.f1 ∧ s.f1 ≤ 1000000
      · rw [decide_eq_true c2, if_pos rfl]
        by_cases c3 : s.f0 > s.f1
        · rw [if_pos c3]
          by_cases c4 : s.f0 ≤ e + 1
          · rw [if_pos c4]
          · rw [if_neg c4, if_pos c3]
        · rw [if_neg c3]
          have ih := ih (.inr ⟨by omega, rfl, c2.1, c2.2⟩)
          rcases he with ⟨rfl, rfl⟩ | ⟨h0, h1, h2, h3⟩
          · rw [if_neg (by omega), ih, if_neg (by omega), if_neg (by omega), if_neg (by omega)]
          · rw [if_pos (by omega)]
            rw [show wrap64 ((i : Int) - 1) = ((i - 1 : Nat) : Int) by rw [show (i : Int) - 1 = ((i - 1 : Nat) : Int) by omega]; exact IntWalk.wrap64_in _ (by omega)]
            rw [if_pos (by omega), if_pos (by omega), h1]
            rw [show wrap64 (e + 1) = e + 1 from IntWalk.wrap64_in _ (by omega)]
            by_cases c4 : s.f0 ≤ e + 1
            · rw [if_pos c4, if_pos c4]
            · rw [if_neg c4, if_neg c4, ih, if_neg (by omega), if_neg (by omega)]
      · rw [decide_eq_false c2, if_neg (by simp)]
        by_cases c4 : s.f0 ≤ e + 1
        · rw [if_pos c4]
        · rw [if_neg c4]
          by_cases c5 : s.f1 < s.f0
          · rw [if_pos c5]
          · rw [if_neg c5, if_pos (by omega)]
    · rw [decide_eq_false c1, if_neg (by simp)]
      by_cases c4 : s.f0 ≤ e + 1
      · rw [if_pos c4]
      · rw [if_neg c4]
        by_cases c5 : s.f1 < s.f0
        · rw [if_pos c5]
        · rw [if_neg c5, if_pos (by omega)]
theorem refRight_f (l : List S71) : jigsawref02_Right.f (l.length + 1) l = some (rightS l) := by
  unfold jigsawref02_Right.f rightS
  by_cases h : 4096 < l.length
  · rw [if_pos (by omega), if_pos h]
  · rw [if_neg (by omega), if_neg h]
    exact refRight_l0 l (by omega) l.length 0 _ (by omega) (.inl ⟨rfl, rfl⟩)
theorem refRight_calls (A : Option Addr) (c : Nat) (l : List S71) (w : World) (h : Kd.C k71 w A l.length l) (hc : l.length ≤ c) :
    Calls Tryd.prog 14 #[.slice A l.length c] w fun e w' => e = .returned (.bool (rightS l)) ∧ Below w.heap.size w w' :=
  (jigsawref02_Right.calls _ A c l _ w h hc (refRight_f l)).mono fun _ _ ⟨he, hb⟩ => ⟨he, by first | exact hb | exact hb.below⟩

end Go.Proofs.YtfkbkcdiajjljaaDoor.PBitsSteps
