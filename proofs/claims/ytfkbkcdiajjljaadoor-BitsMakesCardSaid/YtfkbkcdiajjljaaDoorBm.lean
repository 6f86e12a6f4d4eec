/- Parts of the laws of bits: functions of the program, each with the proof of what it answers; the conditions are those of each theorem. -/
import Derived.Test.YtfkbkcdiajjljaaDoorBl
namespace Go.Proofs.YtfkbkcdiajjljaaDoor.PBitsSteps
open Go.RowKit Go.Proofs.YtfkbkcdiajjljaaDoorW.PrintWords Go.Proofs.YtfkbkcdiajjljaaDoorW.PrintLast Go.Proofs.YtfkbkcdiajjljaaDoorW.PrintMore
set_option linter.unusedVariables false
set_option linter.unusedSimpArgs false
/-! ### the ranges of the values of ranges that are right are these ranges -/
theorem sorted_ext : ∀ (xs ys : List Int), xs.Pairwise (· < ·) → ys.Pairwise (· < ·) → (∀ x, x ∈ xs ↔ x ∈ ys) → xs = ys
  | [], [], _, _, _ => rfl
  | [], y :: ys, _, _, h => by have := (h y).2 (by simp); cases this
  | x :: xs, [], _, _, h => by have := (h x).1 (by simp); cases this
  | x :: xs, y :: ys, hx, hy, h => by
    rw [List.pairwise_cons] at hx hy
    have e : x = y := by
      have h1 := (h x).1 (by simp)
      have h2 := (h y).2 (by simp)
      rw [List.mem_cons] at h1 h2
      rcases h1 with h1 | h1
      · exact h1
      · rcases h2 with h2 | h2
        · exact h2.symm
        · have := hy.1 x h1
          have := hx.1 y h2
          omega
    subst e
    congr 1
    refine sorted_ext xs ys hx.2 hy.2 (fun z => ?_)
    have h3 := h z
    simp only [List.mem_cons] at h3
    constructor
    · intro hz
      rcases h3.1 (.inr hz) with h4 | h4
      · have := hx.1 z hz; omega
      · exact h4
    · intro hz
      rcases h3.2 (.inr hz) with h4 | h4
      · have := hy.1 z hz; omega
      · exact h4
theorem mem_vals (M : Int → Bool) (f r : Int) (hin : ∀ v, M v = true → f ≤ v ∧ v < f + r) (x : Int) : x ∈ vals M f r ↔ M x = true := by
  unfold vals valsTo
  rw [List.mem_filter, List.mem_map]
  constructor
  · exact fun h => h.2
  · intro h
    have := hin x h
    exact ⟨⟨(x - f).toNat, by rw [List.mem_range]; omega, by omega⟩, h⟩
theorem vals_sorted (M : Int → Bool) (f r : Int) : (vals M f r).Pairwise (· < ·) := by
  unfold vals valsTo
  refine List.Pairwise.filter _ ?_
  rw [List.pairwise_map]
  exact List.Pairwise.imp (fun h => by omega) List.pairwise_lt_range
theorem span_sorted (s : S71) : (span s).Pairwise (· < ·) := by
  unfold span
  rw [List.pairwise_map]
  exact List.Pairwise.imp (fun h => by omega) List.pairwise_lt_range
theorem rightL_cons {e : Int} {s : S71} {l : List S71} (h : rightL e (s :: l) = true) : rightL s.f1 l = true ∧ e + 1 < s.f0 ∧ s.f0 ≤ s.f1 ∧ s.f1 ≤ 1000000 := by
  unfold rightL at h
  split at h
  · cases h
  · split at h
    · cases h
    · split at h
      · cases h
      · exact ⟨h, by omega, by omega, by omega⟩
theorem spanAll_sorted : ∀ (l : List S71) (e : Int), -1000002 ≤ e → rightL e l = true → (spanAll l).Pairwise (· < ·)
  | [], _, _, _ => List.Pairwise.nil
  | s :: l, e, he, h => by
    obtain ⟨h1, h2, h3, h4⟩ := rightL_cons h
    have e1 : spanAll (s :: l) = span s ++ spanAll l := by simp [spanAll]
    rw [e1, List.pairwise_append]
    refine ⟨span_sorted s, spanAll_sorted l s.f1 (by omega) h1, fun a ha b hb => ?_⟩
    rw [mem_span] at ha
    obtain ⟨t, ht, hb1, _⟩ := (mem_spanAll _ _).1 hb
    have := rightL_mem l s.f1 (by omega) h1 t ht
    omega
theorem vals_spanAll {l : List S71} (h : okS l = true) : vals (inL (spanAll l)) (firstS l) (lastS l - firstS l + 1) = spanAll l := by
  obtain ⟨b1, b2, b3, b4, b5, b6, b7⟩ := ok_bounds h
  refine sorted_ext _ _ (vals_sorted _ _ _) (spanAll_sorted l _ (by omega) (right_mem b1).2.1) (fun x => ?_)
  rw [mem_vals _ _ _ (fun v hv => by
    have := b7 v (of_decide_eq_true hv)
    omega)]
  unfold inL
  exact decide_eq_true_iff
theorem rg_spanTo (s : S71) (out : List S71) (h : ∀ ys t, out = ys ++ [t] → t.f1 + 1 ≠ s.f0) : ∀ j : Nat, (spanTo s (j + 1)).foldl rgStep out = out ++ [⟨s.f0, s.f0 + j⟩]
  | 0 => by
    have e : spanTo s 1 = [s.f0 + (0 : Nat)] := by simp [spanTo]
    rw [e, List.foldl_cons, List.foldl_nil]
    rcases snoc_cases out with rfl | ⟨ys, t, rfl⟩
    · rw [rgStep_nil, show s.f0 + ((0 : Nat) : Int) = s.f0 by omega]; rfl
    · have hne := h ys t rfl
      rw [rgStep_miss ys t _ (by omega), show s.f0 + ((0 : Nat) : Int) = s.f0 by omega]
  | j + 1 => by
    rw [spanTo_succ, List.foldl_append, rg_spanTo s out h j, List.foldl_cons, List.foldl_nil]
    rw [rgStep_hit out ⟨s.f0, s.f0 + (j : Int)⟩ _ (by show s.f0 + (j : Int) + 1 = _; omega)]
theorem rg_span (s : S71) (out : List S71) (hs : s.f0 ≤ s.f1) (h : ∀ ys t, out = ys ++ [t] → t.f1 + 1 ≠ s.f0) : (span s).foldl rgStep out = out ++ [s] := by
  obtain ⟨j, hj⟩ : ∃ j, (s.f1 - s.f0 + 1).toNat = j + 1 := ⟨(s.f1 - s.f0).toNat, by omega⟩
  have e : span s = spanTo s (j + 1) := by unfold span spanTo; rw [hj]
  rw [e, rg_spanTo s out h j, show s.f0 + (j : Int) = s.f1 by omega]
theorem rg_spanAll_go : ∀ (l : List S71) (e : Int) (out : List S71), -1000002 ≤ e → rightL e l = true → (∀ ys t, out = ys ++ [t] → t.f1 = e) → (spanAll l).foldl rgStep out = out ++ l
  | [], _, out, _, _, _ => by simp [spanAll]
  | s :: l, e, out, he, h, ho => by
    obtain ⟨h1, h2, h3, h4⟩ := rightL_cons h
    have e1 : spanAll (s :: l) = span s ++ spanAll l := by simp [spanAll]
    rw [e1, List.foldl_append, rg_span s out h3 (fun ys t e2 => by have := ho ys t e2; omega), rg_spanAll_go l s.f1 (out ++ [s]) (by omega) h1 (fun ys t e2 => by
      have := List.append_inj_right' e2 rfl
      simp at this
      rw [← this])]
    simp
theorem rg_ok {l : List S71} (h : okS l = true) : rg (vals (inL (spanAll l)) (firstS l) (lastS l - firstS l + 1)) = l := by
  rw [vals_spanAll h]
  obtain ⟨b1, _⟩ := ok_bounds h
  have := rg_spanAll_go l _ [] (by omega) (right_mem b1).2.1 (fun ys t e => by
    have := congrArg List.length e
    simp at this)
  exact this

end Go.Proofs.YtfkbkcdiajjljaaDoor.PBitsSteps
