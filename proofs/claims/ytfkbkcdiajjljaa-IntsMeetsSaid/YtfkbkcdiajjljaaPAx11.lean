/- The functions that these laws reach, each as a Lean function, with the proof that the Go code comes to what it answers: for every input for which it answers. Text by a program for this claim. -/
import Derived.Test.YtfkbkcdiajjljaaPAx0
import Derived.Test.YtfkbkcdiajjljaaPAx1
import Derived.Test.YtfkbkcdiajjljaaPAx3
import Derived.Test.YtfkbkcdiajjljaaPAx9
import Derived.Test.YtfkbkcdiajjljaaPAx10
namespace Go.Proofs.Ytfkbkcdiajjljaa.PA
open Go.RowKit Go.Proofs.YtfkbkcdiajjljaaW.PrintWords Go.Proofs.YtfkbkcdiajjljaaW.PrintLast Go.Proofs.YtfkbkcdiajjljaaW.PrintMore
attribute [local go_sem] max2_int min2_int max_two min_two max_three min_three max_four min_four   -- for this text's walks alone
set_option linter.unusedVariables false
set_option linter.unusedSimpArgs false

/-! ### jigsawlaw01_IntsMeets: function 7 -/
mutual
def jigsawlaw01_IntsMeets.j0 : Nat → Int → Int → Int → Int → Int → Int → Int → Int → Bool → Option (Bool)
  | 0, _, _, _, _, _, _, _, _, _ => none
  | k + 1, x0, x1, x5, x7, x9, x10, x11, x12, x49 => if x49 = true then ((ints_Mul.f k x5 x1).bind fun bt394 => ((ints_Add.f bt394.1 x7).bind fun bt396 => (if bt394.2 = 0 then (if bt396.2 = 0 then (if bt396.1 = x0 then (if x10 = 0 then (if x12 = 0 then (if x9 > x5 then (some false) else (if x11 < x5 then (some false) else (if (wrap64 (x11 - x9)) > 1 then (some false) else (if ((x11 == x9) != (x7 == 0)) = true then (some false) else (jigsawlaw01_IntsMeets.j1 k x0))))) else (some false)) else (some false)) else (some false)) else (some false)) else (some false)))) else (jigsawlaw01_IntsMeets.j1 k x0)
def jigsawlaw01_IntsMeets.j1 : Nat → Int → Option (Bool)
  | 0, _ => none
  | k + 1, x0 => (ints_Root.f k x0).bind fun bt398 => (if bt398.2 = 0 then ((ints_Mul.f k bt398.1 bt398.1).bind fun bt400 => ((ints_Mul.f k (wrap64 (bt398.1 + 1)) (wrap64 (bt398.1 + 1))).bind fun bt402 => (if bt400.2 = 0 then (if bt400.1 ≤ x0 then (if bt402.2 = 10 then ((jigsawlaw01_known.f k).bind fun t404 => (some t404)) else (if bt402.1 > x0 then ((jigsawlaw01_known.f k).bind fun t405 => (some t405)) else (some false))) else (some false)) else (some false)))) else (if x0 < 0 then ((jigsawlaw01_known.f k).bind fun t406 => (some t406)) else (some false)))
end
def jigsawlaw01_IntsMeets.f (k : Nat) (a0 : Int) (a1 : Int) : Option (Bool) := (ints_Div.f k a0 a1).bind fun bt386 => ((ints_Mod.f k a0 a1).bind fun bt388 => ((ints_Floor.f k a0 a1).bind fun bt390 => ((ints_Ceil.f k a0 a1).bind fun bt392 => (if bt386.2 = 0 then (jigsawlaw01_IntsMeets.j0 k a0 a1 bt386.1 bt388.1 bt390.1 bt390.2 bt392.1 bt392.2 (bt388.2 == 0)) else (jigsawlaw01_IntsMeets.j0 k a0 a1 bt386.1 bt388.1 bt390.1 bt390.2 bt392.1 bt392.2 false)))))
theorem jigsawlaw01_IntsMeets.mono_l : ∀ k, (∀ y0 y1 y2 y3 y4 y5 y6 y7 y8, LeO (jigsawlaw01_IntsMeets.j0 k y0 y1 y2 y3 y4 y5 y6 y7 y8) (jigsawlaw01_IntsMeets.j0 (k + 1) y0 y1 y2 y3 y4 y5 y6 y7 y8)) ∧ (∀ y0, LeO (jigsawlaw01_IntsMeets.j1 k y0) (jigsawlaw01_IntsMeets.j1 (k + 1) y0))
  | 0 => ⟨fun _ _ _ _ _ _ _ _ _ r h => by simp [jigsawlaw01_IntsMeets.j0] at h, fun _ r h => by simp [jigsawlaw01_IntsMeets.j1] at h⟩
  | k + 1 => by
    obtain ⟨ih0, ih1⟩ := jigsawlaw01_IntsMeets.mono_l k
    refine ⟨?_, ?_⟩
    · intro y0 y1 y2 y3 y4 y5 y6 y7 y8
      unfold jigsawlaw01_IntsMeets.j0
      repeat' first
      | (with_reducible exact ih0 _ _ _ _ _ _ _ _ _)
      | (with_reducible exact ih1 _)
      | (with_reducible exact ints_Ceil.mono _ _ _)
      | (with_reducible exact ints_Div.mono _ _ _)
      | (with_reducible exact ints_Floor.mono _ _ _)
      | (with_reducible exact ints_Mod.mono _ _ _)
      | (with_reducible exact ints_Mul.mono _ _ _)
      | (with_reducible exact ints_Root.mono _ _)
      | (with_reducible exact jigsawlaw01_known.mono _)
      | (with_reducible exact LeO.refl _)
      | (with_reducible exact LeO.none _)
      | (with_reducible refine LeO.ite ?_ ?_)
      | (with_reducible refine LeO.bind ?_ (fun _ => ?_))
      | exact ih0 _ _ _ _ _ _ _ _ _
      | exact ih1 _
      | exact ints_Ceil.mono _ _ _
      | exact ints_Div.mono _ _ _
      | exact ints_Floor.mono _ _ _
      | exact ints_Mod.mono _ _ _
      | exact ints_Mul.mono _ _ _
      | exact ints_Root.mono _ _
      | exact jigsawlaw01_known.mono _
      | exact LeO.none _
      | refine LeO.ite ?_ ?_
      | refine LeO.bind ?_ (fun _ => ?_)
    · intro y0
      unfold jigsawlaw01_IntsMeets.j1
      repeat' first
      | (with_reducible exact ih0 _ _ _ _ _ _ _ _ _)
      | (with_reducible exact ih1 _)
      | (with_reducible exact ints_Ceil.mono _ _ _)
      | (with_reducible exact ints_Div.mono _ _ _)
      | (with_reducible exact ints_Floor.mono _ _ _)
      | (with_reducible exact ints_Mod.mono _ _ _)
      | (with_reducible exact ints_Mul.mono _ _ _)
      | (with_reducible exact ints_Root.mono _ _)
      | (with_reducible exact jigsawlaw01_known.mono _)
      | (with_reducible exact LeO.refl _)
      | (with_reducible exact LeO.none _)
      | (with_reducible refine LeO.ite ?_ ?_)
      | (with_reducible refine LeO.bind ?_ (fun _ => ?_))
      | exact ih0 _ _ _ _ _ _ _ _ _
      | exact ih1 _
      | exact ints_Ceil.mono _ _ _
      | exact ints_Div.mono _ _ _
      | exact ints_Floor.mono _ _ _
      | exact ints_Mod.mono _ _ _
      | exact ints_Mul.mono _ _ _
      | exact ints_Root.mono _ _
      | exact jigsawlaw01_known.mono _
      | exact LeO.none _
      | refine LeO.ite ?_ ?_
      | refine LeO.bind ?_ (fun _ => ?_)
theorem jigsawlaw01_IntsMeets.mono : ∀ a0 a1 k, LeO (jigsawlaw01_IntsMeets.f k a0 a1) (jigsawlaw01_IntsMeets.f (k + 1) a0 a1) := by
  intro a0 a1 k
  obtain ⟨ih0, ih1⟩ := jigsawlaw01_IntsMeets.mono_l k
  unfold jigsawlaw01_IntsMeets.f
  repeat' first
      | (with_reducible exact ih0 _ _ _ _ _ _ _ _ _)
      | (with_reducible exact ih1 _)
      | (with_reducible exact ints_Ceil.mono _ _ _)
      | (with_reducible exact ints_Div.mono _ _ _)
      | (with_reducible exact ints_Floor.mono _ _ _)
      | (with_reducible exact ints_Mod.mono _ _ _)
      | (with_reducible exact ints_Mul.mono _ _ _)
      | (with_reducible exact ints_Root.mono _ _)
      | (with_reducible exact jigsawlaw01_known.mono _)
      | (with_reducible exact LeO.refl _)
      | (with_reducible exact LeO.none _)
      | (with_reducible refine LeO.ite ?_ ?_)
      | (with_reducible refine LeO.bind ?_ (fun _ => ?_))
      | exact ih0 _ _ _ _ _ _ _ _ _
      | exact ih1 _
      | exact ints_Ceil.mono _ _ _
      | exact ints_Div.mono _ _ _
      | exact ints_Floor.mono _ _ _
      | exact ints_Mod.mono _ _ _
      | exact ints_Mul.mono _ _ _
      | exact ints_Root.mono _ _
      | exact jigsawlaw01_known.mono _
      | exact LeO.none _
      | refine LeO.ite ?_ ?_
      | refine LeO.bind ?_ (fun _ => ?_)
set_option maxHeartbeats 8000000 in
set_option maxRecDepth 100000 in
theorem jigsawlaw01_IntsMeets.calls (k : Nat) (a0 : Int) (a1 : Int) (r : Bool) (w : World) (h : jigsawlaw01_IntsMeets.f k a0 a1 = some r) :
    Calls Try.prog 7 #[.int .i64 a0, .int .i64 a1] w fun e w' => e = .returned (.bool r) ∧ Below w.heap.size w w' := by
  have HB := Aside0.mk (Below.refl w.heap.size w)
  have H : ((ints_Div.f k a0 a1).bind fun bt386 => ((ints_Mod.f k a0 a1).bind fun bt388 => ((ints_Floor.f k a0 a1).bind fun bt390 => ((ints_Ceil.f k a0 a1).bind fun bt392 => (if bt386.2 = 0 then (jigsawlaw01_IntsMeets.j0 k a0 a1 bt386.1 bt388.1 bt390.1 bt390.2 bt392.1 bt392.2 (bt388.2 == 0)) else (jigsawlaw01_IntsMeets.j0 k a0 a1 bt386.1 bt388.1 bt390.1 bt390.2 bt392.1 bt392.2 false)))))) = some r := h
  clear h
  replace H := Option.bind_eq_some_iff.mp H
  obtain ⟨⟨t386, t387⟩, A30, H⟩ := H
  replace H : ((ints_Mod.f k a0 a1).bind fun bt388 => ((ints_Floor.f k a0 a1).bind fun bt390 => ((ints_Ceil.f k a0 a1).bind fun bt392 => (if t387 = 0 then (jigsawlaw01_IntsMeets.j0 k a0 a1 t386 bt388.1 bt390.1 bt390.2 bt392.1 bt392.2 (bt388.2 == 0)) else (jigsawlaw01_IntsMeets.j0 k a0 a1 t386 bt388.1 bt390.1 bt390.2 bt392.1 bt392.2 false))))) = some r := H
  have A3 := Aside0.mk A30
  clear A30
  replace H := Option.bind_eq_some_iff.mp H
  obtain ⟨⟨t388, t389⟩, A40, H⟩ := H
  replace H : ((ints_Floor.f k a0 a1).bind fun bt390 => ((ints_Ceil.f k a0 a1).bind fun bt392 => (if t387 = 0 then (jigsawlaw01_IntsMeets.j0 k a0 a1 t386 t388 bt390.1 bt390.2 bt392.1 bt392.2 (t389 == 0)) else (jigsawlaw01_IntsMeets.j0 k a0 a1 t386 t388 bt390.1 bt390.2 bt392.1 bt392.2 false)))) = some r := H
  have A4 := Aside0.mk A40
  clear A40
  replace H := Option.bind_eq_some_iff.mp H
  obtain ⟨⟨t390, t391⟩, A50, H⟩ := H
  replace H : ((ints_Ceil.f k a0 a1).bind fun bt392 => (if t387 = 0 then (jigsawlaw01_IntsMeets.j0 k a0 a1 t386 t388 t390 t391 bt392.1 bt392.2 (t389 == 0)) else (jigsawlaw01_IntsMeets.j0 k a0 a1 t386 t388 t390 t391 bt392.1 bt392.2 false))) = some r := H
  have A5 := Aside0.mk A50
  clear A50
  replace H := Option.bind_eq_some_iff.mp H
  obtain ⟨⟨t392, t393⟩, A60, H⟩ := H
  replace H : (if t387 = 0 then (jigsawlaw01_IntsMeets.j0 k a0 a1 t386 t388 t390 t391 t392 t393 (t389 == 0)) else (jigsawlaw01_IntsMeets.j0 k a0 a1 t386 t388 t390 t391 t392 t393 false)) = some r := H
  have A6 := Aside0.mk A60
  clear A60
  have HC7 := Aside0.mk H
  clear H
  go_enter Try.func7, Try.ntmps7
  go_upto_region 5 with (first | ((with_reducible refine gate_callee (f := 12) rfl ?_); refine goesL_ (some 23) rfl rfl Try.func12 (by kernel_rfl) rfl #[.int .i64 a0, .int .i64 a1] rfl (by (try simp only [List.map_toArray, List.map_cons, List.map_nil]); first | done | rfl | (simp only [List.length_drop, List.length_take]; rfl)) ?_; (with_reducible refine (ints_Div.calls k a0 a1 t386 t387 _ A3.out).mono ?_); rintro e w' ⟨rfl, ⟨nd, rfl⟩⟩; refine ⟨_, rfl, ?_⟩) | ((with_reducible refine gate_callee (f := 24) rfl ?_); refine goesL_ (some 29) rfl rfl Try.func24 (by kernel_rfl) rfl #[.int .i64 a0, .int .i64 a1] rfl (by (try simp only [List.map_toArray, List.map_cons, List.map_nil]); first | done | rfl | (simp only [List.length_drop, List.length_take]; rfl)) ?_; (with_reducible refine (ints_Mod.calls k a0 a1 t388 t389 _ A4.out).mono ?_); rintro e w' ⟨rfl, ⟨nd, rfl⟩⟩; refine ⟨_, rfl, ?_⟩) | ((with_reducible refine gate_callee (f := 26) rfl ?_); refine goesL_ (some 35) rfl rfl Try.func26 (by kernel_rfl) rfl #[.int .i64 a0, .int .i64 a1] rfl (by (try simp only [List.map_toArray, List.map_cons, List.map_nil]); first | done | rfl | (simp only [List.length_drop, List.length_take]; rfl)) ?_; (with_reducible refine (ints_Floor.calls k a0 a1 t390 t391 _ A5.out).mono ?_); rintro e w' ⟨rfl, ⟨nd, rfl⟩⟩; refine ⟨_, rfl, ?_⟩) | ((with_reducible refine gate_callee (f := 28) rfl ?_); refine goesL_ (some 41) rfl rfl Try.func28 (by kernel_rfl) rfl #[.int .i64 a0, .int .i64 a1] rfl (by (try simp only [List.map_toArray, List.map_cons, List.map_nil]); first | done | rfl | (simp only [List.length_drop, List.length_take]; rfl)) ?_; (with_reducible refine (ints_Ceil.calls k a0 a1 t392 t393 _ A6.out).mono ?_); rintro e w' ⟨rfl, ⟨nd, rfl⟩⟩; refine ⟨_, rfl, ?_⟩))
  (try simp only [Act.put, List.setIfInBounds_toArray, List.set_cons_zero, List.set_cons_succ])
  go_cut [49] (fun v49 wc => ∃ (kq : Nat) (x49_6 : Bool), v49 = .bool x49_6 ∧ Aside0 (jigsawlaw01_IntsMeets.j0 kq a0 a1 t386 t388 t390 t391 t392 t393 x49_6 = some r) ∧ Aside0 (kq ≤ k) ∧ Aside0 (Below w.heap.size w wc))
  case first =>
    have H := HC7.out
    clear HC7
    by_cases c8 : t387 = 0
    · rw [if_pos c8] at H
      have c8b0 : (t387 == 0) = true := beq_iff_eq.mpr c8
      have c8b1 : (t387 != 0) = false := bne_eq_false_iff_eq.mpr c8
      clear c8
      (first | rw [c8b0] | (simp only [i64_w, i32_w]; rw [c8b0]) | skip)
      have H' := Aside0.mk H
      clear H
      go_wp2
      go_meet
      case rel => exact ⟨_, ((t389 == 0)), (by first | rfl | (simp; done) | (simp [*]; done)), H', ⟨by first | omega | exact Nat.le_refl _⟩, ⟨by repeat (first | (with_reducible first | exact HB.out | apply below_alloc | apply pw_below_drewN | apply below_drew1) | exact HB.out)⟩⟩
    · rw [if_neg c8] at H
      have c8b0 : (t387 == 0) = false := beq_eq_false_iff_ne.mpr c8
      have c8b1 : (t387 != 0) = true := bne_iff_ne.mpr c8
      (first | rw [c8b0] | (simp only [i64_w, i32_w]; rw [c8b0]) | skip)
      have H' := Aside0.mk H
      clear H
      go_wp2
      go_meet
      case rel => exact ⟨_, (false), (by first | rfl | (simp; done) | (simp [*]; done)), H', ⟨by first | omega | exact Nat.le_refl _⟩, ⟨by repeat (first | (with_reducible first | exact HB.out | apply below_alloc | apply pw_below_drewN | apply below_drew1) | exact HB.out)⟩⟩
  case rest =>
    clear HC7
    try clear c1
    try clear c2
    try clear p2
    try clear c7
    try clear c8
    try clear c8b0
    try clear c8b1
    obtain ⟨kq, x49_6, rfl, HA, HJ6, HB⟩ := hcut
    cases kq with
    | zero => exact absurd HA.out (by simp [jigsawlaw01_IntsMeets.j0])
    | succ kj6 =>
      have H := HA.out
      clear HA
      simp only [jigsawlaw01_IntsMeets.j0] at H
      have HC9 := Aside0.mk H
      clear H
      go_upto_if 49 with (fail)
      go_cut [] (fun wc => ∃ (kq : Nat), Aside0 (jigsawlaw01_IntsMeets.j1 kq a0 = some r) ∧ Aside0 (kq ≤ kj6) ∧ Aside0 (Below w.heap.size w wc))
      case first =>
        have H := HC9.out
        clear HC9
        by_cases c10 : x49_6 = true
        · subst c10
          have H1 : ((ints_Mul.f kj6 t386 a1).bind fun bt394 => ((ints_Add.f bt394.1 t388).bind fun bt396 => (if bt394.2 = 0 then (if bt396.2 = 0 then (if bt396.1 = a0 then (if t391 = 0 then (if t393 = 0 then (if t390 > t386 then (some false) else (if t392 < t386 then (some false) else (if (wrap64 (t392 - t390)) > 1 then (some false) else (if ((t392 == t390) != (t388 == 0)) = true then (some false) else (jigsawlaw01_IntsMeets.j1 kj6 a0))))) else (some false)) else (some false)) else (some false)) else (some false)) else (some false)))) = some r := by rw [if_pos rfl] at H; exact H
          clear H
          have H := H1
          clear H1
          replace H := Option.bind_eq_some_iff.mp H
          obtain ⟨⟨t394, t395⟩, A110, H⟩ := H
          replace H : ((ints_Add.f t394 t388).bind fun bt396 => (if t395 = 0 then (if bt396.2 = 0 then (if bt396.1 = a0 then (if t391 = 0 then (if t393 = 0 then (if t390 > t386 then (some false) else (if t392 < t386 then (some false) else (if (wrap64 (t392 - t390)) > 1 then (some false) else (if ((t392 == t390) != (t388 == 0)) = true then (some false) else (jigsawlaw01_IntsMeets.j1 kj6 a0))))) else (some false)) else (some false)) else (some false)) else (some false)) else (some false))) = some r := H
          have A11 := Aside0.mk A110
          clear A110
          replace H := Option.bind_eq_some_iff.mp H
          obtain ⟨⟨t396, t397⟩, A120, H⟩ := H
          replace H : (if t395 = 0 then (if t397 = 0 then (if t396 = a0 then (if t391 = 0 then (if t393 = 0 then (if t390 > t386 then (some false) else (if t392 < t386 then (some false) else (if (wrap64 (t392 - t390)) > 1 then (some false) else (if ((t392 == t390) != (t388 == 0)) = true then (some false) else (jigsawlaw01_IntsMeets.j1 kj6 a0))))) else (some false)) else (some false)) else (some false)) else (some false)) else (some false)) = some r := H
          have A12 := Aside0.mk A120
          clear A120
          by_cases c13 : t395 = 0
          · rw [if_pos c13] at H
            have c13b0 : (t395 == 0) = true := beq_iff_eq.mpr c13
            have c13b1 : (t395 != 0) = false := bne_eq_false_iff_eq.mpr c13
            clear c13
            (first | rw [c13b0] | (simp only [i64_w, i32_w]; rw [c13b0]) | skip)
            by_cases c14 : t397 = 0
            · rw [if_pos c14] at H
              have c14b0 : (t397 == 0) = true := beq_iff_eq.mpr c14
              have c14b1 : (t397 != 0) = false := bne_eq_false_iff_eq.mpr c14
              clear c14
              by_cases c15 : t396 = a0
              · rw [if_pos c15] at H
                have c15b0 : (t396 == a0) = true := beq_iff_eq.mpr c15
                have c15b1 : (t396 != a0) = false := bne_eq_false_iff_eq.mpr c15
                clear c15
                by_cases c16 : t391 = 0
                · rw [if_pos c16] at H
                  have c16b0 : (t391 == 0) = true := beq_iff_eq.mpr c16
                  have c16b1 : (t391 != 0) = false := bne_eq_false_iff_eq.mpr c16
                  clear c16
                  by_cases c17 : t393 = 0
                  · rw [if_pos c17] at H
                    have c17b0 : (t393 == 0) = true := beq_iff_eq.mpr c17
                    have c17b1 : (t393 != 0) = false := bne_eq_false_iff_eq.mpr c17
                    clear c17
                    by_cases c18 : t390 > t386
                    · rw [if_pos c18] at H
                      have c18b0 : decide (t386 < t390) = true := decide_eq_true c18
                      clear c18
                      obtain rfl := Option.some.inj H
                      go_wp2_with (first | ((with_reducible refine gate_callee (f := 11) rfl ?_); refine goesL_ (some 53) rfl rfl Try.func11 (by kernel_rfl) rfl #[.int .i64 t386, .int .i64 a1] rfl (by (try simp only [List.map_toArray, List.map_cons, List.map_nil]); first | done | rfl | (simp only [List.length_drop, List.length_take]; rfl)) ?_; (with_reducible refine (ints_Mul.calls kj6 t386 a1 t394 t395 _ A11.out).mono ?_); rintro e w' ⟨rfl, ⟨nd, rfl⟩⟩; refine ⟨_, rfl, ?_⟩) | ((with_reducible refine gate_callee (f := 9) rfl ?_); refine goesL_ (some 59) rfl rfl Try.func9 (by kernel_rfl) rfl #[.int .i64 t394, .int .i64 t388] rfl (by (try simp only [List.map_toArray, List.map_cons, List.map_nil]); first | done | rfl | (simp only [List.length_drop, List.length_take]; rfl)) ?_; (with_reducible refine (ints_Add.calls t394 t388 t396 t397 _ A12.out).mono ?_); rintro e w' ⟨rfl, ⟨nd, rfl⟩⟩; refine ⟨_, rfl, ?_⟩))
                      go_ret
                      exact ⟨by first | rfl | (simp [errW_none, errW_some] <;> rfl) | (simp [*, errW_none, errW_some] <;> rfl), by repeat (first | (with_reducible first | exact HB.out | apply below_alloc | apply pw_below_drewN | apply below_drew1) | exact HB.out)⟩
                    · rw [if_neg c18] at H
                      have c18b0 : decide (t386 < t390) = false := decide_eq_false c18
                      clear c18
                      by_cases c19 : t392 < t386
                      · rw [if_pos c19] at H
                        have c19b0 : decide (t392 < t386) = true := decide_eq_true c19
                        clear c19
                        obtain rfl := Option.some.inj H
                        go_wp2_with (first | ((with_reducible refine gate_callee (f := 11) rfl ?_); refine goesL_ (some 53) rfl rfl Try.func11 (by kernel_rfl) rfl #[.int .i64 t386, .int .i64 a1] rfl (by (try simp only [List.map_toArray, List.map_cons, List.map_nil]); first | done | rfl | (simp only [List.length_drop, List.length_take]; rfl)) ?_; (with_reducible refine (ints_Mul.calls kj6 t386 a1 t394 t395 _ A11.out).mono ?_); rintro e w' ⟨rfl, ⟨nd, rfl⟩⟩; refine ⟨_, rfl, ?_⟩) | ((with_reducible refine gate_callee (f := 9) rfl ?_); refine goesL_ (some 59) rfl rfl Try.func9 (by kernel_rfl) rfl #[.int .i64 t394, .int .i64 t388] rfl (by (try simp only [List.map_toArray, List.map_cons, List.map_nil]); first | done | rfl | (simp only [List.length_drop, List.length_take]; rfl)) ?_; (with_reducible refine (ints_Add.calls t394 t388 t396 t397 _ A12.out).mono ?_); rintro e w' ⟨rfl, ⟨nd, rfl⟩⟩; refine ⟨_, rfl, ?_⟩))
                        go_ret
                        exact ⟨by first | rfl | (simp [errW_none, errW_some] <;> rfl) | (simp [*, errW_none, errW_some] <;> rfl), by repeat (first | (with_reducible first | exact HB.out | apply below_alloc | apply pw_below_drewN | apply below_drew1) | exact HB.out)⟩
                      · rw [if_neg c19] at H
                        have c19b0 : decide (t392 < t386) = false := decide_eq_false c19
                        clear c19
                        by_cases c20 : (wrap64 (t392 - t390)) > 1
                        · rw [if_pos c20] at H
                          have c20b0 : decide (1 < (wrap64 (t392 - t390))) = true := decide_eq_true c20
                          clear c20
                          obtain rfl := Option.some.inj H
                          go_wp2_with (first | ((with_reducible refine gate_callee (f := 11) rfl ?_); refine goesL_ (some 53) rfl rfl Try.func11 (by kernel_rfl) rfl #[.int .i64 t386, .int .i64 a1] rfl (by (try simp only [List.map_toArray, List.map_cons, List.map_nil]); first | done | rfl | (simp only [List.length_drop, List.length_take]; rfl)) ?_; (with_reducible refine (ints_Mul.calls kj6 t386 a1 t394 t395 _ A11.out).mono ?_); rintro e w' ⟨rfl, ⟨nd, rfl⟩⟩; refine ⟨_, rfl, ?_⟩) | ((with_reducible refine gate_callee (f := 9) rfl ?_); refine goesL_ (some 59) rfl rfl Try.func9 (by kernel_rfl) rfl #[.int .i64 t394, .int .i64 t388] rfl (by (try simp only [List.map_toArray, List.map_cons, List.map_nil]); first | done | rfl | (simp only [List.length_drop, List.length_take]; rfl)) ?_; (with_reducible refine (ints_Add.calls t394 t388 t396 t397 _ A12.out).mono ?_); rintro e w' ⟨rfl, ⟨nd, rfl⟩⟩; refine ⟨_, rfl, ?_⟩))
                          go_ret
                          exact ⟨by first | rfl | (simp [errW_none, errW_some] <;> rfl) | (simp [*, errW_none, errW_some] <;> rfl), by repeat (first | (with_reducible first | exact HB.out | apply below_alloc | apply pw_below_drewN | apply below_drew1) | exact HB.out)⟩
                        · rw [if_neg c20] at H
                          have c20b0 : decide (1 < (wrap64 (t392 - t390))) = false := decide_eq_false c20
                          clear c20
                          by_cases c21 : ((t392 == t390) != (t388 == 0)) = true
                          · rw [if_pos c21] at H
                            have c21b0 : ((t392 == t390) != (t388 == 0)) = true := c21
                            (try (have c21b1 : decide ((t392 == t390) = (t388 == 0)) = false := by simpa using c21))
                            (try (have c21b2 : ((t392 == t390) == (t388 == 0)) = false := by simpa using c21))
                            (try (have c21b3 : ¬ ((t392 == t390) = (t388 == 0)) := by simpa using c21))
                            clear c21
                            obtain rfl := Option.some.inj H
                            go_wp2_with (first | ((with_reducible refine gate_callee (f := 11) rfl ?_); refine goesL_ (some 53) rfl rfl Try.func11 (by kernel_rfl) rfl #[.int .i64 t386, .int .i64 a1] rfl (by (try simp only [List.map_toArray, List.map_cons, List.map_nil]); first | done | rfl | (simp only [List.length_drop, List.length_take]; rfl)) ?_; (with_reducible refine (ints_Mul.calls kj6 t386 a1 t394 t395 _ A11.out).mono ?_); rintro e w' ⟨rfl, ⟨nd, rfl⟩⟩; refine ⟨_, rfl, ?_⟩) | ((with_reducible refine gate_callee (f := 9) rfl ?_); refine goesL_ (some 59) rfl rfl Try.func9 (by kernel_rfl) rfl #[.int .i64 t394, .int .i64 t388] rfl (by (try simp only [List.map_toArray, List.map_cons, List.map_nil]); first | done | rfl | (simp only [List.length_drop, List.length_take]; rfl)) ?_; (with_reducible refine (ints_Add.calls t394 t388 t396 t397 _ A12.out).mono ?_); rintro e w' ⟨rfl, ⟨nd, rfl⟩⟩; refine ⟨_, rfl, ?_⟩))
                            go_ret
                            exact ⟨by first | rfl | (simp [errW_none, errW_some] <;> rfl) | (simp [*, errW_none, errW_some] <;> rfl), by repeat (first | (with_reducible first | exact HB.out | apply below_alloc | apply pw_below_drewN | apply below_drew1) | exact HB.out)⟩
                          · rw [if_neg c21] at H
                            have c21b0 : ((t392 == t390) != (t388 == 0)) = false := by simpa using c21
                            (try (have c21b1 : decide ((t392 == t390) = (t388 == 0)) = true := by simpa using c21))
                            (try (have c21b2 : ((t392 == t390) == (t388 == 0)) = true := by simpa using c21))
                            clear c21
                            have H' := Aside0.mk H
                            clear H
                            go_wp2_with (first | ((with_reducible refine gate_callee (f := 11) rfl ?_); refine goesL_ (some 53) rfl rfl Try.func11 (by kernel_rfl) rfl #[.int .i64 t386, .int .i64 a1] rfl (by (try simp only [List.map_toArray, List.map_cons, List.map_nil]); first | done | rfl | (simp only [List.length_drop, List.length_take]; rfl)) ?_; (with_reducible refine (ints_Mul.calls kj6 t386 a1 t394 t395 _ A11.out).mono ?_); rintro e w' ⟨rfl, ⟨nd, rfl⟩⟩; refine ⟨_, rfl, ?_⟩) | ((with_reducible refine gate_callee (f := 9) rfl ?_); refine goesL_ (some 59) rfl rfl Try.func9 (by kernel_rfl) rfl #[.int .i64 t394, .int .i64 t388] rfl (by (try simp only [List.map_toArray, List.map_cons, List.map_nil]); first | done | rfl | (simp only [List.length_drop, List.length_take]; rfl)) ?_; (with_reducible refine (ints_Add.calls t394 t388 t396 t397 _ A12.out).mono ?_); rintro e w' ⟨rfl, ⟨nd, rfl⟩⟩; refine ⟨_, rfl, ?_⟩))
                            go_meet
                            case rel => exact ⟨_, H', ⟨by have := HJ6.out; first | omega | exact Nat.le_refl _⟩, ⟨by repeat (first | (with_reducible first | exact HB.out | apply below_alloc | apply pw_below_drewN | apply below_drew1) | exact HB.out)⟩⟩
                  · rw [if_neg c17] at H
                    have c17b0 : (t393 == 0) = false := beq_eq_false_iff_ne.mpr c17
                    have c17b1 : (t393 != 0) = true := bne_iff_ne.mpr c17
                    obtain rfl := Option.some.inj H
                    go_wp2_with (first | ((with_reducible refine gate_callee (f := 11) rfl ?_); refine goesL_ (some 53) rfl rfl Try.func11 (by kernel_rfl) rfl #[.int .i64 t386, .int .i64 a1] rfl (by (try simp only [List.map_toArray, List.map_cons, List.map_nil]); first | done | rfl | (simp only [List.length_drop, List.length_take]; rfl)) ?_; (with_reducible refine (ints_Mul.calls kj6 t386 a1 t394 t395 _ A11.out).mono ?_); rintro e w' ⟨rfl, ⟨nd, rfl⟩⟩; refine ⟨_, rfl, ?_⟩) | ((with_reducible refine gate_callee (f := 9) rfl ?_); refine goesL_ (some 59) rfl rfl Try.func9 (by kernel_rfl) rfl #[.int .i64 t394, .int .i64 t388] rfl (by (try simp only [List.map_toArray, List.map_cons, List.map_nil]); first | done | rfl | (simp only [List.length_drop, List.length_take]; rfl)) ?_; (with_reducible refine (ints_Add.calls t394 t388 t396 t397 _ A12.out).mono ?_); rintro e w' ⟨rfl, ⟨nd, rfl⟩⟩; refine ⟨_, rfl, ?_⟩))
                    go_ret
                    exact ⟨by first | rfl | (simp [errW_none, errW_some] <;> rfl) | (simp [*, errW_none, errW_some] <;> rfl), by repeat (first | (with_reducible first | exact HB.out | apply below_alloc | apply pw_below_drewN | apply below_drew1) | exact HB.out)⟩
                · rw [if_neg c16] at H
                  have c16b0 : (t391 == 0) = false := beq_eq_false_iff_ne.mpr c16
                  have c16b1 : (t391 != 0) = true := bne_iff_ne.mpr c16
                  obtain rfl := Option.some.inj H
                  go_wp2_with (first | ((with_reducible refine gate_callee (f := 11) rfl ?_); refine goesL_ (some 53) rfl rfl Try.func11 (by kernel_rfl) rfl #[.int .i64 t386, .int .i64 a1] rfl (by (try simp only [List.map_toArray, List.map_cons, List.map_nil]); first | done | rfl | (simp only [List.length_drop, List.length_take]; rfl)) ?_; (with_reducible refine (ints_Mul.calls kj6 t386 a1 t394 t395 _ A11.out).mono ?_); rintro e w' ⟨rfl, ⟨nd, rfl⟩⟩; refine ⟨_, rfl, ?_⟩) | ((with_reducible refine gate_callee (f := 9) rfl ?_); refine goesL_ (some 59) rfl rfl Try.func9 (by kernel_rfl) rfl #[.int .i64 t394, .int .i64 t388] rfl (by (try simp only [List.map_toArray, List.map_cons, List.map_nil]); first | done | rfl | (simp only [List.length_drop, List.length_take]; rfl)) ?_; (with_reducible refine (ints_Add.calls t394 t388 t396 t397 _ A12.out).mono ?_); rintro e w' ⟨rfl, ⟨nd, rfl⟩⟩; refine ⟨_, rfl, ?_⟩))
                  go_ret
                  exact ⟨by first | rfl | (simp [errW_none, errW_some] <;> rfl) | (simp [*, errW_none, errW_some] <;> rfl), by repeat (first | (with_reducible first | exact HB.out | apply below_alloc | apply pw_below_drewN | apply below_drew1) | exact HB.out)⟩
              · rw [if_neg c15] at H
                have c15b0 : (t396 == a0) = false := beq_eq_false_iff_ne.mpr c15
                have c15b1 : (t396 != a0) = true := bne_iff_ne.mpr c15
                obtain rfl := Option.some.inj H
                go_wp2_with (first | ((with_reducible refine gate_callee (f := 11) rfl ?_); refine goesL_ (some 53) rfl rfl Try.func11 (by kernel_rfl) rfl #[.int .i64 t386, .int .i64 a1] rfl (by (try simp only [List.map_toArray, List.map_cons, List.map_nil]); first | done | rfl | (simp only [List.length_drop, List.length_take]; rfl)) ?_; (with_reducible refine (ints_Mul.calls kj6 t386 a1 t394 t395 _ A11.out).mono ?_); rintro e w' ⟨rfl, ⟨nd, rfl⟩⟩; refine ⟨_, rfl, ?_⟩) | ((with_reducible refine gate_callee (f := 9) rfl ?_); refine goesL_ (some 59) rfl rfl Try.func9 (by kernel_rfl) rfl #[.int .i64 t394, .int .i64 t388] rfl (by (try simp only [List.map_toArray, List.map_cons, List.map_nil]); first | done | rfl | (simp only [List.length_drop, List.length_take]; rfl)) ?_; (with_reducible refine (ints_Add.calls t394 t388 t396 t397 _ A12.out).mono ?_); rintro e w' ⟨rfl, ⟨nd, rfl⟩⟩; refine ⟨_, rfl, ?_⟩))
                go_ret
                exact ⟨by first | rfl | (simp [errW_none, errW_some] <;> rfl) | (simp [*, errW_none, errW_some] <;> rfl), by repeat (first | (with_reducible first | exact HB.out | apply below_alloc | apply pw_below_drewN | apply below_drew1) | exact HB.out)⟩
            · rw [if_neg c14] at H
              have c14b0 : (t397 == 0) = false := beq_eq_false_iff_ne.mpr c14
              have c14b1 : (t397 != 0) = true := bne_iff_ne.mpr c14
              obtain rfl := Option.some.inj H
              go_wp2_with (first | ((with_reducible refine gate_callee (f := 11) rfl ?_); refine goesL_ (some 53) rfl rfl Try.func11 (by kernel_rfl) rfl #[.int .i64 t386, .int .i64 a1] rfl (by (try simp only [List.map_toArray, List.map_cons, List.map_nil]); first | done | rfl | (simp only [List.length_drop, List.length_take]; rfl)) ?_; (with_reducible refine (ints_Mul.calls kj6 t386 a1 t394 t395 _ A11.out).mono ?_); rintro e w' ⟨rfl, ⟨nd, rfl⟩⟩; refine ⟨_, rfl, ?_⟩) | ((with_reducible refine gate_callee (f := 9) rfl ?_); refine goesL_ (some 59) rfl rfl Try.func9 (by kernel_rfl) rfl #[.int .i64 t394, .int .i64 t388] rfl (by (try simp only [List.map_toArray, List.map_cons, List.map_nil]); first | done | rfl | (simp only [List.length_drop, List.length_take]; rfl)) ?_; (with_reducible refine (ints_Add.calls t394 t388 t396 t397 _ A12.out).mono ?_); rintro e w' ⟨rfl, ⟨nd, rfl⟩⟩; refine ⟨_, rfl, ?_⟩))
              go_ret
              exact ⟨by first | rfl | (simp [errW_none, errW_some] <;> rfl) | (simp [*, errW_none, errW_some] <;> rfl), by repeat (first | (with_reducible first | exact HB.out | apply below_alloc | apply pw_below_drewN | apply below_drew1) | exact HB.out)⟩
          · rw [if_neg c13] at H
            have c13b0 : (t395 == 0) = false := beq_eq_false_iff_ne.mpr c13
            have c13b1 : (t395 != 0) = true := bne_iff_ne.mpr c13
            (first | rw [c13b0] | (simp only [i64_w, i32_w]; rw [c13b0]) | skip)
            obtain rfl := Option.some.inj H
            go_wp2_with (first | ((with_reducible refine gate_callee (f := 11) rfl ?_); refine goesL_ (some 53) rfl rfl Try.func11 (by kernel_rfl) rfl #[.int .i64 t386, .int .i64 a1] rfl (by (try simp only [List.map_toArray, List.map_cons, List.map_nil]); first | done | rfl | (simp only [List.length_drop, List.length_take]; rfl)) ?_; (with_reducible refine (ints_Mul.calls kj6 t386 a1 t394 t395 _ A11.out).mono ?_); rintro e w' ⟨rfl, ⟨nd, rfl⟩⟩; refine ⟨_, rfl, ?_⟩) | ((with_reducible refine gate_callee (f := 9) rfl ?_); refine goesL_ (some 59) rfl rfl Try.func9 (by kernel_rfl) rfl #[.int .i64 t394, .int .i64 t388] rfl (by (try simp only [List.map_toArray, List.map_cons, List.map_nil]); first | done | rfl | (simp only [List.length_drop, List.length_take]; rfl)) ?_; (with_reducible refine (ints_Add.calls t394 t388 t396 t397 _ A12.out).mono ?_); rintro e w' ⟨rfl, ⟨nd, rfl⟩⟩; refine ⟨_, rfl, ?_⟩))
            go_ret
            exact ⟨by first | rfl | (simp [errW_none, errW_some] <;> rfl) | (simp [*, errW_none, errW_some] <;> rfl), by repeat (first | (with_reducible first | exact HB.out | apply below_alloc | apply pw_below_drewN | apply below_drew1) | exact HB.out)⟩
        · replace c10 := Bool.eq_false_iff.mpr c10
          subst c10
          have H1 : (jigsawlaw01_IntsMeets.j1 kj6 a0) = some r := by rw [if_neg (show ¬ (false = true) by decide)] at H; exact H
          clear H
          have H := H1
          clear H1
          have H' := Aside0.mk H
          clear H
          go_wp2
          go_meet
          case rel => exact ⟨_, H', ⟨by have := HJ6.out; first | omega | exact Nat.le_refl _⟩, ⟨by repeat (first | (with_reducible first | exact HB.out | apply below_alloc | apply pw_below_drewN | apply below_drew1) | exact HB.out)⟩⟩
      case rest =>
        clear HC9
        try clear c1
        try clear c2
        try clear p2
        try clear p6
        try clear c7
        try clear c8
        try clear c8b0
        try clear c8b1
        try clear c9
        try clear c10
        try clear c11
        try clear c12
        try clear c13
        try clear c13b0
        try clear c13b1
        try clear c14
        try clear c14b0
        try clear c14b1
        try clear c15
        try clear c15b0
        try clear c15b1
        try clear c16
        try clear c16b0
        try clear c16b1
        try clear c17
        try clear c17b0
        try clear c17b1
        try clear c18
        try clear c18b0
        try clear c19
        try clear c19b0
        try clear c20
        try clear c20b0
        try clear c21
        try clear c21b0
        try clear c21b1
        try clear c21b2
        try clear p2
        obtain ⟨kq, HA, HJ8, HB⟩ := hcut
        cases kq with
        | zero => exact absurd HA.out (by simp [jigsawlaw01_IntsMeets.j1])
        | succ kj8 =>
          have H := HA.out
          clear HA
          simp only [jigsawlaw01_IntsMeets.j1] at H
          replace H := Option.bind_eq_some_iff.mp H
          obtain ⟨⟨t398, t399⟩, A220, H⟩ := H
          replace H : (if t399 = 0 then ((ints_Mul.f kj8 t398 t398).bind fun bt400 => ((ints_Mul.f kj8 (wrap64 (t398 + 1)) (wrap64 (t398 + 1))).bind fun bt402 => (if bt400.2 = 0 then (if bt400.1 ≤ a0 then (if bt402.2 = 10 then ((jigsawlaw01_known.f kj8).bind fun t404 => (some t404)) else (if bt402.1 > a0 then ((jigsawlaw01_known.f kj8).bind fun t405 => (some t405)) else (some false))) else (some false)) else (some false)))) else (if a0 < 0 then ((jigsawlaw01_known.f kj8).bind fun t406 => (some t406)) else (some false))) = some r := H
          have A22 := Aside0.mk A220
          clear A220
          by_cases c23 : t399 = 0
          · rw [if_pos c23] at H
            have c23b0 : (t399 == 0) = true := beq_iff_eq.mpr c23
            have c23b1 : (t399 != 0) = false := bne_eq_false_iff_eq.mpr c23
            clear c23
            replace H := Option.bind_eq_some_iff.mp H
            obtain ⟨⟨t400, t401⟩, A240, H⟩ := H
            replace H : ((ints_Mul.f kj8 (wrap64 (t398 + 1)) (wrap64 (t398 + 1))).bind fun bt402 => (if t401 = 0 then (if t400 ≤ a0 then (if bt402.2 = 10 then ((jigsawlaw01_known.f kj8).bind fun t404 => (some t404)) else (if bt402.1 > a0 then ((jigsawlaw01_known.f kj8).bind fun t405 => (some t405)) else (some false))) else (some false)) else (some false))) = some r := H
            have A24 := Aside0.mk A240
            clear A240
            replace H := Option.bind_eq_some_iff.mp H
            obtain ⟨⟨t402, t403⟩, A250, H⟩ := H
            replace H : (if t401 = 0 then (if t400 ≤ a0 then (if t403 = 10 then ((jigsawlaw01_known.f kj8).bind fun t404 => (some t404)) else (if t402 > a0 then ((jigsawlaw01_known.f kj8).bind fun t405 => (some t405)) else (some false))) else (some false)) else (some false)) = some r := H
            have A25 := Aside0.mk A250
            clear A250
            by_cases c26 : t401 = 0
            · rw [if_pos c26] at H
              have c26b0 : (t401 == 0) = true := beq_iff_eq.mpr c26
              have c26b1 : (t401 != 0) = false := bne_eq_false_iff_eq.mpr c26
              clear c26
              by_cases c27 : t400 ≤ a0
              · rw [if_pos c27] at H
                have c27b0 : decide (t400 ≤ a0) = true := decide_eq_true c27
                clear c27
                by_cases c28 : t403 = 10
                · rw [if_pos c28] at H
                  have c28b0 : (t403 == 10) = true := beq_iff_eq.mpr c28
                  have c28b1 : (t403 != 10) = false := bne_eq_false_iff_eq.mpr c28
                  clear c28
                  replace H := Option.bind_eq_some_iff.mp H
                  obtain ⟨t404, A290, H⟩ := H
                  replace H : (some t404) = some r := H
                  have A29 := Aside0.mk A290
                  clear A290
                  obtain rfl := Option.some.inj H
                  go_wp2_with (first | ((with_reducible refine gate_callee (f := 30) rfl ?_); refine goesL_ (some 107) rfl rfl Try.func30 (by kernel_rfl) rfl #[.int .i64 a0] rfl (by (try simp only [List.map_toArray, List.map_cons, List.map_nil]); first | done | rfl | (simp only [List.length_drop, List.length_take]; rfl)) ?_; (with_reducible refine (ints_Root.calls kj8 a0 t398 t399 _ A22.out).mono ?_); rintro e w' ⟨rfl, ⟨nd, rfl⟩⟩; refine ⟨_, rfl, ?_⟩) | ((with_reducible refine gate_callee (f := 11) rfl ?_); refine goesL_ (some 120) rfl rfl Try.func11 (by kernel_rfl) rfl #[.int .i64 t398, .int .i64 t398] rfl (by (try simp only [List.map_toArray, List.map_cons, List.map_nil]); first | done | rfl | (simp only [List.length_drop, List.length_take]; rfl)) ?_; (with_reducible refine (ints_Mul.calls kj8 t398 t398 t400 t401 _ A24.out).mono ?_); rintro e w' ⟨rfl, ⟨nd, rfl⟩⟩; refine ⟨_, rfl, ?_⟩) | ((with_reducible refine gate_callee (f := 11) rfl ?_); refine goesL_ (some 128) rfl rfl Try.func11 (by kernel_rfl) rfl #[.int .i64 (wrap64 (t398 + 1)), .int .i64 (wrap64 (t398 + 1))] rfl (by (try simp only [List.map_toArray, List.map_cons, List.map_nil]); first | done | rfl | (simp only [List.length_drop, List.length_take]; rfl)) ?_; (with_reducible refine (ints_Mul.calls kj8 (wrap64 (t398 + 1)) (wrap64 (t398 + 1)) t402 t403 _ A25.out).mono ?_); rintro e w' ⟨rfl, ⟨nd, rfl⟩⟩; refine ⟨_, rfl, ?_⟩) | (go_at_call 13; (with_reducible refine (jigsawlaw01_known.calls kj8  t404 _ A29.out).mono ?_); rintro e w30 ⟨rfl, hb⟩; have n0_ := Aside0.mk (below_step (by repeat (first | (with_reducible first | exact HB.out | apply below_alloc | apply pw_below_drewN | apply below_drew1) | exact HB.out)) hb); clear HB; have HB := n0_; clear n0_; (try clear hb); (try clear hb2); (try clear hk); (try clear hi)))
                  go_ret
                  exact ⟨by first | rfl | (simp [errW_none, errW_some] <;> rfl) | (simp [*, errW_none, errW_some] <;> rfl), by repeat (first | (with_reducible first | exact HB.out | apply below_alloc | apply pw_below_drewN | apply below_drew1) | exact HB.out)⟩
                · rw [if_neg c28] at H
                  have c28b0 : (t403 == 10) = false := beq_eq_false_iff_ne.mpr c28
                  have c28b1 : (t403 != 10) = true := bne_iff_ne.mpr c28
                  by_cases c31 : t402 > a0
                  · rw [if_pos c31] at H
                    have c31b0 : decide (a0 < t402) = true := decide_eq_true c31
                    clear c31
                    replace H := Option.bind_eq_some_iff.mp H
                    obtain ⟨t405, A320, H⟩ := H
                    replace H : (some t405) = some r := H
                    have A32 := Aside0.mk A320
                    clear A320
                    obtain rfl := Option.some.inj H
                    go_wp2_with (first | ((with_reducible refine gate_callee (f := 30) rfl ?_); refine goesL_ (some 107) rfl rfl Try.func30 (by kernel_rfl) rfl #[.int .i64 a0] rfl (by (try simp only [List.map_toArray, List.map_cons, List.map_nil]); first | done | rfl | (simp only [List.length_drop, List.length_take]; rfl)) ?_; (with_reducible refine (ints_Root.calls kj8 a0 t398 t399 _ A22.out).mono ?_); rintro e w' ⟨rfl, ⟨nd, rfl⟩⟩; refine ⟨_, rfl, ?_⟩) | ((with_reducible refine gate_callee (f := 11) rfl ?_); refine goesL_ (some 120) rfl rfl Try.func11 (by kernel_rfl) rfl #[.int .i64 t398, .int .i64 t398] rfl (by (try simp only [List.map_toArray, List.map_cons, List.map_nil]); first | done | rfl | (simp only [List.length_drop, List.length_take]; rfl)) ?_; (with_reducible refine (ints_Mul.calls kj8 t398 t398 t400 t401 _ A24.out).mono ?_); rintro e w' ⟨rfl, ⟨nd, rfl⟩⟩; refine ⟨_, rfl, ?_⟩) | ((with_reducible refine gate_callee (f := 11) rfl ?_); refine goesL_ (some 128) rfl rfl Try.func11 (by kernel_rfl) rfl #[.int .i64 (wrap64 (t398 + 1)), .int .i64 (wrap64 (t398 + 1))] rfl (by (try simp only [List.map_toArray, List.map_cons, List.map_nil]); first | done | rfl | (simp only [List.length_drop, List.length_take]; rfl)) ?_; (with_reducible refine (ints_Mul.calls kj8 (wrap64 (t398 + 1)) (wrap64 (t398 + 1)) t402 t403 _ A25.out).mono ?_); rintro e w' ⟨rfl, ⟨nd, rfl⟩⟩; refine ⟨_, rfl, ?_⟩) | (go_at_call 13; (with_reducible refine (jigsawlaw01_known.calls kj8  t405 _ A32.out).mono ?_); rintro e w33 ⟨rfl, hb⟩; have n0_ := Aside0.mk (below_step (by repeat (first | (with_reducible first | exact HB.out | apply below_alloc | apply pw_below_drewN | apply below_drew1) | exact HB.out)) hb); clear HB; have HB := n0_; clear n0_; (try clear hb); (try clear hb2); (try clear hk); (try clear hi)))
                    go_ret
                    exact ⟨by first | rfl | (simp [errW_none, errW_some] <;> rfl) | (simp [*, errW_none, errW_some] <;> rfl), by repeat (first | (with_reducible first | exact HB.out | apply below_alloc | apply pw_below_drewN | apply below_drew1) | exact HB.out)⟩
                  · rw [if_neg c31] at H
                    have c31b0 : decide (a0 < t402) = false := decide_eq_false c31
                    clear c31
                    obtain rfl := Option.some.inj H
                    go_wp2_with (first | ((with_reducible refine gate_callee (f := 30) rfl ?_); refine goesL_ (some 107) rfl rfl Try.func30 (by kernel_rfl) rfl #[.int .i64 a0] rfl (by (try simp only [List.map_toArray, List.map_cons, List.map_nil]); first | done | rfl | (simp only [List.length_drop, List.length_take]; rfl)) ?_; (with_reducible refine (ints_Root.calls kj8 a0 t398 t399 _ A22.out).mono ?_); rintro e w' ⟨rfl, ⟨nd, rfl⟩⟩; refine ⟨_, rfl, ?_⟩) | ((with_reducible refine gate_callee (f := 11) rfl ?_); refine goesL_ (some 120) rfl rfl Try.func11 (by kernel_rfl) rfl #[.int .i64 t398, .int .i64 t398] rfl (by (try simp only [List.map_toArray, List.map_cons, List.map_nil]); first | done | rfl | (simp only [List.length_drop, List.length_take]; rfl)) ?_; (with_reducible refine (ints_Mul.calls kj8 t398 t398 t400 t401 _ A24.out).mono ?_); rintro e w' ⟨rfl, ⟨nd, rfl⟩⟩; refine ⟨_, rfl, ?_⟩) | ((with_reducible refine gate_callee (f := 11) rfl ?_); refine goesL_ (some 128) rfl rfl Try.func11 (by kernel_rfl) rfl #[.int .i64 (wrap64 (t398 + 1)), .int .i64 (wrap64 (t398 + 1))] rfl (by (try simp only [List.map_toArray, List.map_cons, List.map_nil]); first | done | rfl | (simp only [List.length_drop, List.length_take]; rfl)) ?_; (with_reducible refine (ints_Mul.calls kj8 (wrap64 (t398 + 1)) (wrap64 (t398 + 1)) t402 t403 _ A25.out).mono ?_); rintro e w' ⟨rfl, ⟨nd, rfl⟩⟩; refine ⟨_, rfl, ?_⟩))
                    go_ret
                    exact ⟨by first | rfl | (simp [errW_none, errW_some] <;> rfl) | (simp [*, errW_none, errW_some] <;> rfl), by repeat (first | (with_reducible first | exact HB.out | apply below_alloc | apply pw_below_drewN | apply below_drew1) | exact HB.out)⟩
              · rw [if_neg c27] at H
                have c27b0 : decide (t400 ≤ a0) = false := decide_eq_false c27
                clear c27
                obtain rfl := Option.some.inj H
                go_wp2_with (first | ((with_reducible refine gate_callee (f := 30) rfl ?_); refine goesL_ (some 107) rfl rfl Try.func30 (by kernel_rfl) rfl #[.int .i64 a0] rfl (by (try simp only [List.map_toArray, List.map_cons, List.map_nil]); first | done | rfl | (simp only [List.length_drop, List.length_take]; rfl)) ?_; (with_reducible refine (ints_Root.calls kj8 a0 t398 t399 _ A22.out).mono ?_); rintro e w' ⟨rfl, ⟨nd, rfl⟩⟩; refine ⟨_, rfl, ?_⟩) | ((with_reducible refine gate_callee (f := 11) rfl ?_); refine goesL_ (some 120) rfl rfl Try.func11 (by kernel_rfl) rfl #[.int .i64 t398, .int .i64 t398] rfl (by (try simp only [List.map_toArray, List.map_cons, List.map_nil]); first | done | rfl | (simp only [List.length_drop, List.length_take]; rfl)) ?_; (with_reducible refine (ints_Mul.calls kj8 t398 t398 t400 t401 _ A24.out).mono ?_); rintro e w' ⟨rfl, ⟨nd, rfl⟩⟩; refine ⟨_, rfl, ?_⟩) | ((with_reducible refine gate_callee (f := 11) rfl ?_); refine goesL_ (some 128) rfl rfl Try.func11 (by kernel_rfl) rfl #[.int .i64 (wrap64 (t398 + 1)), .int .i64 (wrap64 (t398 + 1))] rfl (by (try simp only [List.map_toArray, List.map_cons, List.map_nil]); first | done | rfl | (simp only [List.length_drop, List.length_take]; rfl)) ?_; (with_reducible refine (ints_Mul.calls kj8 (wrap64 (t398 + 1)) (wrap64 (t398 + 1)) t402 t403 _ A25.out).mono ?_); rintro e w' ⟨rfl, ⟨nd, rfl⟩⟩; refine ⟨_, rfl, ?_⟩))
                go_ret
                exact ⟨by first | rfl | (simp [errW_none, errW_some] <;> rfl) | (simp [*, errW_none, errW_some] <;> rfl), by repeat (first | (with_reducible first | exact HB.out | apply below_alloc | apply pw_below_drewN | apply below_drew1) | exact HB.out)⟩
            · rw [if_neg c26] at H
              have c26b0 : (t401 == 0) = false := beq_eq_false_iff_ne.mpr c26
              have c26b1 : (t401 != 0) = true := bne_iff_ne.mpr c26
              obtain rfl := Option.some.inj H
              go_wp2_with (first | ((with_reducible refine gate_callee (f := 30) rfl ?_); refine goesL_ (some 107) rfl rfl Try.func30 (by kernel_rfl) rfl #[.int .i64 a0] rfl (by (try simp only [List.map_toArray, List.map_cons, List.map_nil]); first | done | rfl | (simp only [List.length_drop, List.length_take]; rfl)) ?_; (with_reducible refine (ints_Root.calls kj8 a0 t398 t399 _ A22.out).mono ?_); rintro e w' ⟨rfl, ⟨nd, rfl⟩⟩; refine ⟨_, rfl, ?_⟩) | ((with_reducible refine gate_callee (f := 11) rfl ?_); refine goesL_ (some 120) rfl rfl Try.func11 (by kernel_rfl) rfl #[.int .i64 t398, .int .i64 t398] rfl (by (try simp only [List.map_toArray, List.map_cons, List.map_nil]); first | done | rfl | (simp only [List.length_drop, List.length_take]; rfl)) ?_; (with_reducible refine (ints_Mul.calls kj8 t398 t398 t400 t401 _ A24.out).mono ?_); rintro e w' ⟨rfl, ⟨nd, rfl⟩⟩; refine ⟨_, rfl, ?_⟩) | ((with_reducible refine gate_callee (f := 11) rfl ?_); refine goesL_ (some 128) rfl rfl Try.func11 (by kernel_rfl) rfl #[.int .i64 (wrap64 (t398 + 1)), .int .i64 (wrap64 (t398 + 1))] rfl (by (try simp only [List.map_toArray, List.map_cons, List.map_nil]); first | done | rfl | (simp only [List.length_drop, List.length_take]; rfl)) ?_; (with_reducible refine (ints_Mul.calls kj8 (wrap64 (t398 + 1)) (wrap64 (t398 + 1)) t402 t403 _ A25.out).mono ?_); rintro e w' ⟨rfl, ⟨nd, rfl⟩⟩; refine ⟨_, rfl, ?_⟩))
              go_ret
              exact ⟨by first | rfl | (simp [errW_none, errW_some] <;> rfl) | (simp [*, errW_none, errW_some] <;> rfl), by repeat (first | (with_reducible first | exact HB.out | apply below_alloc | apply pw_below_drewN | apply below_drew1) | exact HB.out)⟩
          · rw [if_neg c23] at H
            have c23b0 : (t399 == 0) = false := beq_eq_false_iff_ne.mpr c23
            have c23b1 : (t399 != 0) = true := bne_iff_ne.mpr c23
            by_cases c34 : a0 < 0
            · rw [if_pos c34] at H
              have c34b0 : decide (a0 < 0) = true := decide_eq_true c34
              clear c34
              replace H := Option.bind_eq_some_iff.mp H
              obtain ⟨t406, A350, H⟩ := H
              replace H : (some t406) = some r := H
              have A35 := Aside0.mk A350
              clear A350
              obtain rfl := Option.some.inj H
              go_wp2_with (first | ((with_reducible refine gate_callee (f := 30) rfl ?_); refine goesL_ (some 107) rfl rfl Try.func30 (by kernel_rfl) rfl #[.int .i64 a0] rfl (by (try simp only [List.map_toArray, List.map_cons, List.map_nil]); first | done | rfl | (simp only [List.length_drop, List.length_take]; rfl)) ?_; (with_reducible refine (ints_Root.calls kj8 a0 t398 t399 _ A22.out).mono ?_); rintro e w' ⟨rfl, ⟨nd, rfl⟩⟩; refine ⟨_, rfl, ?_⟩) | (go_at_call 13; (with_reducible refine (jigsawlaw01_known.calls kj8  t406 _ A35.out).mono ?_); rintro e w36 ⟨rfl, hb⟩; have n0_ := Aside0.mk (below_step (by repeat (first | (with_reducible first | exact HB.out | apply below_alloc | apply pw_below_drewN | apply below_drew1) | exact HB.out)) hb); clear HB; have HB := n0_; clear n0_; (try clear hb); (try clear hb2); (try clear hk); (try clear hi)))
              go_ret
              exact ⟨by first | rfl | (simp [errW_none, errW_some] <;> rfl) | (simp [*, errW_none, errW_some] <;> rfl), by repeat (first | (with_reducible first | exact HB.out | apply below_alloc | apply pw_below_drewN | apply below_drew1) | exact HB.out)⟩
            · rw [if_neg c34] at H
              have c34b0 : decide (a0 < 0) = false := decide_eq_false c34
              clear c34
              obtain rfl := Option.some.inj H
              go_wp2_with (first | ((with_reducible refine gate_callee (f := 30) rfl ?_); refine goesL_ (some 107) rfl rfl Try.func30 (by kernel_rfl) rfl #[.int .i64 a0] rfl (by (try simp only [List.map_toArray, List.map_cons, List.map_nil]); first | done | rfl | (simp only [List.length_drop, List.length_take]; rfl)) ?_; (with_reducible refine (ints_Root.calls kj8 a0 t398 t399 _ A22.out).mono ?_); rintro e w' ⟨rfl, ⟨nd, rfl⟩⟩; refine ⟨_, rfl, ?_⟩))
              go_ret
              exact ⟨by first | rfl | (simp [errW_none, errW_some] <;> rfl) | (simp [*, errW_none, errW_some] <;> rfl), by repeat (first | (with_reducible first | exact HB.out | apply below_alloc | apply pw_below_drewN | apply below_drew1) | exact HB.out)⟩

/-- THE ONE PURE STATEMENT of jigsawlaw01_IntsMeets: yours. -/
def jigsawlaw01_IntsMeets.Pure : Prop := ∀ (a0 : Int) (a1 : Int), (Lit.int .i64 a0).wf = true → (Lit.int .i64 a1).wf = true → ∃ k, jigsawlaw01_IntsMeets.f k a0 a1 = some true
theorem jigsawlaw01_IntsMeets.walk (P : jigsawlaw01_IntsMeets.Pure) (a0 : Int) (a1 : Int) (w : World) (w0 : (Lit.int .i64 a0).wf = true) (w1 : (Lit.int .i64 a1).wf = true) :
    Calls Try.prog 7 #[.int .i64 a0, .int .i64 a1] w fun e w' => e = .returned (.bool true) ∧ Below w.heap.size w w' := by
  obtain ⟨k, h⟩ := P a0 a1 w0 w1
  refine (jigsawlaw01_IntsMeets.calls k a0 a1 true w h).mono ?_
  rintro e w' ⟨rfl, hd⟩
  exact ⟨rfl, hd⟩

end Go.Proofs.Ytfkbkcdiajjljaa.PA
