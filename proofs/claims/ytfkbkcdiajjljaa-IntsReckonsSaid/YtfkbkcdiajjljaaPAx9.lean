/- The functions that these laws reach, each as a Lean function, with the proof that the Go code comes to what it answers: for every input for which it answers. Text by a program for this claim. -/
import Derived.Test.YtfkbkcdiajjljaaPAx0
import Derived.Test.YtfkbkcdiajjljaaPAx1
import Derived.Test.YtfkbkcdiajjljaaPAx2
import Derived.Test.YtfkbkcdiajjljaaPAx3
import Derived.Test.YtfkbkcdiajjljaaPAx6
import Derived.Test.YtfkbkcdiajjljaaPAx8
namespace Go.Proofs.Ytfkbkcdiajjljaa.PA
open Go.RowKit Go.Proofs.YtfkbkcdiajjljaaW.PrintWords Go.Proofs.YtfkbkcdiajjljaaW.PrintLast Go.Proofs.YtfkbkcdiajjljaaW.PrintMore
attribute [local go_sem] max2_int min2_int max_two min_two max_three min_three max_four min_four   -- for this text's walks alone
set_option linter.unusedVariables false
set_option linter.unusedSimpArgs false

/-! ### jigsawlaw01_IntsReckons: function 4 -/
def jigsawlaw01_IntsReckons.j0 : Nat → Int → Bool → Option (Bool)
  | 0, _, _ => none
  | k + 1, x0, x114 => if x114 = true then (some false) else ((ints_Neg.f x0).bind fun bt330 => ((jigsawref01_Neg.f k x0).bind fun bt332 => ((ints_Abs.f k x0).bind fun bt334 => ((jigsawref01_Abs.f k x0).bind fun bt336 => (if bt330.1 = bt332.1 then (if bt330.2 = bt332.2 then (if bt334.1 = bt336.1 then (if bt334.2 = bt336.2 then ((jigsawlaw01_known.f k).bind fun t338 => (some t338)) else (some false)) else (some false)) else (some false)) else (some false))))))
def jigsawlaw01_IntsReckons.f (k : Nat) (a0 : Int) (a1 : Int) : Option (Bool) := (ints_Add.f a0 a1).bind fun bt314 => ((jigsawref01_Add.f k a0 a1).bind fun bt316 => ((ints_Sub.f a0 a1).bind fun bt318 => ((jigsawref01_Sub.f k a0 a1).bind fun bt320 => ((ints_Mul.f k a0 a1).bind fun bt322 => ((jigsawref01_Mul.f k a0 a1).bind fun bt324 => ((ints_Pow.f a0 a1).bind fun bt326 => ((jigsawref01_Pow.f k a0 a1).bind fun bt328 => (if bt314.1 = bt316.1 then (if bt314.2 = bt316.2 then (if bt318.1 = bt320.1 then (if bt318.2 = bt320.2 then (if bt322.1 = bt324.1 then (if bt322.2 = bt324.2 then (if bt326.1 = bt328.1 then (jigsawlaw01_IntsReckons.j0 k a0 (bt326.2 != bt328.2)) else (jigsawlaw01_IntsReckons.j0 k a0 true)) else (jigsawlaw01_IntsReckons.j0 k a0 true)) else (jigsawlaw01_IntsReckons.j0 k a0 true)) else (jigsawlaw01_IntsReckons.j0 k a0 true)) else (jigsawlaw01_IntsReckons.j0 k a0 true)) else (jigsawlaw01_IntsReckons.j0 k a0 true)) else (jigsawlaw01_IntsReckons.j0 k a0 true)))))))))
theorem jigsawlaw01_IntsReckons.mono_l : ∀ k, (∀ y0 y1, LeO (jigsawlaw01_IntsReckons.j0 k y0 y1) (jigsawlaw01_IntsReckons.j0 (k + 1) y0 y1))
  | 0 => fun _ _ r h => by simp [jigsawlaw01_IntsReckons.j0] at h
  | k + 1 => by
    have ih0 := jigsawlaw01_IntsReckons.mono_l k
    · intro y0 y1
      unfold jigsawlaw01_IntsReckons.j0
      repeat' first
      | (with_reducible exact ih0 _ _)
      | (with_reducible exact ints_Abs.mono _ _)
      | (with_reducible exact ints_Mul.mono _ _ _)
      | (with_reducible exact jigsawlaw01_known.mono _)
      | (with_reducible exact jigsawref01_Abs.mono _ _)
      | (with_reducible exact jigsawref01_Add.mono _ _ _)
      | (with_reducible exact jigsawref01_Mul.mono _ _ _)
      | (with_reducible exact jigsawref01_Neg.mono _ _)
      | (with_reducible exact jigsawref01_Pow.mono _ _ _)
      | (with_reducible exact jigsawref01_Sub.mono _ _ _)
      | (with_reducible exact LeO.refl _)
      | (with_reducible exact LeO.none _)
      | (with_reducible refine LeO.ite ?_ ?_)
      | (with_reducible refine LeO.bind ?_ (fun _ => ?_))
      | exact ih0 _ _
      | exact ints_Abs.mono _ _
      | exact ints_Mul.mono _ _ _
      | exact jigsawlaw01_known.mono _
      | exact jigsawref01_Abs.mono _ _
      | exact jigsawref01_Add.mono _ _ _
      | exact jigsawref01_Mul.mono _ _ _
      | exact jigsawref01_Neg.mono _ _
      | exact jigsawref01_Pow.mono _ _ _
      | exact jigsawref01_Sub.mono _ _ _
      | exact LeO.none _
      | refine LeO.ite ?_ ?_
      | refine LeO.bind ?_ (fun _ => ?_)
theorem jigsawlaw01_IntsReckons.mono : ∀ a0 a1 k, LeO (jigsawlaw01_IntsReckons.f k a0 a1) (jigsawlaw01_IntsReckons.f (k + 1) a0 a1) := by
  intro a0 a1 k
  have ih0 := jigsawlaw01_IntsReckons.mono_l k
  unfold jigsawlaw01_IntsReckons.f
  repeat' first
      | (with_reducible exact ih0 _ _)
      | (with_reducible exact ints_Abs.mono _ _)
      | (with_reducible exact ints_Mul.mono _ _ _)
      | (with_reducible exact jigsawlaw01_known.mono _)
      | (with_reducible exact jigsawref01_Abs.mono _ _)
      | (with_reducible exact jigsawref01_Add.mono _ _ _)
      | (with_reducible exact jigsawref01_Mul.mono _ _ _)
      | (with_reducible exact jigsawref01_Neg.mono _ _)
      | (with_reducible exact jigsawref01_Pow.mono _ _ _)
      | (with_reducible exact jigsawref01_Sub.mono _ _ _)
      | (with_reducible exact LeO.refl _)
      | (with_reducible exact LeO.none _)
      | (with_reducible refine LeO.ite ?_ ?_)
      | (with_reducible refine LeO.bind ?_ (fun _ => ?_))
      | exact ih0 _ _
      | exact ints_Abs.mono _ _
      | exact ints_Mul.mono _ _ _
      | exact jigsawlaw01_known.mono _
      | exact jigsawref01_Abs.mono _ _
      | exact jigsawref01_Add.mono _ _ _
      | exact jigsawref01_Mul.mono _ _ _
      | exact jigsawref01_Neg.mono _ _
      | exact jigsawref01_Pow.mono _ _ _
      | exact jigsawref01_Sub.mono _ _ _
      | exact LeO.none _
      | refine LeO.ite ?_ ?_
      | refine LeO.bind ?_ (fun _ => ?_)
set_option maxHeartbeats 8000000 in
set_option maxRecDepth 100000 in
theorem jigsawlaw01_IntsReckons.calls (k : Nat) (a0 : Int) (a1 : Int) (r : Bool) (w : World) (h : jigsawlaw01_IntsReckons.f k a0 a1 = some r) :
    Calls Try.prog 4 #[.int .i64 a0, .int .i64 a1] w fun e w' => e = .returned (.bool r) ∧ Below w.heap.size w w' := by
  have HB := Aside0.mk (Below.refl w.heap.size w)
  have H : ((ints_Add.f a0 a1).bind fun bt314 => ((jigsawref01_Add.f k a0 a1).bind fun bt316 => ((ints_Sub.f a0 a1).bind fun bt318 => ((jigsawref01_Sub.f k a0 a1).bind fun bt320 => ((ints_Mul.f k a0 a1).bind fun bt322 => ((jigsawref01_Mul.f k a0 a1).bind fun bt324 => ((ints_Pow.f a0 a1).bind fun bt326 => ((jigsawref01_Pow.f k a0 a1).bind fun bt328 => (if bt314.1 = bt316.1 then (if bt314.2 = bt316.2 then (if bt318.1 = bt320.1 then (if bt318.2 = bt320.2 then (if bt322.1 = bt324.1 then (if bt322.2 = bt324.2 then (if bt326.1 = bt328.1 then (jigsawlaw01_IntsReckons.j0 k a0 (bt326.2 != bt328.2)) else (jigsawlaw01_IntsReckons.j0 k a0 true)) else (jigsawlaw01_IntsReckons.j0 k a0 true)) else (jigsawlaw01_IntsReckons.j0 k a0 true)) else (jigsawlaw01_IntsReckons.j0 k a0 true)) else (jigsawlaw01_IntsReckons.j0 k a0 true)) else (jigsawlaw01_IntsReckons.j0 k a0 true)) else (jigsawlaw01_IntsReckons.j0 k a0 true)))))))))) = some r := h
  clear h
  replace H := Option.bind_eq_some_iff.mp H
  obtain ⟨⟨t314, t315⟩, A30, H⟩ := H
  replace H : ((jigsawref01_Add.f k a0 a1).bind fun bt316 => ((ints_Sub.f a0 a1).bind fun bt318 => ((jigsawref01_Sub.f k a0 a1).bind fun bt320 => ((ints_Mul.f k a0 a1).bind fun bt322 => ((jigsawref01_Mul.f k a0 a1).bind fun bt324 => ((ints_Pow.f a0 a1).bind fun bt326 => ((jigsawref01_Pow.f k a0 a1).bind fun bt328 => (if t314 = bt316.1 then (if t315 = bt316.2 then (if bt318.1 = bt320.1 then (if bt318.2 = bt320.2 then (if bt322.1 = bt324.1 then (if bt322.2 = bt324.2 then (if bt326.1 = bt328.1 then (jigsawlaw01_IntsReckons.j0 k a0 (bt326.2 != bt328.2)) else (jigsawlaw01_IntsReckons.j0 k a0 true)) else (jigsawlaw01_IntsReckons.j0 k a0 true)) else (jigsawlaw01_IntsReckons.j0 k a0 true)) else (jigsawlaw01_IntsReckons.j0 k a0 true)) else (jigsawlaw01_IntsReckons.j0 k a0 true)) else (jigsawlaw01_IntsReckons.j0 k a0 true)) else (jigsawlaw01_IntsReckons.j0 k a0 true))))))))) = some r := H
  have A3 := Aside0.mk A30
  clear A30
  replace H := Option.bind_eq_some_iff.mp H
  obtain ⟨⟨t316, t317⟩, A40, H⟩ := H
  replace H : ((ints_Sub.f a0 a1).bind fun bt318 => ((jigsawref01_Sub.f k a0 a1).bind fun bt320 => ((ints_Mul.f k a0 a1).bind fun bt322 => ((jigsawref01_Mul.f k a0 a1).bind fun bt324 => ((ints_Pow.f a0 a1).bind fun bt326 => ((jigsawref01_Pow.f k a0 a1).bind fun bt328 => (if t314 = t316 then (if t315 = t317 then (if bt318.1 = bt320.1 then (if bt318.2 = bt320.2 then (if bt322.1 = bt324.1 then (if bt322.2 = bt324.2 then (if bt326.1 = bt328.1 then (jigsawlaw01_IntsReckons.j0 k a0 (bt326.2 != bt328.2)) else (jigsawlaw01_IntsReckons.j0 k a0 true)) else (jigsawlaw01_IntsReckons.j0 k a0 true)) else (jigsawlaw01_IntsReckons.j0 k a0 true)) else (jigsawlaw01_IntsReckons.j0 k a0 true)) else (jigsawlaw01_IntsReckons.j0 k a0 true)) else (jigsawlaw01_IntsReckons.j0 k a0 true)) else (jigsawlaw01_IntsReckons.j0 k a0 true)))))))) = some r := H
  have A4 := Aside0.mk A40
  clear A40
  replace H := Option.bind_eq_some_iff.mp H
  obtain ⟨⟨t318, t319⟩, A50, H⟩ := H
  replace H : ((jigsawref01_Sub.f k a0 a1).bind fun bt320 => ((ints_Mul.f k a0 a1).bind fun bt322 => ((jigsawref01_Mul.f k a0 a1).bind fun bt324 => ((ints_Pow.f a0 a1).bind fun bt326 => ((jigsawref01_Pow.f k a0 a1).bind fun bt328 => (if t314 = t316 then (if t315 = t317 then (if t318 = bt320.1 then (if t319 = bt320.2 then (if bt322.1 = bt324.1 then (if bt322.2 = bt324.2 then (if bt326.1 = bt328.1 then (jigsawlaw01_IntsReckons.j0 k a0 (bt326.2 != bt328.2)) else (jigsawlaw01_IntsReckons.j0 k a0 true)) else (jigsawlaw01_IntsReckons.j0 k a0 true)) else (jigsawlaw01_IntsReckons.j0 k a0 true)) else (jigsawlaw01_IntsReckons.j0 k a0 true)) else (jigsawlaw01_IntsReckons.j0 k a0 true)) else (jigsawlaw01_IntsReckons.j0 k a0 true)) else (jigsawlaw01_IntsReckons.j0 k a0 true))))))) = some r := H
  have A5 := Aside0.mk A50
  clear A50
  replace H := Option.bind_eq_some_iff.mp H
  obtain ⟨⟨t320, t321⟩, A60, H⟩ := H
  replace H : ((ints_Mul.f k a0 a1).bind fun bt322 => ((jigsawref01_Mul.f k a0 a1).bind fun bt324 => ((ints_Pow.f a0 a1).bind fun bt326 => ((jigsawref01_Pow.f k a0 a1).bind fun bt328 => (if t314 = t316 then (if t315 = t317 then (if t318 = t320 then (if t319 = t321 then (if bt322.1 = bt324.1 then (if bt322.2 = bt324.2 then (if bt326.1 = bt328.1 then (jigsawlaw01_IntsReckons.j0 k a0 (bt326.2 != bt328.2)) else (jigsawlaw01_IntsReckons.j0 k a0 true)) else (jigsawlaw01_IntsReckons.j0 k a0 true)) else (jigsawlaw01_IntsReckons.j0 k a0 true)) else (jigsawlaw01_IntsReckons.j0 k a0 true)) else (jigsawlaw01_IntsReckons.j0 k a0 true)) else (jigsawlaw01_IntsReckons.j0 k a0 true)) else (jigsawlaw01_IntsReckons.j0 k a0 true)))))) = some r := H
  have A6 := Aside0.mk A60
  clear A60
  replace H := Option.bind_eq_some_iff.mp H
  obtain ⟨⟨t322, t323⟩, A70, H⟩ := H
  replace H : ((jigsawref01_Mul.f k a0 a1).bind fun bt324 => ((ints_Pow.f a0 a1).bind fun bt326 => ((jigsawref01_Pow.f k a0 a1).bind fun bt328 => (if t314 = t316 then (if t315 = t317 then (if t318 = t320 then (if t319 = t321 then (if t322 = bt324.1 then (if t323 = bt324.2 then (if bt326.1 = bt328.1 then (jigsawlaw01_IntsReckons.j0 k a0 (bt326.2 != bt328.2)) else (jigsawlaw01_IntsReckons.j0 k a0 true)) else (jigsawlaw01_IntsReckons.j0 k a0 true)) else (jigsawlaw01_IntsReckons.j0 k a0 true)) else (jigsawlaw01_IntsReckons.j0 k a0 true)) else (jigsawlaw01_IntsReckons.j0 k a0 true)) else (jigsawlaw01_IntsReckons.j0 k a0 true)) else (jigsawlaw01_IntsReckons.j0 k a0 true))))) = some r := H
  have A7 := Aside0.mk A70
  clear A70
  replace H := Option.bind_eq_some_iff.mp H
  obtain ⟨⟨t324, t325⟩, A80, H⟩ := H
  replace H : ((ints_Pow.f a0 a1).bind fun bt326 => ((jigsawref01_Pow.f k a0 a1).bind fun bt328 => (if t314 = t316 then (if t315 = t317 then (if t318 = t320 then (if t319 = t321 then (if t322 = t324 then (if t323 = t325 then (if bt326.1 = bt328.1 then (jigsawlaw01_IntsReckons.j0 k a0 (bt326.2 != bt328.2)) else (jigsawlaw01_IntsReckons.j0 k a0 true)) else (jigsawlaw01_IntsReckons.j0 k a0 true)) else (jigsawlaw01_IntsReckons.j0 k a0 true)) else (jigsawlaw01_IntsReckons.j0 k a0 true)) else (jigsawlaw01_IntsReckons.j0 k a0 true)) else (jigsawlaw01_IntsReckons.j0 k a0 true)) else (jigsawlaw01_IntsReckons.j0 k a0 true)))) = some r := H
  have A8 := Aside0.mk A80
  clear A80
  replace H := Option.bind_eq_some_iff.mp H
  obtain ⟨⟨t326, t327⟩, A90, H⟩ := H
  replace H : ((jigsawref01_Pow.f k a0 a1).bind fun bt328 => (if t314 = t316 then (if t315 = t317 then (if t318 = t320 then (if t319 = t321 then (if t322 = t324 then (if t323 = t325 then (if t326 = bt328.1 then (jigsawlaw01_IntsReckons.j0 k a0 (t327 != bt328.2)) else (jigsawlaw01_IntsReckons.j0 k a0 true)) else (jigsawlaw01_IntsReckons.j0 k a0 true)) else (jigsawlaw01_IntsReckons.j0 k a0 true)) else (jigsawlaw01_IntsReckons.j0 k a0 true)) else (jigsawlaw01_IntsReckons.j0 k a0 true)) else (jigsawlaw01_IntsReckons.j0 k a0 true)) else (jigsawlaw01_IntsReckons.j0 k a0 true))) = some r := H
  have A9 := Aside0.mk A90
  clear A90
  replace H := Option.bind_eq_some_iff.mp H
  obtain ⟨⟨t328, t329⟩, A100, H⟩ := H
  replace H : (if t314 = t316 then (if t315 = t317 then (if t318 = t320 then (if t319 = t321 then (if t322 = t324 then (if t323 = t325 then (if t326 = t328 then (jigsawlaw01_IntsReckons.j0 k a0 (t327 != t329)) else (jigsawlaw01_IntsReckons.j0 k a0 true)) else (jigsawlaw01_IntsReckons.j0 k a0 true)) else (jigsawlaw01_IntsReckons.j0 k a0 true)) else (jigsawlaw01_IntsReckons.j0 k a0 true)) else (jigsawlaw01_IntsReckons.j0 k a0 true)) else (jigsawlaw01_IntsReckons.j0 k a0 true)) else (jigsawlaw01_IntsReckons.j0 k a0 true)) = some r := H
  have A10 := Aside0.mk A100
  clear A100
  have HC11 := Aside0.mk H
  clear H
  go_enter Try.func4, Try.ntmps4
  go_upto_region 9 with (first | ((with_reducible refine gate_callee (f := 9) rfl ?_); refine goesL_ (some 32) rfl rfl Try.func9 (by kernel_rfl) rfl #[.int .i64 a0, .int .i64 a1] rfl (by (try simp only [List.map_toArray, List.map_cons, List.map_nil]); first | done | rfl | (simp only [List.length_drop, List.length_take]; rfl)) ?_; (with_reducible refine (ints_Add.calls a0 a1 t314 t315 _ A3.out).mono ?_); rintro e w' ⟨rfl, ⟨nd, rfl⟩⟩; refine ⟨_, rfl, ?_⟩) | ((with_reducible refine gate_callee (f := 14) rfl ?_); refine goesL_ (some 38) rfl rfl Try.func14 (by kernel_rfl) rfl #[.int .i64 a0, .int .i64 a1] rfl (by (try simp only [List.map_toArray, List.map_cons, List.map_nil]); first | done | rfl | (simp only [List.length_drop, List.length_take]; rfl)) ?_; (with_reducible refine (jigsawref01_Add.calls k a0 a1 t316 t317 _ A4.out).mono ?_); rintro e w12 ⟨rfl, hb⟩; refine ⟨_, rfl, ?_⟩; have n0_ := Aside0.mk (below_step (by repeat (first | (with_reducible first | exact HB.out | apply below_alloc | apply pw_below_drewN | apply below_drew1) | exact HB.out)) hb); clear HB; have HB := n0_; clear n0_; (try clear hb); (try clear hb2); (try clear hk); (try clear hi)) | ((with_reducible refine gate_callee (f := 10) rfl ?_); refine goesL_ (some 44) rfl rfl Try.func10 (by kernel_rfl) rfl #[.int .i64 a0, .int .i64 a1] rfl (by (try simp only [List.map_toArray, List.map_cons, List.map_nil]); first | done | rfl | (simp only [List.length_drop, List.length_take]; rfl)) ?_; (with_reducible refine (ints_Sub.calls a0 a1 t318 t319 _ A5.out).mono ?_); rintro e w' ⟨rfl, ⟨nd, rfl⟩⟩; refine ⟨_, rfl, ?_⟩) | ((with_reducible refine gate_callee (f := 15) rfl ?_); refine goesL_ (some 50) rfl rfl Try.func15 (by kernel_rfl) rfl #[.int .i64 a0, .int .i64 a1] rfl (by (try simp only [List.map_toArray, List.map_cons, List.map_nil]); first | done | rfl | (simp only [List.length_drop, List.length_take]; rfl)) ?_; (with_reducible refine (jigsawref01_Sub.calls k a0 a1 t320 t321 _ A6.out).mono ?_); rintro e w13 ⟨rfl, hb⟩; refine ⟨_, rfl, ?_⟩; have n0_ := Aside0.mk (below_step (by repeat (first | (with_reducible first | exact HB.out | apply below_alloc | apply pw_below_drewN | apply below_drew1) | exact HB.out)) hb); clear HB; have HB := n0_; clear n0_; (try clear hb); (try clear hb2); (try clear hk); (try clear hi)) | ((with_reducible refine gate_callee (f := 11) rfl ?_); refine goesL_ (some 56) rfl rfl Try.func11 (by kernel_rfl) rfl #[.int .i64 a0, .int .i64 a1] rfl (by (try simp only [List.map_toArray, List.map_cons, List.map_nil]); first | done | rfl | (simp only [List.length_drop, List.length_take]; rfl)) ?_; (with_reducible refine (ints_Mul.calls k a0 a1 t322 t323 _ A7.out).mono ?_); rintro e w' ⟨rfl, ⟨nd, rfl⟩⟩; refine ⟨_, rfl, ?_⟩) | ((with_reducible refine gate_callee (f := 16) rfl ?_); refine goesL_ (some 62) rfl rfl Try.func16 (by kernel_rfl) rfl #[.int .i64 a0, .int .i64 a1] rfl (by (try simp only [List.map_toArray, List.map_cons, List.map_nil]); first | done | rfl | (simp only [List.length_drop, List.length_take]; rfl)) ?_; (with_reducible refine (jigsawref01_Mul.calls k a0 a1 t324 t325 _ A8.out).mono ?_); rintro e w14 ⟨rfl, hb⟩; refine ⟨_, rfl, ?_⟩; have n0_ := Aside0.mk (below_step (by repeat (first | (with_reducible first | exact HB.out | apply below_alloc | apply pw_below_drewN | apply below_drew1) | exact HB.out)) hb); clear HB; have HB := n0_; clear n0_; (try clear hb); (try clear hb2); (try clear hk); (try clear hi)) | ((with_reducible refine gate_callee (f := 17) rfl ?_); refine goesL_ (some 68) rfl rfl Try.func17 (by kernel_rfl) rfl #[.int .i64 a0, .int .i64 a1] rfl (by (try simp only [List.map_toArray, List.map_cons, List.map_nil]); first | done | rfl | (simp only [List.length_drop, List.length_take]; rfl)) ?_; (with_reducible refine (ints_Pow.calls a0 a1 t326 t327 _ A9.out).mono ?_); rintro e w15 ⟨rfl, hb⟩; refine ⟨_, rfl, ?_⟩; have n0_ := Aside0.mk (below_step (by repeat (first | (with_reducible first | exact HB.out | apply below_alloc | apply pw_below_drewN | apply below_drew1) | exact HB.out)) hb); clear HB; have HB := n0_; clear n0_; (try clear hb); (try clear hb2); (try clear hk); (try clear hi)) | ((with_reducible refine gate_callee (f := 18) rfl ?_); refine goesL_ (some 74) rfl rfl Try.func18 (by kernel_rfl) rfl #[.int .i64 a0, .int .i64 a1] rfl (by (try simp only [List.map_toArray, List.map_cons, List.map_nil]); first | done | rfl | (simp only [List.length_drop, List.length_take]; rfl)) ?_; (with_reducible refine (jigsawref01_Pow.calls k a0 a1 t328 t329 _ A10.out).mono ?_); rintro e w16 ⟨rfl, hb⟩; refine ⟨_, rfl, ?_⟩; have n0_ := Aside0.mk (below_step (by repeat (first | (with_reducible first | exact HB.out | apply below_alloc | apply pw_below_drewN | apply below_drew1) | exact HB.out)) hb); clear HB; have HB := n0_; clear n0_; (try clear hb); (try clear hb2); (try clear hk); (try clear hi)))
  (try simp only [Act.put, List.setIfInBounds_toArray, List.set_cons_zero, List.set_cons_succ])
  go_cut [114] (fun v114 wc => ∃ (kq : Nat) (x114_10 : Bool), v114 = .bool x114_10 ∧ Aside0 (jigsawlaw01_IntsReckons.j0 kq a0 x114_10 = some r) ∧ Aside0 (kq ≤ k) ∧ Aside0 (Below w.heap.size w wc))
  case first =>
    have H := HC11.out
    clear HC11
    by_cases c17 : t314 = t316
    · rw [if_pos c17] at H
      have c17b0 : (t314 == t316) = true := beq_iff_eq.mpr c17
      have c17b1 : (t314 != t316) = false := bne_eq_false_iff_eq.mpr c17
      clear c17
      (first | rw [c17b0] | (simp only [i64_w, i32_w]; rw [c17b0]) | skip)
      by_cases c18 : t315 = t317
      · rw [if_pos c18] at H
        have c18b0 : (t315 == t317) = true := beq_iff_eq.mpr c18
        have c18b1 : (t315 != t317) = false := bne_eq_false_iff_eq.mpr c18
        clear c18
        by_cases c19 : t318 = t320
        · rw [if_pos c19] at H
          have c19b0 : (t318 == t320) = true := beq_iff_eq.mpr c19
          have c19b1 : (t318 != t320) = false := bne_eq_false_iff_eq.mpr c19
          clear c19
          by_cases c20 : t319 = t321
          · rw [if_pos c20] at H
            have c20b0 : (t319 == t321) = true := beq_iff_eq.mpr c20
            have c20b1 : (t319 != t321) = false := bne_eq_false_iff_eq.mpr c20
            clear c20
            by_cases c21 : t322 = t324
            · rw [if_pos c21] at H
              have c21b0 : (t322 == t324) = true := beq_iff_eq.mpr c21
              have c21b1 : (t322 != t324) = false := bne_eq_false_iff_eq.mpr c21
              clear c21
              by_cases c22 : t323 = t325
              · rw [if_pos c22] at H
                have c22b0 : (t323 == t325) = true := beq_iff_eq.mpr c22
                have c22b1 : (t323 != t325) = false := bne_eq_false_iff_eq.mpr c22
                clear c22
                by_cases c23 : t326 = t328
                · rw [if_pos c23] at H
                  have c23b0 : (t326 == t328) = true := beq_iff_eq.mpr c23
                  have c23b1 : (t326 != t328) = false := bne_eq_false_iff_eq.mpr c23
                  clear c23
                  have H' := Aside0.mk H
                  clear H
                  go_wp2
                  go_meet
                  case rel => exact ⟨_, ((t327 != t329)), (by first | rfl | (simp; done) | (simp [*]; done)), H', ⟨by first | omega | exact Nat.le_refl _⟩, ⟨by repeat (first | (with_reducible first | exact HB.out | apply below_alloc | apply pw_below_drewN | apply below_drew1) | exact HB.out)⟩⟩
                · rw [if_neg c23] at H
                  have c23b0 : (t326 == t328) = false := beq_eq_false_iff_ne.mpr c23
                  have c23b1 : (t326 != t328) = true := bne_iff_ne.mpr c23
                  have H' := Aside0.mk H
                  clear H
                  go_wp2
                  go_meet
                  case rel => exact ⟨_, (true), (by first | rfl | (simp; done) | (simp [*]; done)), H', ⟨by first | omega | exact Nat.le_refl _⟩, ⟨by repeat (first | (with_reducible first | exact HB.out | apply below_alloc | apply pw_below_drewN | apply below_drew1) | exact HB.out)⟩⟩
              · rw [if_neg c22] at H
                have c22b0 : (t323 == t325) = false := beq_eq_false_iff_ne.mpr c22
                have c22b1 : (t323 != t325) = true := bne_iff_ne.mpr c22
                have H' := Aside0.mk H
                clear H
                go_wp2
                go_meet
                case rel => exact ⟨_, (true), (by first | rfl | (simp; done) | (simp [*]; done)), H', ⟨by first | omega | exact Nat.le_refl _⟩, ⟨by repeat (first | (with_reducible first | exact HB.out | apply below_alloc | apply pw_below_drewN | apply below_drew1) | exact HB.out)⟩⟩
            · rw [if_neg c21] at H
              have c21b0 : (t322 == t324) = false := beq_eq_false_iff_ne.mpr c21
              have c21b1 : (t322 != t324) = true := bne_iff_ne.mpr c21
              have H' := Aside0.mk H
              clear H
              go_wp2
              go_meet
              case rel => exact ⟨_, (true), (by first | rfl | (simp; done) | (simp [*]; done)), H', ⟨by first | omega | exact Nat.le_refl _⟩, ⟨by repeat (first | (with_reducible first | exact HB.out | apply below_alloc | apply pw_below_drewN | apply below_drew1) | exact HB.out)⟩⟩
          · rw [if_neg c20] at H
            have c20b0 : (t319 == t321) = false := beq_eq_false_iff_ne.mpr c20
            have c20b1 : (t319 != t321) = true := bne_iff_ne.mpr c20
            have H' := Aside0.mk H
            clear H
            go_wp2
            go_meet
            case rel => exact ⟨_, (true), (by first | rfl | (simp; done) | (simp [*]; done)), H', ⟨by first | omega | exact Nat.le_refl _⟩, ⟨by repeat (first | (with_reducible first | exact HB.out | apply below_alloc | apply pw_below_drewN | apply below_drew1) | exact HB.out)⟩⟩
        · rw [if_neg c19] at H
          have c19b0 : (t318 == t320) = false := beq_eq_false_iff_ne.mpr c19
          have c19b1 : (t318 != t320) = true := bne_iff_ne.mpr c19
          have H' := Aside0.mk H
          clear H
          go_wp2
          go_meet
          case rel => exact ⟨_, (true), (by first | rfl | (simp; done) | (simp [*]; done)), H', ⟨by first | omega | exact Nat.le_refl _⟩, ⟨by repeat (first | (with_reducible first | exact HB.out | apply below_alloc | apply pw_below_drewN | apply below_drew1) | exact HB.out)⟩⟩
      · rw [if_neg c18] at H
        have c18b0 : (t315 == t317) = false := beq_eq_false_iff_ne.mpr c18
        have c18b1 : (t315 != t317) = true := bne_iff_ne.mpr c18
        have H' := Aside0.mk H
        clear H
        go_wp2
        go_meet
        case rel => exact ⟨_, (true), (by first | rfl | (simp; done) | (simp [*]; done)), H', ⟨by first | omega | exact Nat.le_refl _⟩, ⟨by repeat (first | (with_reducible first | exact HB.out | apply below_alloc | apply pw_below_drewN | apply below_drew1) | exact HB.out)⟩⟩
    · rw [if_neg c17] at H
      have c17b0 : (t314 == t316) = false := beq_eq_false_iff_ne.mpr c17
      have c17b1 : (t314 != t316) = true := bne_iff_ne.mpr c17
      (first | rw [c17b0] | (simp only [i64_w, i32_w]; rw [c17b0]) | skip)
      have H' := Aside0.mk H
      clear H
      go_wp2
      go_meet
      case rel => exact ⟨_, (true), (by first | rfl | (simp; done) | (simp [*]; done)), H', ⟨by first | omega | exact Nat.le_refl _⟩, ⟨by repeat (first | (with_reducible first | exact HB.out | apply below_alloc | apply pw_below_drewN | apply below_drew1) | exact HB.out)⟩⟩
  case rest =>
    clear HC11
    try clear c1
    try clear c2
    try clear p2
    try clear c4
    try clear c9
    try clear c10
    try clear c11
    try clear c14
    try clear c15
    try clear c16
    try clear c17
    try clear c17b0
    try clear c17b1
    try clear c18
    try clear c18b0
    try clear c18b1
    try clear c19
    try clear c19b0
    try clear c19b1
    try clear c20
    try clear c20b0
    try clear c20b1
    try clear c21
    try clear c21b0
    try clear c21b1
    try clear c22
    try clear c22b0
    try clear c22b1
    try clear c23
    try clear c23b0
    try clear c23b1
    obtain ⟨kq, x114_10, rfl, HA, HJ10, HB⟩ := hcut
    cases kq with
    | zero => exact absurd HA.out (by simp [jigsawlaw01_IntsReckons.j0])
    | succ kj10 =>
      have H := HA.out
      clear HA
      simp only [jigsawlaw01_IntsReckons.j0] at H
      by_cases c24 : x114_10 = true
      · subst c24
        have H1 : (some false) = some r := by rw [if_pos rfl] at H; exact H
        clear H
        have H := H1
        clear H1
        obtain rfl := Option.some.inj H
        go_wp2
        go_ret
        exact ⟨by first | rfl | (simp [errW_none, errW_some] <;> rfl) | (simp [*, errW_none, errW_some] <;> rfl), by repeat (first | (with_reducible first | exact HB.out | apply below_alloc | apply pw_below_drewN | apply below_drew1) | exact HB.out)⟩
      · replace c24 := Bool.eq_false_iff.mpr c24
        subst c24
        have H1 : ((ints_Neg.f a0).bind fun bt330 => ((jigsawref01_Neg.f kj10 a0).bind fun bt332 => ((ints_Abs.f kj10 a0).bind fun bt334 => ((jigsawref01_Abs.f kj10 a0).bind fun bt336 => (if bt330.1 = bt332.1 then (if bt330.2 = bt332.2 then (if bt334.1 = bt336.1 then (if bt334.2 = bt336.2 then ((jigsawlaw01_known.f kj10).bind fun t338 => (some t338)) else (some false)) else (some false)) else (some false)) else (some false)))))) = some r := by rw [if_neg (show ¬ (false = true) by decide)] at H; exact H
        clear H
        have H := H1
        clear H1
        replace H := Option.bind_eq_some_iff.mp H
        obtain ⟨⟨t330, t331⟩, A250, H⟩ := H
        replace H : ((jigsawref01_Neg.f kj10 a0).bind fun bt332 => ((ints_Abs.f kj10 a0).bind fun bt334 => ((jigsawref01_Abs.f kj10 a0).bind fun bt336 => (if t330 = bt332.1 then (if t331 = bt332.2 then (if bt334.1 = bt336.1 then (if bt334.2 = bt336.2 then ((jigsawlaw01_known.f kj10).bind fun t338 => (some t338)) else (some false)) else (some false)) else (some false)) else (some false))))) = some r := H
        have A25 := Aside0.mk A250
        clear A250
        replace H := Option.bind_eq_some_iff.mp H
        obtain ⟨⟨t332, t333⟩, A260, H⟩ := H
        replace H : ((ints_Abs.f kj10 a0).bind fun bt334 => ((jigsawref01_Abs.f kj10 a0).bind fun bt336 => (if t330 = t332 then (if t331 = t333 then (if bt334.1 = bt336.1 then (if bt334.2 = bt336.2 then ((jigsawlaw01_known.f kj10).bind fun t338 => (some t338)) else (some false)) else (some false)) else (some false)) else (some false)))) = some r := H
        have A26 := Aside0.mk A260
        clear A260
        replace H := Option.bind_eq_some_iff.mp H
        obtain ⟨⟨t334, t335⟩, A270, H⟩ := H
        replace H : ((jigsawref01_Abs.f kj10 a0).bind fun bt336 => (if t330 = t332 then (if t331 = t333 then (if t334 = bt336.1 then (if t335 = bt336.2 then ((jigsawlaw01_known.f kj10).bind fun t338 => (some t338)) else (some false)) else (some false)) else (some false)) else (some false))) = some r := H
        have A27 := Aside0.mk A270
        clear A270
        replace H := Option.bind_eq_some_iff.mp H
        obtain ⟨⟨t336, t337⟩, A280, H⟩ := H
        replace H : (if t330 = t332 then (if t331 = t333 then (if t334 = t336 then (if t335 = t337 then ((jigsawlaw01_known.f kj10).bind fun t338 => (some t338)) else (some false)) else (some false)) else (some false)) else (some false)) = some r := H
        have A28 := Aside0.mk A280
        clear A280
        by_cases c29 : t330 = t332
        · rw [if_pos c29] at H
          have c29b0 : (t330 == t332) = true := beq_iff_eq.mpr c29
          have c29b1 : (t330 != t332) = false := bne_eq_false_iff_eq.mpr c29
          clear c29
          by_cases c30 : t331 = t333
          · rw [if_pos c30] at H
            have c30b0 : (t331 == t333) = true := beq_iff_eq.mpr c30
            have c30b1 : (t331 != t333) = false := bne_eq_false_iff_eq.mpr c30
            clear c30
            by_cases c31 : t334 = t336
            · rw [if_pos c31] at H
              have c31b0 : (t334 == t336) = true := beq_iff_eq.mpr c31
              have c31b1 : (t334 != t336) = false := bne_eq_false_iff_eq.mpr c31
              clear c31
              by_cases c32 : t335 = t337
              · rw [if_pos c32] at H
                have c32b0 : (t335 == t337) = true := beq_iff_eq.mpr c32
                have c32b1 : (t335 != t337) = false := bne_eq_false_iff_eq.mpr c32
                clear c32
                replace H := Option.bind_eq_some_iff.mp H
                obtain ⟨t338, A330, H⟩ := H
                replace H : (some t338) = some r := H
                have A33 := Aside0.mk A330
                clear A330
                obtain rfl := Option.some.inj H
                go_wp2_with (first | ((with_reducible refine gate_callee (f := 19) rfl ?_); refine goesL_ (some 117) rfl rfl Try.func19 (by kernel_rfl) rfl #[.int .i64 a0] rfl (by (try simp only [List.map_toArray, List.map_cons, List.map_nil]); first | done | rfl | (simp only [List.length_drop, List.length_take]; rfl)) ?_; (with_reducible refine (ints_Neg.calls a0 t330 t331 _ A25.out).mono ?_); rintro e w' ⟨rfl, ⟨nd, rfl⟩⟩; refine ⟨_, rfl, ?_⟩) | ((with_reducible refine gate_callee (f := 20) rfl ?_); refine goesL_ (some 122) rfl rfl Try.func20 (by kernel_rfl) rfl #[.int .i64 a0] rfl (by (try simp only [List.map_toArray, List.map_cons, List.map_nil]); first | done | rfl | (simp only [List.length_drop, List.length_take]; rfl)) ?_; (with_reducible refine (jigsawref01_Neg.calls kj10 a0 t332 t333 _ A26.out).mono ?_); rintro e w34 ⟨rfl, hb⟩; refine ⟨_, rfl, ?_⟩; have n0_ := Aside0.mk (below_step (by repeat (first | (with_reducible first | exact HB.out | apply below_alloc | apply pw_below_drewN | apply below_drew1) | exact HB.out)) hb); clear HB; have HB := n0_; clear n0_; (try clear hb); (try clear hb2); (try clear hk); (try clear hi)) | ((with_reducible refine gate_callee (f := 21) rfl ?_); refine goesL_ (some 127) rfl rfl Try.func21 (by kernel_rfl) rfl #[.int .i64 a0] rfl (by (try simp only [List.map_toArray, List.map_cons, List.map_nil]); first | done | rfl | (simp only [List.length_drop, List.length_take]; rfl)) ?_; (with_reducible refine (ints_Abs.calls kj10 a0 t334 t335 _ A27.out).mono ?_); rintro e w' ⟨rfl, ⟨nd, rfl⟩⟩; refine ⟨_, rfl, ?_⟩) | ((with_reducible refine gate_callee (f := 22) rfl ?_); refine goesL_ (some 132) rfl rfl Try.func22 (by kernel_rfl) rfl #[.int .i64 a0] rfl (by (try simp only [List.map_toArray, List.map_cons, List.map_nil]); first | done | rfl | (simp only [List.length_drop, List.length_take]; rfl)) ?_; (with_reducible refine (jigsawref01_Abs.calls kj10 a0 t336 t337 _ A28.out).mono ?_); rintro e w35 ⟨rfl, hb⟩; refine ⟨_, rfl, ?_⟩; have n0_ := Aside0.mk (below_step (by repeat (first | (with_reducible first | exact HB.out | apply below_alloc | apply pw_below_drewN | apply below_drew1) | exact HB.out)) hb); clear HB; have HB := n0_; clear n0_; (try clear hb); (try clear hb2); (try clear hk); (try clear hi)) | (go_at_call 13; (with_reducible refine (jigsawlaw01_known.calls kj10  t338 _ A33.out).mono ?_); rintro e w36 ⟨rfl, hb⟩; have n0_ := Aside0.mk (below_step (by repeat (first | (with_reducible first | exact HB.out | apply below_alloc | apply pw_below_drewN | apply below_drew1) | exact HB.out)) hb); clear HB; have HB := n0_; clear n0_; (try clear hb); (try clear hb2); (try clear hk); (try clear hi)))
                go_ret
                exact ⟨by first | rfl | (simp [errW_none, errW_some] <;> rfl) | (simp [*, errW_none, errW_some] <;> rfl), by repeat (first | (with_reducible first | exact HB.out | apply below_alloc | apply pw_below_drewN | apply below_drew1) | exact HB.out)⟩
              · rw [if_neg c32] at H
                have c32b0 : (t335 == t337) = false := beq_eq_false_iff_ne.mpr c32
                have c32b1 : (t335 != t337) = true := bne_iff_ne.mpr c32
                obtain rfl := Option.some.inj H
                go_wp2_with (first | ((with_reducible refine gate_callee (f := 19) rfl ?_); refine goesL_ (some 117) rfl rfl Try.func19 (by kernel_rfl) rfl #[.int .i64 a0] rfl (by (try simp only [List.map_toArray, List.map_cons, List.map_nil]); first | done | rfl | (simp only [List.length_drop, List.length_take]; rfl)) ?_; (with_reducible refine (ints_Neg.calls a0 t330 t331 _ A25.out).mono ?_); rintro e w' ⟨rfl, ⟨nd, rfl⟩⟩; refine ⟨_, rfl, ?_⟩) | ((with_reducible refine gate_callee (f := 20) rfl ?_); refine goesL_ (some 122) rfl rfl Try.func20 (by kernel_rfl) rfl #[.int .i64 a0] rfl (by (try simp only [List.map_toArray, List.map_cons, List.map_nil]); first | done | rfl | (simp only [List.length_drop, List.length_take]; rfl)) ?_; (with_reducible refine (jigsawref01_Neg.calls kj10 a0 t332 t333 _ A26.out).mono ?_); rintro e w37 ⟨rfl, hb⟩; refine ⟨_, rfl, ?_⟩; have n0_ := Aside0.mk (below_step (by repeat (first | (with_reducible first | exact HB.out | apply below_alloc | apply pw_below_drewN | apply below_drew1) | exact HB.out)) hb); clear HB; have HB := n0_; clear n0_; (try clear hb); (try clear hb2); (try clear hk); (try clear hi)) | ((with_reducible refine gate_callee (f := 21) rfl ?_); refine goesL_ (some 127) rfl rfl Try.func21 (by kernel_rfl) rfl #[.int .i64 a0] rfl (by (try simp only [List.map_toArray, List.map_cons, List.map_nil]); first | done | rfl | (simp only [List.length_drop, List.length_take]; rfl)) ?_; (with_reducible refine (ints_Abs.calls kj10 a0 t334 t335 _ A27.out).mono ?_); rintro e w' ⟨rfl, ⟨nd, rfl⟩⟩; refine ⟨_, rfl, ?_⟩) | ((with_reducible refine gate_callee (f := 22) rfl ?_); refine goesL_ (some 132) rfl rfl Try.func22 (by kernel_rfl) rfl #[.int .i64 a0] rfl (by (try simp only [List.map_toArray, List.map_cons, List.map_nil]); first | done | rfl | (simp only [List.length_drop, List.length_take]; rfl)) ?_; (with_reducible refine (jigsawref01_Abs.calls kj10 a0 t336 t337 _ A28.out).mono ?_); rintro e w38 ⟨rfl, hb⟩; refine ⟨_, rfl, ?_⟩; have n0_ := Aside0.mk (below_step (by repeat (first | (with_reducible first | exact HB.out | apply below_alloc | apply pw_below_drewN | apply below_drew1) | exact HB.out)) hb); clear HB; have HB := n0_; clear n0_; (try clear hb); (try clear hb2); (try clear hk); (try clear hi)))
                go_ret
                exact ⟨by first | rfl | (simp [errW_none, errW_some] <;> rfl) | (simp [*, errW_none, errW_some] <;> rfl), by repeat (first | (with_reducible first | exact HB.out | apply below_alloc | apply pw_below_drewN | apply below_drew1) | exact HB.out)⟩
            · rw [if_neg c31] at H
              have c31b0 : (t334 == t336) = false := beq_eq_false_iff_ne.mpr c31
              have c31b1 : (t334 != t336) = true := bne_iff_ne.mpr c31
              obtain rfl := Option.some.inj H
              go_wp2_with (first | ((with_reducible refine gate_callee (f := 19) rfl ?_); refine goesL_ (some 117) rfl rfl Try.func19 (by kernel_rfl) rfl #[.int .i64 a0] rfl (by (try simp only [List.map_toArray, List.map_cons, List.map_nil]); first | done | rfl | (simp only [List.length_drop, List.length_take]; rfl)) ?_; (with_reducible refine (ints_Neg.calls a0 t330 t331 _ A25.out).mono ?_); rintro e w' ⟨rfl, ⟨nd, rfl⟩⟩; refine ⟨_, rfl, ?_⟩) | ((with_reducible refine gate_callee (f := 20) rfl ?_); refine goesL_ (some 122) rfl rfl Try.func20 (by kernel_rfl) rfl #[.int .i64 a0] rfl (by (try simp only [List.map_toArray, List.map_cons, List.map_nil]); first | done | rfl | (simp only [List.length_drop, List.length_take]; rfl)) ?_; (with_reducible refine (jigsawref01_Neg.calls kj10 a0 t332 t333 _ A26.out).mono ?_); rintro e w39 ⟨rfl, hb⟩; refine ⟨_, rfl, ?_⟩; have n0_ := Aside0.mk (below_step (by repeat (first | (with_reducible first | exact HB.out | apply below_alloc | apply pw_below_drewN | apply below_drew1) | exact HB.out)) hb); clear HB; have HB := n0_; clear n0_; (try clear hb); (try clear hb2); (try clear hk); (try clear hi)) | ((with_reducible refine gate_callee (f := 21) rfl ?_); refine goesL_ (some 127) rfl rfl Try.func21 (by kernel_rfl) rfl #[.int .i64 a0] rfl (by (try simp only [List.map_toArray, List.map_cons, List.map_nil]); first | done | rfl | (simp only [List.length_drop, List.length_take]; rfl)) ?_; (with_reducible refine (ints_Abs.calls kj10 a0 t334 t335 _ A27.out).mono ?_); rintro e w' ⟨rfl, ⟨nd, rfl⟩⟩; refine ⟨_, rfl, ?_⟩) | ((with_reducible refine gate_callee (f := 22) rfl ?_); refine goesL_ (some 132) rfl rfl Try.func22 (by kernel_rfl) rfl #[.int .i64 a0] rfl (by (try simp only [List.map_toArray, List.map_cons, List.map_nil]); first | done | rfl | (simp only [List.length_drop, List.length_take]; rfl)) ?_; (with_reducible refine (jigsawref01_Abs.calls kj10 a0 t336 t337 _ A28.out).mono ?_); rintro e w40 ⟨rfl, hb⟩; refine ⟨_, rfl, ?_⟩; have n0_ := Aside0.mk (below_step (by repeat (first | (with_reducible first | exact HB.out | apply below_alloc | apply pw_below_drewN | apply below_drew1) | exact HB.out)) hb); clear HB; have HB := n0_; clear n0_; (try clear hb); (try clear hb2); (try clear hk); (try clear hi)))
              go_ret
              exact ⟨by first | rfl | (simp [errW_none, errW_some] <;> rfl) | (simp [*, errW_none, errW_some] <;> rfl), by repeat (first | (with_reducible first | exact HB.out | apply below_alloc | apply pw_below_drewN | apply below_drew1) | exact HB.out)⟩
          · rw [if_neg c30] at H
            have c30b0 : (t331 == t333) = false := beq_eq_false_iff_ne.mpr c30
            have c30b1 : (t331 != t333) = true := bne_iff_ne.mpr c30
            obtain rfl := Option.some.inj H
            go_wp2_with (first | ((with_reducible refine gate_callee (f := 19) rfl ?_); refine goesL_ (some 117) rfl rfl Try.func19 (by kernel_rfl) rfl #[.int .i64 a0] rfl (by (try simp only [List.map_toArray, List.map_cons, List.map_nil]); first | done | rfl | (simp only [List.length_drop, List.length_take]; rfl)) ?_; (with_reducible refine (ints_Neg.calls a0 t330 t331 _ A25.out).mono ?_); rintro e w' ⟨rfl, ⟨nd, rfl⟩⟩; refine ⟨_, rfl, ?_⟩) | ((with_reducible refine gate_callee (f := 20) rfl ?_); refine goesL_ (some 122) rfl rfl Try.func20 (by kernel_rfl) rfl #[.int .i64 a0] rfl (by (try simp only [List.map_toArray, List.map_cons, List.map_nil]); first | done | rfl | (simp only [List.length_drop, List.length_take]; rfl)) ?_; (with_reducible refine (jigsawref01_Neg.calls kj10 a0 t332 t333 _ A26.out).mono ?_); rintro e w41 ⟨rfl, hb⟩; refine ⟨_, rfl, ?_⟩; have n0_ := Aside0.mk (below_step (by repeat (first | (with_reducible first | exact HB.out | apply below_alloc | apply pw_below_drewN | apply below_drew1) | exact HB.out)) hb); clear HB; have HB := n0_; clear n0_; (try clear hb); (try clear hb2); (try clear hk); (try clear hi)) | ((with_reducible refine gate_callee (f := 21) rfl ?_); refine goesL_ (some 127) rfl rfl Try.func21 (by kernel_rfl) rfl #[.int .i64 a0] rfl (by (try simp only [List.map_toArray, List.map_cons, List.map_nil]); first | done | rfl | (simp only [List.length_drop, List.length_take]; rfl)) ?_; (with_reducible refine (ints_Abs.calls kj10 a0 t334 t335 _ A27.out).mono ?_); rintro e w' ⟨rfl, ⟨nd, rfl⟩⟩; refine ⟨_, rfl, ?_⟩) | ((with_reducible refine gate_callee (f := 22) rfl ?_); refine goesL_ (some 132) rfl rfl Try.func22 (by kernel_rfl) rfl #[.int .i64 a0] rfl (by (try simp only [List.map_toArray, List.map_cons, List.map_nil]); first | done | rfl | (simp only [List.length_drop, List.length_take]; rfl)) ?_; (with_reducible refine (jigsawref01_Abs.calls kj10 a0 t336 t337 _ A28.out).mono ?_); rintro e w42 ⟨rfl, hb⟩; refine ⟨_, rfl, ?_⟩; have n0_ := Aside0.mk (below_step (by repeat (first | (with_reducible first | exact HB.out | apply below_alloc | apply pw_below_drewN | apply below_drew1) | exact HB.out)) hb); clear HB; have HB := n0_; clear n0_; (try clear hb); (try clear hb2); (try clear hk); (try clear hi)))
            go_ret
            exact ⟨by first | rfl | (simp [errW_none, errW_some] <;> rfl) | (simp [*, errW_none, errW_some] <;> rfl), by repeat (first | (with_reducible first | exact HB.out | apply below_alloc | apply pw_below_drewN | apply below_drew1) | exact HB.out)⟩
        · rw [if_neg c29] at H
          have c29b0 : (t330 == t332) = false := beq_eq_false_iff_ne.mpr c29
          have c29b1 : (t330 != t332) = true := bne_iff_ne.mpr c29
          obtain rfl := Option.some.inj H
          go_wp2_with (first | ((with_reducible refine gate_callee (f := 19) rfl ?_); refine goesL_ (some 117) rfl rfl Try.func19 (by kernel_rfl) rfl #[.int .i64 a0] rfl (by (try simp only [List.map_toArray, List.map_cons, List.map_nil]); first | done | rfl | (simp only [List.length_drop, List.length_take]; rfl)) ?_; (with_reducible refine (ints_Neg.calls a0 t330 t331 _ A25.out).mono ?_); rintro e w' ⟨rfl, ⟨nd, rfl⟩⟩; refine ⟨_, rfl, ?_⟩) | ((with_reducible refine gate_callee (f := 20) rfl ?_); refine goesL_ (some 122) rfl rfl Try.func20 (by kernel_rfl) rfl #[.int .i64 a0] rfl (by (try simp only [List.map_toArray, List.map_cons, List.map_nil]); first | done | rfl | (simp only [List.length_drop, List.length_take]; rfl)) ?_; (with_reducible refine (jigsawref01_Neg.calls kj10 a0 t332 t333 _ A26.out).mono ?_); rintro e w43 ⟨rfl, hb⟩; refine ⟨_, rfl, ?_⟩; have n0_ := Aside0.mk (below_step (by repeat (first | (with_reducible first | exact HB.out | apply below_alloc | apply pw_below_drewN | apply below_drew1) | exact HB.out)) hb); clear HB; have HB := n0_; clear n0_; (try clear hb); (try clear hb2); (try clear hk); (try clear hi)) | ((with_reducible refine gate_callee (f := 21) rfl ?_); refine goesL_ (some 127) rfl rfl Try.func21 (by kernel_rfl) rfl #[.int .i64 a0] rfl (by (try simp only [List.map_toArray, List.map_cons, List.map_nil]); first | done | rfl | (simp only [List.length_drop, List.length_take]; rfl)) ?_; (with_reducible refine (ints_Abs.calls kj10 a0 t334 t335 _ A27.out).mono ?_); rintro e w' ⟨rfl, ⟨nd, rfl⟩⟩; refine ⟨_, rfl, ?_⟩) | ((with_reducible refine gate_callee (f := 22) rfl ?_); refine goesL_ (some 132) rfl rfl Try.func22 (by kernel_rfl) rfl #[.int .i64 a0] rfl (by (try simp only [List.map_toArray, List.map_cons, List.map_nil]); first | done | rfl | (simp only [List.length_drop, List.length_take]; rfl)) ?_; (with_reducible refine (jigsawref01_Abs.calls kj10 a0 t336 t337 _ A28.out).mono ?_); rintro e w44 ⟨rfl, hb⟩; refine ⟨_, rfl, ?_⟩; have n0_ := Aside0.mk (below_step (by repeat (first | (with_reducible first | exact HB.out | apply below_alloc | apply pw_below_drewN | apply below_drew1) | exact HB.out)) hb); clear HB; have HB := n0_; clear n0_; (try clear hb); (try clear hb2); (try clear hk); (try clear hi)))
          go_ret
          exact ⟨by first | rfl | (simp [errW_none, errW_some] <;> rfl) | (simp [*, errW_none, errW_some] <;> rfl), by repeat (first | (with_reducible first | exact HB.out | apply below_alloc | apply pw_below_drewN | apply below_drew1) | exact HB.out)⟩

/-- THE ONE PURE STATEMENT of jigsawlaw01_IntsReckons: yours. -/
def jigsawlaw01_IntsReckons.Pure : Prop := ∀ (a0 : Int) (a1 : Int), (Lit.int .i64 a0).wf = true → (Lit.int .i64 a1).wf = true → ∃ k, jigsawlaw01_IntsReckons.f k a0 a1 = some true
theorem jigsawlaw01_IntsReckons.walk (P : jigsawlaw01_IntsReckons.Pure) (a0 : Int) (a1 : Int) (w : World) (w0 : (Lit.int .i64 a0).wf = true) (w1 : (Lit.int .i64 a1).wf = true) :
    Calls Try.prog 4 #[.int .i64 a0, .int .i64 a1] w fun e w' => e = .returned (.bool true) ∧ Below w.heap.size w w' := by
  obtain ⟨k, h⟩ := P a0 a1 w0 w1
  refine (jigsawlaw01_IntsReckons.calls k a0 a1 true w h).mono ?_
  rintro e w' ⟨rfl, hd⟩
  exact ⟨rfl, hd⟩

/-! ### jigsawref01_Div: function 23 -/
def jigsawref01_Div.f (a0 : Int) (a1 : Int) : Option (Int × Int) := if a1 = 0 then (some (0, 11)) else (if a0 = (-9223372036854775808) then (if a1 = (-1) then (some (0, 10)) else (some (wrap64 (Int.tdiv a0 a1), 0))) else (some (wrap64 (Int.tdiv a0 a1), 0)))
set_option maxHeartbeats 8000000 in
set_option maxRecDepth 100000 in
theorem jigsawref01_Div.calls (a0 : Int) (a1 : Int) (r1 : Int) (r2 : Int) (w : World) (h : jigsawref01_Div.f a0 a1 = some (r1, r2)) :
    Calls Try.prog 23 #[.int .i64 a0, .int .i64 a1] w fun e w' => e = .returned (.tuple #[.int .i64 r1, .int .i64 r2]) ∧ Drawn0 w w' := by
  have H : (if a1 = 0 then (some (0, 11)) else (if a0 = (-9223372036854775808) then (if a1 = (-1) then (some (0, 10)) else (some (wrap64 (Int.tdiv a0 a1), 0))) else (some (wrap64 (Int.tdiv a0 a1), 0)))) = some (r1, r2) := h
  clear h
  by_cases c3 : a1 = 0
  · rw [if_pos c3] at H
    have c3b0 : (a1 == 0) = true := beq_iff_eq.mpr c3
    have c3b1 : (a1 != 0) = false := bne_eq_false_iff_eq.mpr c3
    clear c3
    simp only [Option.some.injEq, Prod.mk.injEq] at H
    obtain ⟨rfl, rfl⟩ := H
    go_enter Try.func23, Try.ntmps23
    go_wp2
    go_ret2
    exact ⟨by first | rfl | (simp; done) | (simp [*]; done), by repeat (first | exact Drawn0.refl _ | apply Drawn0.step)⟩
  · rw [if_neg c3] at H
    have c3b0 : (a1 == 0) = false := beq_eq_false_iff_ne.mpr c3
    have c3b1 : (a1 != 0) = true := bne_iff_ne.mpr c3
    by_cases c4 : a0 = (-9223372036854775808)
    · rw [if_pos c4] at H
      have c4b0 : (a0 == (-9223372036854775808)) = true := beq_iff_eq.mpr c4
      have c4b1 : (a0 != (-9223372036854775808)) = false := bne_eq_false_iff_eq.mpr c4
      clear c4
      by_cases c5 : a1 = (-1)
      · rw [if_pos c5] at H
        have c5b0 : (a1 == (-1)) = true := beq_iff_eq.mpr c5
        have c5b1 : (a1 != (-1)) = false := bne_eq_false_iff_eq.mpr c5
        clear c5
        simp only [Option.some.injEq, Prod.mk.injEq] at H
        obtain ⟨rfl, rfl⟩ := H
        go_enter Try.func23, Try.ntmps23
        go_wp2
        go_ret2
        exact ⟨by first | rfl | (simp; done) | (simp [*]; done), by repeat (first | exact Drawn0.refl _ | apply Drawn0.step)⟩
      · rw [if_neg c5] at H
        have c5b0 : (a1 == (-1)) = false := beq_eq_false_iff_ne.mpr c5
        have c5b1 : (a1 != (-1)) = true := bne_iff_ne.mpr c5
        simp only [Option.some.injEq, Prod.mk.injEq] at H
        obtain ⟨rfl, rfl⟩ := H
        go_enter Try.func23, Try.ntmps23
        go_wp2
        go_ret2
        exact ⟨by first | rfl | (simp; done) | (simp [*]; done), by repeat (first | exact Drawn0.refl _ | apply Drawn0.step)⟩
    · rw [if_neg c4] at H
      have c4b0 : (a0 == (-9223372036854775808)) = false := beq_eq_false_iff_ne.mpr c4
      have c4b1 : (a0 != (-9223372036854775808)) = true := bne_iff_ne.mpr c4
      simp only [Option.some.injEq, Prod.mk.injEq] at H
      obtain ⟨rfl, rfl⟩ := H
      go_enter Try.func23, Try.ntmps23
      go_wp2
      go_ret2
      exact ⟨by first | rfl | (simp; done) | (simp [*]; done), by repeat (first | exact Drawn0.refl _ | apply Drawn0.step)⟩

/-! ### ints_Mod: function 24 -/
def ints_Mod.f (k : Nat) (a0 : Int) (a1 : Int) : Option (Int × Int) := if a1 = 0 then (some (0, 11)) else ((ints_size.f a0).bind fun t339 => ((ints_size.f a1).bind fun t340 => (if t340 = 0 then (none) else ((ints_signed.f k (Int.tmod t339 t340) (decide (a0 < 0))).bind fun bt341 => (some (bt341.1, bt341.2))))))
theorem ints_Mod.mono : ∀ a0 a1 k, LeO (ints_Mod.f k a0 a1) (ints_Mod.f (k + 1) a0 a1) := by
  intro a0 a1 k
  unfold ints_Mod.f
  repeat' first
      | (with_reducible exact ints_signed.mono _ _ _)
      | (with_reducible exact LeO.refl _)
      | (with_reducible exact LeO.none _)
      | (with_reducible refine LeO.ite ?_ ?_)
      | (with_reducible refine LeO.bind ?_ (fun _ => ?_))
      | exact ints_signed.mono _ _ _
      | exact LeO.none _
      | refine LeO.ite ?_ ?_
      | refine LeO.bind ?_ (fun _ => ?_)
set_option maxHeartbeats 8000000 in
set_option maxRecDepth 100000 in
theorem ints_Mod.calls (k : Nat) (a0 : Int) (a1 : Int) (r1 : Int) (r2 : Int) (w : World) (h : ints_Mod.f k a0 a1 = some (r1, r2)) :
    Calls Try.prog 24 #[.int .i64 a0, .int .i64 a1] w fun e w' => e = .returned (.tuple #[.int .i64 r1, .int .i64 r2]) ∧ Drawn0 w w' := by
  have H : (if a1 = 0 then (some (0, 11)) else ((ints_size.f a0).bind fun t339 => ((ints_size.f a1).bind fun t340 => (if t340 = 0 then (none) else ((ints_signed.f k (Int.tmod t339 t340) (decide (a0 < 0))).bind fun bt341 => (some (bt341.1, bt341.2))))))) = some (r1, r2) := h
  clear h
  by_cases c3 : a1 = 0
  · rw [if_pos c3] at H
    have c3b0 : (a1 == 0) = true := beq_iff_eq.mpr c3
    have c3b1 : (a1 != 0) = false := bne_eq_false_iff_eq.mpr c3
    clear c3
    simp only [Option.some.injEq, Prod.mk.injEq] at H
    obtain ⟨rfl, rfl⟩ := H
    go_enter Try.func24, Try.ntmps24
    go_wp2
    go_ret2
    exact ⟨by first | rfl | (simp; done) | (simp [*]; done), by repeat (first | exact Drawn0.refl _ | apply Drawn0.step)⟩
  · rw [if_neg c3] at H
    have c3b0 : (a1 == 0) = false := beq_eq_false_iff_ne.mpr c3
    have c3b1 : (a1 != 0) = true := bne_iff_ne.mpr c3
    replace H := Option.bind_eq_some_iff.mp H
    obtain ⟨t339, A40, H⟩ := H
    replace H : ((ints_size.f a1).bind fun t340 => (if t340 = 0 then (none) else ((ints_signed.f k (Int.tmod t339 t340) (decide (a0 < 0))).bind fun bt341 => (some (bt341.1, bt341.2))))) = some (r1, r2) := H
    have A4 := Aside0.mk A40
    clear A40
    replace H := Option.bind_eq_some_iff.mp H
    obtain ⟨t340, A50, H⟩ := H
    replace H : (if t340 = 0 then (none) else ((ints_signed.f k (Int.tmod t339 t340) (decide (a0 < 0))).bind fun bt341 => (some (bt341.1, bt341.2)))) = some (r1, r2) := H
    have A5 := Aside0.mk A50
    clear A50
    by_cases c6 : t340 = 0
    · rw [if_pos c6] at H
      exact absurd H (by simp)
    · rw [if_neg c6] at H
      have c6b0 : (t340 == 0) = false := beq_eq_false_iff_ne.mpr c6
      have c6b1 : (t340 != 0) = true := bne_iff_ne.mpr c6
      replace H := Option.bind_eq_some_iff.mp H
      obtain ⟨⟨t341, t342⟩, A70, H⟩ := H
      replace H : (some (t341, t342)) = some (r1, r2) := H
      have A7 := Aside0.mk A70
      clear A70
      simp only [Option.some.injEq, Prod.mk.injEq] at H
      obtain ⟨rfl, rfl⟩ := H
      go_enter Try.func24, Try.ntmps24
      go_wp2_with (first | ((with_reducible refine gate_callee (f := 37) rfl ?_); refine goesL_ (some 9) rfl rfl Try.func37 (by kernel_rfl) rfl #[.int .i64 a0] rfl (by (try simp only [List.map_toArray, List.map_cons, List.map_nil]); first | done | rfl | (simp only [List.length_drop, List.length_take]; rfl)) ?_; (with_reducible refine (ints_size.calls a0 t339 _ A4.out).mono ?_); rintro e w' ⟨rfl, ⟨nd, rfl⟩⟩; refine ⟨_, rfl, ?_⟩) | ((with_reducible refine gate_callee (f := 37) rfl ?_); refine goesL_ (some 11) rfl rfl Try.func37 (by kernel_rfl) rfl #[.int .i64 a1] rfl (by (try simp only [List.map_toArray, List.map_cons, List.map_nil]); first | done | rfl | (simp only [List.length_drop, List.length_take]; rfl)) ?_; (with_reducible refine (ints_size.calls a1 t340 _ A5.out).mono ?_); rintro e w' ⟨rfl, ⟨nd, rfl⟩⟩; refine ⟨_, rfl, ?_⟩) | ((with_reducible refine gate_callee (f := 38) rfl ?_); refine goesL_ (some 15) rfl rfl Try.func38 (by kernel_rfl) rfl #[.int .u64 (Int.tmod t339 t340), .bool (decide (a0 < 0))] rfl (by (try simp only [List.map_toArray, List.map_cons, List.map_nil]); first | done | rfl | (simp only [List.length_drop, List.length_take]; rfl)) ?_; (with_reducible refine (ints_signed.calls k (Int.tmod t339 t340) (decide (a0 < 0)) t341 t342 _ A7.out).mono ?_); rintro e w' ⟨rfl, ⟨nd, rfl⟩⟩; refine ⟨_, rfl, ?_⟩))
      go_ret2
      exact ⟨by first | rfl | (simp; done) | (simp [*]; done), by repeat (first | exact Drawn0.refl _ | apply Drawn0.step)⟩

/-! ### jigsawref01_Mod: function 25 -/
def jigsawref01_Mod.f (a0 : Int) (a1 : Int) : Option (Int × Int) := if a1 = 0 then (some (0, 11)) else (if a1 = (-1) then (some (0, 0)) else (some (Int.tmod a0 a1, 0)))
set_option maxHeartbeats 8000000 in
set_option maxRecDepth 100000 in
theorem jigsawref01_Mod.calls (a0 : Int) (a1 : Int) (r1 : Int) (r2 : Int) (w : World) (h : jigsawref01_Mod.f a0 a1 = some (r1, r2)) :
    Calls Try.prog 25 #[.int .i64 a0, .int .i64 a1] w fun e w' => e = .returned (.tuple #[.int .i64 r1, .int .i64 r2]) ∧ Drawn0 w w' := by
  have H : (if a1 = 0 then (some (0, 11)) else (if a1 = (-1) then (some (0, 0)) else (some (Int.tmod a0 a1, 0)))) = some (r1, r2) := h
  clear h
  by_cases c3 : a1 = 0
  · rw [if_pos c3] at H
    have c3b0 : (a1 == 0) = true := beq_iff_eq.mpr c3
    have c3b1 : (a1 != 0) = false := bne_eq_false_iff_eq.mpr c3
    clear c3
    simp only [Option.some.injEq, Prod.mk.injEq] at H
    obtain ⟨rfl, rfl⟩ := H
    go_enter Try.func25, Try.ntmps25
    go_wp2
    go_ret2
    exact ⟨by first | rfl | (simp; done) | (simp [*]; done), by repeat (first | exact Drawn0.refl _ | apply Drawn0.step)⟩
  · rw [if_neg c3] at H
    have c3b0 : (a1 == 0) = false := beq_eq_false_iff_ne.mpr c3
    have c3b1 : (a1 != 0) = true := bne_iff_ne.mpr c3
    by_cases c4 : a1 = (-1)
    · rw [if_pos c4] at H
      have c4b0 : (a1 == (-1)) = true := beq_iff_eq.mpr c4
      have c4b1 : (a1 != (-1)) = false := bne_eq_false_iff_eq.mpr c4
      clear c4
      simp only [Option.some.injEq, Prod.mk.injEq] at H
      obtain ⟨rfl, rfl⟩ := H
      go_enter Try.func25, Try.ntmps25
      go_wp2
      go_ret2
      exact ⟨by first | rfl | (simp; done) | (simp [*]; done), by repeat (first | exact Drawn0.refl _ | apply Drawn0.step)⟩
    · rw [if_neg c4] at H
      have c4b0 : (a1 == (-1)) = false := beq_eq_false_iff_ne.mpr c4
      have c4b1 : (a1 != (-1)) = true := bne_iff_ne.mpr c4
      simp only [Option.some.injEq, Prod.mk.injEq] at H
      obtain ⟨rfl, rfl⟩ := H
      go_enter Try.func25, Try.ntmps25
      go_wp2
      go_ret2
      exact ⟨by first | rfl | (simp; done) | (simp [*]; done), by repeat (first | exact Drawn0.refl _ | apply Drawn0.step)⟩

/-! ### jigsawref01_Floor: function 27 -/
def jigsawref01_Floor.f (a0 : Int) (a1 : Int) : Option (Int × Int) := (jigsawref01_Div.f a0 a1).bind fun bt343 => (if bt343.2 = 0 then ((jigsawref01_Mod.f a0 a1).bind fun bt345 => (if bt345.1 = 0 then (some (bt343.1, 0)) else (if ((decide (bt345.1 < 0)) != (decide (a1 < 0))) = true then (some (wrap64 (bt343.1 - 1), 0)) else (some (bt343.1, 0))))) else (some (0, bt343.2)))
set_option maxHeartbeats 8000000 in
set_option maxRecDepth 100000 in
theorem jigsawref01_Floor.calls (a0 : Int) (a1 : Int) (r1 : Int) (r2 : Int) (w : World) (h : jigsawref01_Floor.f a0 a1 = some (r1, r2)) :
    Calls Try.prog 27 #[.int .i64 a0, .int .i64 a1] w fun e w' => e = .returned (.tuple #[.int .i64 r1, .int .i64 r2]) ∧ Drawn0 w w' := by
  have H : ((jigsawref01_Div.f a0 a1).bind fun bt343 => (if bt343.2 = 0 then ((jigsawref01_Mod.f a0 a1).bind fun bt345 => (if bt345.1 = 0 then (some (bt343.1, 0)) else (if ((decide (bt345.1 < 0)) != (decide (a1 < 0))) = true then (some (wrap64 (bt343.1 - 1), 0)) else (some (bt343.1, 0))))) else (some (0, bt343.2)))) = some (r1, r2) := h
  clear h
  replace H := Option.bind_eq_some_iff.mp H
  obtain ⟨⟨t343, t344⟩, A30, H⟩ := H
  replace H : (if t344 = 0 then ((jigsawref01_Mod.f a0 a1).bind fun bt345 => (if bt345.1 = 0 then (some (t343, 0)) else (if ((decide (bt345.1 < 0)) != (decide (a1 < 0))) = true then (some (wrap64 (t343 - 1), 0)) else (some (t343, 0))))) else (some (0, t344))) = some (r1, r2) := H
  have A3 := Aside0.mk A30
  clear A30
  by_cases c4 : t344 = 0
  · rw [if_pos c4] at H
    have c4b0 : (t344 == 0) = true := beq_iff_eq.mpr c4
    have c4b1 : (t344 != 0) = false := bne_eq_false_iff_eq.mpr c4
    clear c4
    replace H := Option.bind_eq_some_iff.mp H
    obtain ⟨⟨t345, t346⟩, A50, H⟩ := H
    replace H : (if t345 = 0 then (some (t343, 0)) else (if ((decide (t345 < 0)) != (decide (a1 < 0))) = true then (some (wrap64 (t343 - 1), 0)) else (some (t343, 0)))) = some (r1, r2) := H
    have A5 := Aside0.mk A50
    clear A50
    by_cases c6 : t345 = 0
    · rw [if_pos c6] at H
      have c6b0 : (t345 == 0) = true := beq_iff_eq.mpr c6
      have c6b1 : (t345 != 0) = false := bne_eq_false_iff_eq.mpr c6
      clear c6
      simp only [Option.some.injEq, Prod.mk.injEq] at H
      obtain ⟨rfl, rfl⟩ := H
      go_enter Try.func27, Try.ntmps27
      go_wp2_with (first | ((with_reducible refine gate_callee (f := 23) rfl ?_); refine goesL_ (some 13) rfl rfl Try.func23 (by kernel_rfl) rfl #[.int .i64 a0, .int .i64 a1] rfl (by (try simp only [List.map_toArray, List.map_cons, List.map_nil]); first | done | rfl | (simp only [List.length_drop, List.length_take]; rfl)) ?_; (with_reducible refine (jigsawref01_Div.calls a0 a1 t343 t344 _ A3.out).mono ?_); rintro e w' ⟨rfl, ⟨nd, rfl⟩⟩; refine ⟨_, rfl, ?_⟩) | ((with_reducible refine gate_callee (f := 25) rfl ?_); refine goesL_ (some 22) rfl rfl Try.func25 (by kernel_rfl) rfl #[.int .i64 a0, .int .i64 a1] rfl (by (try simp only [List.map_toArray, List.map_cons, List.map_nil]); first | done | rfl | (simp only [List.length_drop, List.length_take]; rfl)) ?_; (with_reducible refine (jigsawref01_Mod.calls a0 a1 t345 t346 _ A5.out).mono ?_); rintro e w' ⟨rfl, ⟨nd, rfl⟩⟩; refine ⟨_, rfl, ?_⟩))
      go_ret2
      exact ⟨by first | rfl | (simp; done) | (simp [*]; done), by repeat (first | exact Drawn0.refl _ | apply Drawn0.step)⟩
    · rw [if_neg c6] at H
      have c6b0 : (t345 == 0) = false := beq_eq_false_iff_ne.mpr c6
      have c6b1 : (t345 != 0) = true := bne_iff_ne.mpr c6
      by_cases c7 : ((decide (t345 < 0)) != (decide (a1 < 0))) = true
      · rw [if_pos c7] at H
        have c7b0 : ((decide (t345 < 0)) != (decide (a1 < 0))) = true := c7
        (try (have c7b1 : decide ((decide (t345 < 0)) = (decide (a1 < 0))) = false := by simpa using c7))
        (try (have c7b2 : ((decide (t345 < 0)) == (decide (a1 < 0))) = false := by simpa using c7))
        (try (have c7b3 : ¬ ((decide (t345 < 0)) = (decide (a1 < 0))) := by simpa using c7))
        clear c7
        simp only [Option.some.injEq, Prod.mk.injEq] at H
        obtain ⟨rfl, rfl⟩ := H
        go_enter Try.func27, Try.ntmps27
        go_wp2_with (first | ((with_reducible refine gate_callee (f := 23) rfl ?_); refine goesL_ (some 13) rfl rfl Try.func23 (by kernel_rfl) rfl #[.int .i64 a0, .int .i64 a1] rfl (by (try simp only [List.map_toArray, List.map_cons, List.map_nil]); first | done | rfl | (simp only [List.length_drop, List.length_take]; rfl)) ?_; (with_reducible refine (jigsawref01_Div.calls a0 a1 t343 t344 _ A3.out).mono ?_); rintro e w' ⟨rfl, ⟨nd, rfl⟩⟩; refine ⟨_, rfl, ?_⟩) | ((with_reducible refine gate_callee (f := 25) rfl ?_); refine goesL_ (some 22) rfl rfl Try.func25 (by kernel_rfl) rfl #[.int .i64 a0, .int .i64 a1] rfl (by (try simp only [List.map_toArray, List.map_cons, List.map_nil]); first | done | rfl | (simp only [List.length_drop, List.length_take]; rfl)) ?_; (with_reducible refine (jigsawref01_Mod.calls a0 a1 t345 t346 _ A5.out).mono ?_); rintro e w' ⟨rfl, ⟨nd, rfl⟩⟩; refine ⟨_, rfl, ?_⟩))
        go_ret2
        exact ⟨by first | rfl | (simp; done) | (simp [*]; done), by repeat (first | exact Drawn0.refl _ | apply Drawn0.step)⟩
      · rw [if_neg c7] at H
        have c7b0 : ((decide (t345 < 0)) != (decide (a1 < 0))) = false := by simpa using c7
        (try (have c7b1 : decide ((decide (t345 < 0)) = (decide (a1 < 0))) = true := by simpa using c7))
        (try (have c7b2 : ((decide (t345 < 0)) == (decide (a1 < 0))) = true := by simpa using c7))
        clear c7
        simp only [Option.some.injEq, Prod.mk.injEq] at H
        obtain ⟨rfl, rfl⟩ := H
        go_enter Try.func27, Try.ntmps27
        go_wp2_with (first | ((with_reducible refine gate_callee (f := 23) rfl ?_); refine goesL_ (some 13) rfl rfl Try.func23 (by kernel_rfl) rfl #[.int .i64 a0, .int .i64 a1] rfl (by (try simp only [List.map_toArray, List.map_cons, List.map_nil]); first | done | rfl | (simp only [List.length_drop, List.length_take]; rfl)) ?_; (with_reducible refine (jigsawref01_Div.calls a0 a1 t343 t344 _ A3.out).mono ?_); rintro e w' ⟨rfl, ⟨nd, rfl⟩⟩; refine ⟨_, rfl, ?_⟩) | ((with_reducible refine gate_callee (f := 25) rfl ?_); refine goesL_ (some 22) rfl rfl Try.func25 (by kernel_rfl) rfl #[.int .i64 a0, .int .i64 a1] rfl (by (try simp only [List.map_toArray, List.map_cons, List.map_nil]); first | done | rfl | (simp only [List.length_drop, List.length_take]; rfl)) ?_; (with_reducible refine (jigsawref01_Mod.calls a0 a1 t345 t346 _ A5.out).mono ?_); rintro e w' ⟨rfl, ⟨nd, rfl⟩⟩; refine ⟨_, rfl, ?_⟩))
        go_ret2
        exact ⟨by first | rfl | (simp; done) | (simp [*]; done), by repeat (first | exact Drawn0.refl _ | apply Drawn0.step)⟩
  · rw [if_neg c4] at H
    have c4b0 : (t344 == 0) = false := beq_eq_false_iff_ne.mpr c4
    have c4b1 : (t344 != 0) = true := bne_iff_ne.mpr c4
    simp only [Option.some.injEq, Prod.mk.injEq] at H
    obtain ⟨rfl, rfl⟩ := H
    go_enter Try.func27, Try.ntmps27
    go_wp2_with (first | ((with_reducible refine gate_callee (f := 23) rfl ?_); refine goesL_ (some 13) rfl rfl Try.func23 (by kernel_rfl) rfl #[.int .i64 a0, .int .i64 a1] rfl (by (try simp only [List.map_toArray, List.map_cons, List.map_nil]); first | done | rfl | (simp only [List.length_drop, List.length_take]; rfl)) ?_; (with_reducible refine (jigsawref01_Div.calls a0 a1 t343 t344 _ A3.out).mono ?_); rintro e w' ⟨rfl, ⟨nd, rfl⟩⟩; refine ⟨_, rfl, ?_⟩))
    go_ret2
    exact ⟨by first | rfl | (simp; done) | (simp [*]; done), by repeat (first | exact Drawn0.refl _ | apply Drawn0.step)⟩

/-! ### ints_Ceil: function 28 -/
def ints_Ceil.f (k : Nat) (a0 : Int) (a1 : Int) : Option (Int × Int) := (ints_Div.f k a0 a1).bind fun bt347 => (if bt347.2 = 0 then (if ((decide (a0 < 0)) == (decide (a1 < 0))) = true then ((ints_size.f a0).bind fun t349 => ((ints_size.f a1).bind fun t350 => (if t350 = 0 then (none) else (if (Int.tmod t349 t350) = 0 then (some (bt347.1, bt347.2)) else (some (wrap64 (bt347.1 + 1), 0)))))) else (some (bt347.1, bt347.2))) else (some (bt347.1, bt347.2)))
theorem ints_Ceil.mono : ∀ a0 a1 k, LeO (ints_Ceil.f k a0 a1) (ints_Ceil.f (k + 1) a0 a1) := by
  intro a0 a1 k
  unfold ints_Ceil.f
  repeat' first
      | (with_reducible exact ints_Div.mono _ _ _)
      | (with_reducible exact LeO.refl _)
      | (with_reducible exact LeO.none _)
      | (with_reducible refine LeO.ite ?_ ?_)
      | (with_reducible refine LeO.bind ?_ (fun _ => ?_))
      | exact ints_Div.mono _ _ _
      | exact LeO.none _
      | refine LeO.ite ?_ ?_
      | refine LeO.bind ?_ (fun _ => ?_)
set_option maxHeartbeats 8000000 in
set_option maxRecDepth 100000 in
theorem ints_Ceil.calls (k : Nat) (a0 : Int) (a1 : Int) (r1 : Int) (r2 : Int) (w : World) (h : ints_Ceil.f k a0 a1 = some (r1, r2)) :
    Calls Try.prog 28 #[.int .i64 a0, .int .i64 a1] w fun e w' => e = .returned (.tuple #[.int .i64 r1, .int .i64 r2]) ∧ Drawn0 w w' := by
  have H : ((ints_Div.f k a0 a1).bind fun bt347 => (if bt347.2 = 0 then (if ((decide (a0 < 0)) == (decide (a1 < 0))) = true then ((ints_size.f a0).bind fun t349 => ((ints_size.f a1).bind fun t350 => (if t350 = 0 then (none) else (if (Int.tmod t349 t350) = 0 then (some (bt347.1, bt347.2)) else (some (wrap64 (bt347.1 + 1), 0)))))) else (some (bt347.1, bt347.2))) else (some (bt347.1, bt347.2)))) = some (r1, r2) := h
  clear h
  replace H := Option.bind_eq_some_iff.mp H
  obtain ⟨⟨t347, t348⟩, A30, H⟩ := H
  replace H : (if t348 = 0 then (if ((decide (a0 < 0)) == (decide (a1 < 0))) = true then ((ints_size.f a0).bind fun t349 => ((ints_size.f a1).bind fun t350 => (if t350 = 0 then (none) else (if (Int.tmod t349 t350) = 0 then (some (t347, t348)) else (some (wrap64 (t347 + 1), 0)))))) else (some (t347, t348))) else (some (t347, t348))) = some (r1, r2) := H
  have A3 := Aside0.mk A30
  clear A30
  by_cases c4 : t348 = 0
  · rw [if_pos c4] at H
    have c4b0 : (t348 == 0) = true := beq_iff_eq.mpr c4
    have c4b1 : (t348 != 0) = false := bne_eq_false_iff_eq.mpr c4
    clear c4
    by_cases c5 : ((decide (a0 < 0)) == (decide (a1 < 0))) = true
    · rw [if_pos c5] at H
      have c5b0 : ((decide (a0 < 0)) == (decide (a1 < 0))) = true := c5
      (try (have c5b1 : decide ((decide (a0 < 0)) = (decide (a1 < 0))) = true := by simpa using c5))
      (try (have c5b2 : ((decide (a0 < 0)) == (decide (a1 < 0))) = true := by simpa using c5))
      clear c5
      replace H := Option.bind_eq_some_iff.mp H
      obtain ⟨t349, A60, H⟩ := H
      replace H : ((ints_size.f a1).bind fun t350 => (if t350 = 0 then (none) else (if (Int.tmod t349 t350) = 0 then (some (t347, t348)) else (some (wrap64 (t347 + 1), 0))))) = some (r1, r2) := H
      have A6 := Aside0.mk A60
      clear A60
      replace H := Option.bind_eq_some_iff.mp H
      obtain ⟨t350, A70, H⟩ := H
      replace H : (if t350 = 0 then (none) else (if (Int.tmod t349 t350) = 0 then (some (t347, t348)) else (some (wrap64 (t347 + 1), 0)))) = some (r1, r2) := H
      have A7 := Aside0.mk A70
      clear A70
      by_cases c8 : t350 = 0
      · rw [if_pos c8] at H
        exact absurd H (by simp)
      · rw [if_neg c8] at H
        have c8b0 : (t350 == 0) = false := beq_eq_false_iff_ne.mpr c8
        have c8b1 : (t350 != 0) = true := bne_iff_ne.mpr c8
        by_cases c9 : (Int.tmod t349 t350) = 0
        · rw [if_pos c9] at H
          have c9b0 : ((Int.tmod t349 t350) == 0) = true := beq_iff_eq.mpr c9
          have c9b1 : ((Int.tmod t349 t350) != 0) = false := bne_eq_false_iff_eq.mpr c9
          clear c9
          simp only [Option.some.injEq, Prod.mk.injEq] at H
          obtain ⟨rfl, rfl⟩ := H
          go_enter Try.func28, Try.ntmps28
          go_wp2_with (first | ((with_reducible refine gate_callee (f := 12) rfl ?_); refine goesL_ (some 11) rfl rfl Try.func12 (by kernel_rfl) rfl #[.int .i64 a0, .int .i64 a1] rfl (by (try simp only [List.map_toArray, List.map_cons, List.map_nil]); first | done | rfl | (simp only [List.length_drop, List.length_take]; rfl)) ?_; (with_reducible refine (ints_Div.calls k a0 a1 t347 t348 _ A3.out).mono ?_); rintro e w' ⟨rfl, ⟨nd, rfl⟩⟩; refine ⟨_, rfl, ?_⟩) | (go_at_call 37; (with_reducible refine (ints_size.calls a0 t349 _ A6.out).mono ?_); rintro e w' ⟨rfl, ⟨nd, rfl⟩⟩) | (go_at_call 37; (with_reducible refine (ints_size.calls a1 t350 _ A7.out).mono ?_); rintro e w' ⟨rfl, ⟨nd, rfl⟩⟩))
          go_ret2
          exact ⟨by first | rfl | (simp; done) | (simp [*]; done), by repeat (first | exact Drawn0.refl _ | apply Drawn0.step)⟩
        · rw [if_neg c9] at H
          have c9b0 : ((Int.tmod t349 t350) == 0) = false := beq_eq_false_iff_ne.mpr c9
          have c9b1 : ((Int.tmod t349 t350) != 0) = true := bne_iff_ne.mpr c9
          simp only [Option.some.injEq, Prod.mk.injEq] at H
          obtain ⟨rfl, rfl⟩ := H
          go_enter Try.func28, Try.ntmps28
          go_wp2_with (first | ((with_reducible refine gate_callee (f := 12) rfl ?_); refine goesL_ (some 11) rfl rfl Try.func12 (by kernel_rfl) rfl #[.int .i64 a0, .int .i64 a1] rfl (by (try simp only [List.map_toArray, List.map_cons, List.map_nil]); first | done | rfl | (simp only [List.length_drop, List.length_take]; rfl)) ?_; (with_reducible refine (ints_Div.calls k a0 a1 t347 t348 _ A3.out).mono ?_); rintro e w' ⟨rfl, ⟨nd, rfl⟩⟩; refine ⟨_, rfl, ?_⟩) | (go_at_call 37; (with_reducible refine (ints_size.calls a0 t349 _ A6.out).mono ?_); rintro e w' ⟨rfl, ⟨nd, rfl⟩⟩) | (go_at_call 37; (with_reducible refine (ints_size.calls a1 t350 _ A7.out).mono ?_); rintro e w' ⟨rfl, ⟨nd, rfl⟩⟩))
          go_ret2
          exact ⟨by first | rfl | (simp; done) | (simp [*]; done), by repeat (first | exact Drawn0.refl _ | apply Drawn0.step)⟩
    · rw [if_neg c5] at H
      have c5b0 : ((decide (a0 < 0)) == (decide (a1 < 0))) = false := by simpa using c5
      (try (have c5b1 : decide ((decide (a0 < 0)) = (decide (a1 < 0))) = false := by simpa using c5))
      (try (have c5b2 : ((decide (a0 < 0)) == (decide (a1 < 0))) = false := by simpa using c5))
      (try (have c5b3 : ¬ ((decide (a0 < 0)) = (decide (a1 < 0))) := by simpa using c5))
      clear c5
      simp only [Option.some.injEq, Prod.mk.injEq] at H
      obtain ⟨rfl, rfl⟩ := H
      go_enter Try.func28, Try.ntmps28
      go_wp2_with (first | ((with_reducible refine gate_callee (f := 12) rfl ?_); refine goesL_ (some 11) rfl rfl Try.func12 (by kernel_rfl) rfl #[.int .i64 a0, .int .i64 a1] rfl (by (try simp only [List.map_toArray, List.map_cons, List.map_nil]); first | done | rfl | (simp only [List.length_drop, List.length_take]; rfl)) ?_; (with_reducible refine (ints_Div.calls k a0 a1 t347 t348 _ A3.out).mono ?_); rintro e w' ⟨rfl, ⟨nd, rfl⟩⟩; refine ⟨_, rfl, ?_⟩))
      go_ret2
      exact ⟨by first | rfl | (simp; done) | (simp [*]; done), by repeat (first | exact Drawn0.refl _ | apply Drawn0.step)⟩
  · rw [if_neg c4] at H
    have c4b0 : (t348 == 0) = false := beq_eq_false_iff_ne.mpr c4
    have c4b1 : (t348 != 0) = true := bne_iff_ne.mpr c4
    simp only [Option.some.injEq, Prod.mk.injEq] at H
    obtain ⟨rfl, rfl⟩ := H
    go_enter Try.func28, Try.ntmps28
    go_wp2_with (first | ((with_reducible refine gate_callee (f := 12) rfl ?_); refine goesL_ (some 11) rfl rfl Try.func12 (by kernel_rfl) rfl #[.int .i64 a0, .int .i64 a1] rfl (by (try simp only [List.map_toArray, List.map_cons, List.map_nil]); first | done | rfl | (simp only [List.length_drop, List.length_take]; rfl)) ?_; (with_reducible refine (ints_Div.calls k a0 a1 t347 t348 _ A3.out).mono ?_); rintro e w' ⟨rfl, ⟨nd, rfl⟩⟩; refine ⟨_, rfl, ?_⟩))
    go_ret2
    exact ⟨by first | rfl | (simp; done) | (simp [*]; done), by repeat (first | exact Drawn0.refl _ | apply Drawn0.step)⟩

/-! ### jigsawref01_Ceil: function 29 -/
def jigsawref01_Ceil.f (a0 : Int) (a1 : Int) : Option (Int × Int) := (jigsawref01_Div.f a0 a1).bind fun bt351 => (if bt351.2 = 0 then ((jigsawref01_Mod.f a0 a1).bind fun bt353 => (if bt353.1 = 0 then (some (bt351.1, 0)) else (if ((decide (bt353.1 < 0)) == (decide (a1 < 0))) = true then (some (wrap64 (bt351.1 + 1), 0)) else (some (bt351.1, 0))))) else (some (0, bt351.2)))
set_option maxHeartbeats 8000000 in
set_option maxRecDepth 100000 in
theorem jigsawref01_Ceil.calls (a0 : Int) (a1 : Int) (r1 : Int) (r2 : Int) (w : World) (h : jigsawref01_Ceil.f a0 a1 = some (r1, r2)) :
    Calls Try.prog 29 #[.int .i64 a0, .int .i64 a1] w fun e w' => e = .returned (.tuple #[.int .i64 r1, .int .i64 r2]) ∧ Drawn0 w w' := by
  have H : ((jigsawref01_Div.f a0 a1).bind fun bt351 => (if bt351.2 = 0 then ((jigsawref01_Mod.f a0 a1).bind fun bt353 => (if bt353.1 = 0 then (some (bt351.1, 0)) else (if ((decide (bt353.1 < 0)) == (decide (a1 < 0))) = true then (some (wrap64 (bt351.1 + 1), 0)) else (some (bt351.1, 0))))) else (some (0, bt351.2)))) = some (r1, r2) := h
  clear h
  replace H := Option.bind_eq_some_iff.mp H
  obtain ⟨⟨t351, t352⟩, A30, H⟩ := H
  replace H : (if t352 = 0 then ((jigsawref01_Mod.f a0 a1).bind fun bt353 => (if bt353.1 = 0 then (some (t351, 0)) else (if ((decide (bt353.1 < 0)) == (decide (a1 < 0))) = true then (some (wrap64 (t351 + 1), 0)) else (some (t351, 0))))) else (some (0, t352))) = some (r1, r2) := H
  have A3 := Aside0.mk A30
  clear A30
  by_cases c4 : t352 = 0
  · rw [if_pos c4] at H
    have c4b0 : (t352 == 0) = true := beq_iff_eq.mpr c4
    have c4b1 : (t352 != 0) = false := bne_eq_false_iff_eq.mpr c4
    clear c4
    replace H := Option.bind_eq_some_iff.mp H
    obtain ⟨⟨t353, t354⟩, A50, H⟩ := H
    replace H : (if t353 = 0 then (some (t351, 0)) else (if ((decide (t353 < 0)) == (decide (a1 < 0))) = true then (some (wrap64 (t351 + 1), 0)) else (some (t351, 0)))) = some (r1, r2) := H
    have A5 := Aside0.mk A50
    clear A50
    by_cases c6 : t353 = 0
    · rw [if_pos c6] at H
      have c6b0 : (t353 == 0) = true := beq_iff_eq.mpr c6
      have c6b1 : (t353 != 0) = false := bne_eq_false_iff_eq.mpr c6
      clear c6
      simp only [Option.some.injEq, Prod.mk.injEq] at H
      obtain ⟨rfl, rfl⟩ := H
      go_enter Try.func29, Try.ntmps29
      go_wp2_with (first | ((with_reducible refine gate_callee (f := 23) rfl ?_); refine goesL_ (some 13) rfl rfl Try.func23 (by kernel_rfl) rfl #[.int .i64 a0, .int .i64 a1] rfl (by (try simp only [List.map_toArray, List.map_cons, List.map_nil]); first | done | rfl | (simp only [List.length_drop, List.length_take]; rfl)) ?_; (with_reducible refine (jigsawref01_Div.calls a0 a1 t351 t352 _ A3.out).mono ?_); rintro e w' ⟨rfl, ⟨nd, rfl⟩⟩; refine ⟨_, rfl, ?_⟩) | ((with_reducible refine gate_callee (f := 25) rfl ?_); refine goesL_ (some 22) rfl rfl Try.func25 (by kernel_rfl) rfl #[.int .i64 a0, .int .i64 a1] rfl (by (try simp only [List.map_toArray, List.map_cons, List.map_nil]); first | done | rfl | (simp only [List.length_drop, List.length_take]; rfl)) ?_; (with_reducible refine (jigsawref01_Mod.calls a0 a1 t353 t354 _ A5.out).mono ?_); rintro e w' ⟨rfl, ⟨nd, rfl⟩⟩; refine ⟨_, rfl, ?_⟩))
      go_ret2
      exact ⟨by first | rfl | (simp; done) | (simp [*]; done), by repeat (first | exact Drawn0.refl _ | apply Drawn0.step)⟩
    · rw [if_neg c6] at H
      have c6b0 : (t353 == 0) = false := beq_eq_false_iff_ne.mpr c6
      have c6b1 : (t353 != 0) = true := bne_iff_ne.mpr c6
      by_cases c7 : ((decide (t353 < 0)) == (decide (a1 < 0))) = true
      · rw [if_pos c7] at H
        have c7b0 : ((decide (t353 < 0)) == (decide (a1 < 0))) = true := c7
        (try (have c7b1 : decide ((decide (t353 < 0)) = (decide (a1 < 0))) = true := by simpa using c7))
        (try (have c7b2 : ((decide (t353 < 0)) == (decide (a1 < 0))) = true := by simpa using c7))
        clear c7
        simp only [Option.some.injEq, Prod.mk.injEq] at H
        obtain ⟨rfl, rfl⟩ := H
        go_enter Try.func29, Try.ntmps29
        go_wp2_with (first | ((with_reducible refine gate_callee (f := 23) rfl ?_); refine goesL_ (some 13) rfl rfl Try.func23 (by kernel_rfl) rfl #[.int .i64 a0, .int .i64 a1] rfl (by (try simp only [List.map_toArray, List.map_cons, List.map_nil]); first | done | rfl | (simp only [List.length_drop, List.length_take]; rfl)) ?_; (with_reducible refine (jigsawref01_Div.calls a0 a1 t351 t352 _ A3.out).mono ?_); rintro e w' ⟨rfl, ⟨nd, rfl⟩⟩; refine ⟨_, rfl, ?_⟩) | ((with_reducible refine gate_callee (f := 25) rfl ?_); refine goesL_ (some 22) rfl rfl Try.func25 (by kernel_rfl) rfl #[.int .i64 a0, .int .i64 a1] rfl (by (try simp only [List.map_toArray, List.map_cons, List.map_nil]); first | done | rfl | (simp only [List.length_drop, List.length_take]; rfl)) ?_; (with_reducible refine (jigsawref01_Mod.calls a0 a1 t353 t354 _ A5.out).mono ?_); rintro e w' ⟨rfl, ⟨nd, rfl⟩⟩; refine ⟨_, rfl, ?_⟩))
        go_ret2
        exact ⟨by first | rfl | (simp; done) | (simp [*]; done), by repeat (first | exact Drawn0.refl _ | apply Drawn0.step)⟩
      · rw [if_neg c7] at H
        have c7b0 : ((decide (t353 < 0)) == (decide (a1 < 0))) = false := by simpa using c7
        (try (have c7b1 : decide ((decide (t353 < 0)) = (decide (a1 < 0))) = false := by simpa using c7))
        (try (have c7b2 : ((decide (t353 < 0)) == (decide (a1 < 0))) = false := by simpa using c7))
        (try (have c7b3 : ¬ ((decide (t353 < 0)) = (decide (a1 < 0))) := by simpa using c7))
        clear c7
        simp only [Option.some.injEq, Prod.mk.injEq] at H
        obtain ⟨rfl, rfl⟩ := H
        go_enter Try.func29, Try.ntmps29
        go_wp2_with (first | ((with_reducible refine gate_callee (f := 23) rfl ?_); refine goesL_ (some 13) rfl rfl Try.func23 (by kernel_rfl) rfl #[.int .i64 a0, .int .i64 a1] rfl (by (try simp only [List.map_toArray, List.map_cons, List.map_nil]); first | done | rfl | (simp only [List.length_drop, List.length_take]; rfl)) ?_; (with_reducible refine (jigsawref01_Div.calls a0 a1 t351 t352 _ A3.out).mono ?_); rintro e w' ⟨rfl, ⟨nd, rfl⟩⟩; refine ⟨_, rfl, ?_⟩) | ((with_reducible refine gate_callee (f := 25) rfl ?_); refine goesL_ (some 22) rfl rfl Try.func25 (by kernel_rfl) rfl #[.int .i64 a0, .int .i64 a1] rfl (by (try simp only [List.map_toArray, List.map_cons, List.map_nil]); first | done | rfl | (simp only [List.length_drop, List.length_take]; rfl)) ?_; (with_reducible refine (jigsawref01_Mod.calls a0 a1 t353 t354 _ A5.out).mono ?_); rintro e w' ⟨rfl, ⟨nd, rfl⟩⟩; refine ⟨_, rfl, ?_⟩))
        go_ret2
        exact ⟨by first | rfl | (simp; done) | (simp [*]; done), by repeat (first | exact Drawn0.refl _ | apply Drawn0.step)⟩
  · rw [if_neg c4] at H
    have c4b0 : (t352 == 0) = false := beq_eq_false_iff_ne.mpr c4
    have c4b1 : (t352 != 0) = true := bne_iff_ne.mpr c4
    simp only [Option.some.injEq, Prod.mk.injEq] at H
    obtain ⟨rfl, rfl⟩ := H
    go_enter Try.func29, Try.ntmps29
    go_wp2_with (first | ((with_reducible refine gate_callee (f := 23) rfl ?_); refine goesL_ (some 13) rfl rfl Try.func23 (by kernel_rfl) rfl #[.int .i64 a0, .int .i64 a1] rfl (by (try simp only [List.map_toArray, List.map_cons, List.map_nil]); first | done | rfl | (simp only [List.length_drop, List.length_take]; rfl)) ?_; (with_reducible refine (jigsawref01_Div.calls a0 a1 t351 t352 _ A3.out).mono ?_); rintro e w' ⟨rfl, ⟨nd, rfl⟩⟩; refine ⟨_, rfl, ?_⟩))
    go_ret2
    exact ⟨by first | rfl | (simp; done) | (simp [*]; done), by repeat (first | exact Drawn0.refl _ | apply Drawn0.step)⟩

end Go.Proofs.Ytfkbkcdiajjljaa.PA
