/- Parts of the laws of lex: functions of the program, each with the proof of what it answers; the conditions are those of each theorem. -/
import Derived.Test.YtgpdahgpopmjiaaDoorLk
import Derived.Test.YtgpdahgpopmjiaaDoorPLx1
namespace Go.Proofs.YtgpdahgpopmjiaaDoor.PL
open Go.RowKit Go.Proofs.YtgpdahgpopmjiaaDoorW.PrintWords Go.Proofs.YtgpdahgpopmjiaaDoorW.PrintLast Go.Proofs.YtgpdahgpopmjiaaDoorW.PrintMore
set_option linter.unusedVariables false
set_option linter.unusedSimpArgs false
attribute [local go_sem high] eqA28
/-! ### jigsawref15_Same: function 10 -/
def jigsawref15_Same.l0 : Nat → List (S28) → List (S28) → Int → Option (Bool)
  | 0, _, _, _ => none
  | k + 1, x0, x1, x5 => if x5 < (x0.length : Int) then (if 0 ≤ x5 then (if x5 < (x1.length : Int) then (if (!(((rd_T28 x0 x5).f0) == ((rd_T28 x1 x5).f0)) || (!((((rd_T28 x0 x5).f1).toList) == (((rd_T28 x1 x5).f1).toList)) || (!(((rd_T28 x0 x5).f2) == ((rd_T28 x1 x5).f2)) || (!(((rd_T28 x0 x5).f3) == ((rd_T28 x1 x5).f3)))))) = true then (some false) else (jigsawref15_Same.l0 k x0 x1 (wrap64 (x5 + 1)))) else (none)) else (none)) else (some true)
def jigsawref15_Same.f (k : Nat) (l0 : List (S28)) (l1 : List (S28)) : Option (Bool) := if (l0.length : Int) = (l1.length : Int) then (jigsawref15_Same.l0 k l0 l1 0) else (some false)
theorem jigsawref15_Same.mono_l : ∀ k, (∀ y0 y1 y2, LeO (jigsawref15_Same.l0 k y0 y1 y2) (jigsawref15_Same.l0 (k + 1) y0 y1 y2))
  | 0 => fun _ _ _ r h => by simp [jigsawref15_Same.l0] at h
  | k + 1 => by
    have ih0 := jigsawref15_Same.mono_l k
    · intro y0 y1 y2
      unfold jigsawref15_Same.l0
      repeat' first
      | (with_reducible exact ih0 _ _ _)
      | (with_reducible exact LeO.refl _)
      | (with_reducible exact LeO.none _)
      | (with_reducible refine LeO.ite ?_ ?_)
      | (with_reducible refine LeO.bind ?_ (fun _ => ?_))
      | exact ih0 _ _ _
      | exact LeO.none _
      | refine LeO.ite ?_ ?_
      | refine LeO.bind ?_ (fun _ => ?_)
theorem jigsawref15_Same.mono : ∀ a0 a1 k, LeO (jigsawref15_Same.f k a0 a1) (jigsawref15_Same.f (k + 1) a0 a1) := by
  intro a0 a1 k
  have ih0 := jigsawref15_Same.mono_l k
  unfold jigsawref15_Same.f
  repeat' first
      | (with_reducible exact ih0 _ _ _)
      | (with_reducible exact LeO.refl _)
      | (with_reducible exact LeO.none _)
      | (with_reducible refine LeO.ite ?_ ?_)
      | (with_reducible refine LeO.bind ?_ (fun _ => ?_))
      | exact ih0 _ _ _
      | exact LeO.none _
      | refine LeO.ite ?_ ?_
      | refine LeO.bind ?_ (fun _ => ?_)
set_option maxHeartbeats 8000000 in
set_option maxRecDepth 100000 in
theorem jigsawref15_Same.calls (k : Nat) (A0 : Option Addr) (c0 : Nat) (l0 : List (S28)) (A1 : Option Addr) (c1 : Nat) (l1 : List (S28)) (r : Bool) (w : World) (hr0 : Kd.C k28 w A0 l0.length l0) (hc0 : l0.length ≤ c0) (hr1 : Kd.C k28 w A1 l1.length l1) (hc1 : l1.length ≤ c1) (h : jigsawref15_Same.f k l0 l1 = some r) :
    Calls Tryd.prog 10 #[.slice A0 l0.length c0, .slice A1 l1.length c1] w fun e w' => e = .returned (.bool r) ∧ Drawn0 w w' := by
  have hu28 := Tryd.underlying28
  have HR0 := Aside0.mk hr0
  have HC0 := Aside0.mk hc0
  clear hr0 hc0
  have HR1 := Aside0.mk hr1
  have HC1 := Aside0.mk hc1
  clear hr1 hc1
  have H : (if (l0.length : Int) = (l1.length : Int) then (jigsawref15_Same.l0 k l0 l1 0) else (some false)) = some r := h
  clear h
  by_cases c3 : (l0.length : Int) = (l1.length : Int)
  · rw [if_pos c3] at H
    have c3b0 : ((l0.length : Int) == (l1.length : Int)) = true := beq_iff_eq.mpr c3
    have c3b1 : ((l0.length : Int) != (l1.length : Int)) = false := bne_eq_false_iff_eq.mpr c3
    have c3b2 : (l0.length == l1.length) = true := by first | simpa using c3 | (simp at c3 ⊢; omega)
    clear c3
    have H' := Aside0.mk H
    clear H
    go_enter Tryd.func10, Tryd.ntmps10
    go_wp2
    repeat (go_quiet (fail); try go_wp2)
    go_loopg [5] k (fun kq v5 w' => ∃ (x5_1 : Int), v5 = .int .i64 x5_1 ∧ Aside0 (jigsawref15_Same.l0 kq l0 l1 x5_1 = some r) ∧ Aside0 (kq ≤ k) ∧ Drawn0 w w')
    case atStart => exact ⟨(0), (by first | rfl | (simp; done) | (simp [*]; done)), H', ⟨Nat.le_refl _⟩, by repeat (first | exact Drawn0.refl _ | apply Drawn0.step)⟩
    case round =>
      clear H'
      try clear c1
      try clear p2
      try clear c3
      try clear c3b0
      try clear c3b1
      try clear c3b2
      obtain ⟨x5_1, rfl, HA, HK1, ⟨m1, rfl⟩⟩ := hrel
      cases gk with
      | zero => exact absurd HA.out (by simp [jigsawref15_Same.l0])
      | succ k1 =>
        have H := HA.out
        clear HA
        simp only [jigsawref15_Same.l0] at H
        by_cases c4 : x5_1 < (l0.length : Int)
        · rw [if_pos c4] at H
          have c4b0 : decide (x5_1 < (l0.length : Int)) = true := decide_eq_true c4
          clear c4
          by_cases c5 : 0 ≤ x5_1
          · rw [if_pos c5] at H
            have c5b0 : decide (0 ≤ x5_1) = true := decide_eq_true c5
            clear c5
            by_cases c6 : x5_1 < (l1.length : Int)
            · rw [if_pos c6] at H
              have c6b0 : decide (x5_1 < (l1.length : Int)) = true := decide_eq_true c6
              clear c6
              by_cases c7 : (!(((rd_T28 l0 x5_1).f0) == ((rd_T28 l1 x5_1).f0)) || (!((((rd_T28 l0 x5_1).f1).toList) == (((rd_T28 l1 x5_1).f1).toList)) || (!(((rd_T28 l0 x5_1).f2) == ((rd_T28 l1 x5_1).f2)) || (!(((rd_T28 l0 x5_1).f3) == ((rd_T28 l1 x5_1).f3)))))) = true
              · rw [if_pos c7] at H
                have c7b0 : (!(((rd_T28 l0 x5_1).f0) == ((rd_T28 l1 x5_1).f0)) || (!((((rd_T28 l0 x5_1).f1).toList) == (((rd_T28 l1 x5_1).f1).toList)) || (!(((rd_T28 l0 x5_1).f2) == ((rd_T28 l1 x5_1).f2)) || (!(((rd_T28 l0 x5_1).f3) == ((rd_T28 l1 x5_1).f3)))))) = true := c7
                clear c7
                obtain rfl := Option.some.inj H
                have p104 : 0 ≤ (x5_1 : Int) := of_decide_eq_true (by first | (with_reducible assumption) | assumption)
                have q104 : x5_1 < (l0.length : Int) := of_decide_eq_true (by first | (with_reducible assumption) | assumption)
                obtain ⟨ad104, e104, hx104_0, hx104_1, hx104_2, hx104_3⟩ := at_T28 HR0.out x5_1 p104 q104
                cases e104
                replace p104 := eq_true p104
                replace q104 := eq_true q104
                have p105 : 0 ≤ (x5_1 : Int) := of_decide_eq_true (by first | (with_reducible assumption) | assumption)
                have q105 : x5_1 < (l1.length : Int) := of_decide_eq_true (by first | (with_reducible assumption) | assumption)
                obtain ⟨ad105, e105, hx105_0, hx105_1, hx105_2, hx105_3⟩ := at_T28 HR1.out x5_1 p105 q105
                cases e105
                replace p105 := eq_true p105
                replace q105 := eq_true q105
                go_wp2
                repeat (go_quiet (fail); try go_wp2)
                go_ret
                exact ⟨by first | rfl | (simp; done) | (simp [*]; done), by repeat (first | exact Drawn0.refl _ | apply Drawn0.step)⟩
              · rw [if_neg c7] at H
                have c7b0 : (!(((rd_T28 l0 x5_1).f0) == ((rd_T28 l1 x5_1).f0)) || (!((((rd_T28 l0 x5_1).f1).toList) == (((rd_T28 l1 x5_1).f1).toList)) || (!(((rd_T28 l0 x5_1).f2) == ((rd_T28 l1 x5_1).f2)) || (!(((rd_T28 l0 x5_1).f3) == ((rd_T28 l1 x5_1).f3)))))) = false := by simpa using c7
                clear c7
                have H' := Aside0.mk H
                clear H
                have p104 : 0 ≤ (x5_1 : Int) := of_decide_eq_true (by first | (with_reducible assumption) | assumption)
                have q104 : x5_1 < (l0.length : Int) := of_decide_eq_true (by first | (with_reducible assumption) | assumption)
                obtain ⟨ad104, e104, hx104_0, hx104_1, hx104_2, hx104_3⟩ := at_T28 HR0.out x5_1 p104 q104
                cases e104
                replace p104 := eq_true p104
                replace q104 := eq_true q104
                have p105 : 0 ≤ (x5_1 : Int) := of_decide_eq_true (by first | (with_reducible assumption) | assumption)
                have q105 : x5_1 < (l1.length : Int) := of_decide_eq_true (by first | (with_reducible assumption) | assumption)
                obtain ⟨ad105, e105, hx105_0, hx105_1, hx105_2, hx105_3⟩ := at_T28 HR1.out x5_1 p105 q105
                cases e105
                replace p105 := eq_true p105
                replace q105 := eq_true q105
                go_wp2
                repeat (go_quiet (fail); try go_wp2)
                go_roundg k1
                case measure => have := HK1.out; omega
                case rel => exact ⟨(wrap64 (x5_1 + 1)), (by first | rfl | (simp; done) | (simp [*]; done)), H', ⟨by have := HK1.out; omega⟩, by repeat (first | exact Drawn0.refl _ | apply Drawn0.step)⟩
            · rw [if_neg c6] at H
              exact absurd H (by simp)
          · rw [if_neg c5] at H
            exact absurd H (by simp)
        · rw [if_neg c4] at H
          have c4b0 : decide (x5_1 < (l0.length : Int)) = false := decide_eq_false c4
          clear c4
          obtain rfl := Option.some.inj H
          go_wp2
          repeat (go_quiet (fail); try go_wp2)
          go_ret
          exact ⟨by first | rfl | (simp; done) | (simp [*]; done), by repeat (first | exact Drawn0.refl _ | apply Drawn0.step)⟩
  · rw [if_neg c3] at H
    have c3b0 : ((l0.length : Int) == (l1.length : Int)) = false := beq_eq_false_iff_ne.mpr c3
    have c3b1 : ((l0.length : Int) != (l1.length : Int)) = true := bne_iff_ne.mpr c3
    have c3b2 : (l0.length == l1.length) = false := by first | simpa using c3 | (simp at c3 ⊢; omega)
    obtain rfl := Option.some.inj H
    go_enter Tryd.func10, Tryd.ntmps10
    go_wp2
    repeat (go_quiet (fail); try go_wp2)
    go_ret
    exact ⟨by first | rfl | (simp; done) | (simp [*]; done), by repeat (first | exact Drawn0.refl _ | apply Drawn0.step)⟩

/-! ### known -/
def kn1 : List UInt8 := [118, 97, 114, 32, 49, 46, 46, 53, 58, 32, 120, 59, 32, 37, 32, 101, 110, 100]
theorem known1 : (scanL kn1).2 = (0, 0) ∧ (scanL kn1).1.length = 8 ∧ (((scanL kn1).1.map fun t => t.n)[1]? = some 1) ∧ (((scanL kn1).1.map fun t => t.text)[2]? = some [46, 46]) ∧ (((scanL kn1).1.map fun t => t.pos)[7]? = some 18) := by
  decide +kernel
theorem known2 : (scanL [120, 32, 49, 46, 53]).2 = (173, 2) ∧ (scanL [34, 97]).2 = (150, 0) ∧ wordL [97, 95, 49] = true ∧ wordL [49, 97] = false := by
  decide +kernel
theorem known_toks (w : World) (A : Option Addr) (n : Nat) (h : Kd.C k28 w A n ((scanL kn1).1.map tokS)) : n = 8 ∧ ∃ ad, A = some ad ∧ w.cell? ⟨ad.block, ad.off + 4 + 2, none⟩ = some (.int .i64 1) ∧ w.cell? ⟨ad.block, ad.off + 8 + 1, none⟩ = some (.string ⟨#[46, 46]⟩) ∧ w.cell? ⟨ad.block, ad.off + 28 + 3, none⟩ = some (.int .i64 18) := by
  have hl : n = 8 := by
    have := h.1
    rw [List.length_map, known1.2.1] at this
    omega
  subst hl
  obtain ⟨_, _, h1, h2, h3⟩ := known1
  obtain ⟨ad, rfl, _, _, a3, _⟩ := at_T28 h 1 (by decide) (by decide)
  obtain ⟨ad', e, _, b2, _, _⟩ := at_T28 h 2 (by decide) (by decide)
  cases e
  obtain ⟨ad'', e, _, _, _, c4⟩ := at_T28 h 7 (by decide) (by decide)
  cases e
  have g : ∀ (i : Nat) (t : Tok), (scanL kn1).1[i]? = some t → rd_T28 ((scanL kn1).1.map tokS) i = tokS t := by
    intro i t ht
    unfold rd_T28
    rw [Int.toNat_natCast, List.getD_eq_getElem?_getD, List.getElem?_map, ht]
    rfl
  rw [List.getElem?_map] at h1 h2 h3
  cases k1 : (scanL kn1).1[1]? with
  | none => rw [k1] at h1; cases h1
  | some t1 =>
  cases k2 : (scanL kn1).1[2]? with
  | none => rw [k2] at h2; cases h2
  | some t2 =>
  cases k3 : (scanL kn1).1[7]? with
  | none => rw [k3] at h3; cases h3
  | some t3 =>
  rw [k1] at h1; rw [k2] at h2; rw [k3] at h3
  have e1 : t1.n = 1 := by simpa using h1
  have e2 : t2.text = [46, 46] := by simpa using h2
  have e3 : t3.pos = 18 := by simpa using h3
  refine ⟨rfl, ad, rfl, ?_, ?_, ?_⟩
  · rw [show (1 : Int) = ((1 : Nat) : Int) from rfl, g 1 t1 k1] at a3
    rw [show (tokS t1).f2 = 1 from e1] at a3
    exact a3
  · rw [show (2 : Int) = ((2 : Nat) : Int) from rfl, g 2 t2 k2] at b2
    rw [show (tokS t2).f1 = ⟨#[46, 46]⟩ by unfold tokS; rw [e2]] at b2
    exact b2
  · rw [show (7 : Int) = ((7 : Nat) : Int) from rfl, g 7 t3 k3] at c4
    rw [show (tokS t3).f3 = 18 by unfold tokS; rw [e3]; rfl] at c4
    exact c4
set_option maxRecDepth 100000 in
set_option maxHeartbeats 16000000 in
theorem known_calls (w : World) (hl : LxLaid w) : Calls Tryd.prog 8 #[] w fun e w' => e = .returned (.bool true) ∧ Below w.heap.size w w' := by
  have HL := Lib.hid hl
  clear hl
  have hs1 := fun W h => scan_calls ⟨#[118, 97, 114, 32, 49, 46, 46, 53, 58, 32, 120, 59, 32, 37, 32, 101, 110, 100]⟩ (by decide) W h
  have hs2 := fun W h => scan_calls ⟨#[120, 32, 49, 46, 53]⟩ (by decide) W h
  have hs3 := fun W h => scan_calls ⟨#[34, 97]⟩ (by decide) W h
  rw [show ll ⟨#[118, 97, 114, 32, 49, 46, 46, 53, 58, 32, 120, 59, 32, 37, 32, 101, 110, 100]⟩ = kn1 from rfl, known1.1] at hs1
  rw [show ll ⟨#[120, 32, 49, 46, 53]⟩ = [120, 32, 49, 46, 53] from rfl, known2.1] at hs2
  rw [show ll ⟨#[34, 97]⟩ = [34, 97] from rfl, known2.2.1] at hs3
  have hw1 := fun W => word_calls ⟨#[97, 95, 49]⟩ (by decide) W
  have hw2 := fun W => word_calls ⟨#[49, 97]⟩ (by decide) W
  rw [show ll ⟨#[97, 95, 49]⟩ = [97, 95, 49] from rfl, known2.2.2.1] at hw1
  rw [show ll ⟨#[49, 97]⟩ = [49, 97] from rfl, known2.2.2.2] at hw2
  have HS1 := Lib.hid hs1; have HS2 := Lib.hid hs2; have HS3 := Lib.hid hs3; have HW1 := Lib.hid hw1; have HW2 := Lib.hid hw2
  clear hs1 hs2 hs3 hw1 hw2
  refine calls_of_wp Tryd.func8 rfl ?_
  simp only [Tryd.ntmps8, List.size_toArray, List.length_cons, List.length_nil, Nat.reduceAdd, Nat.reduceSub, Array.replicate_succ, Array.replicate_zero, List.push_toArray, List.append_toArray, List.nil_append, List.cons_append]
  go_wp2_with fail
  refine (HS1.out w HL.out).mono ?_
  rintro e w1 ⟨A, n, c, _, rfl, hC, hb1⟩
  have HB1 := Lib.hid hb1
  have HC := Lib.hid hC
  clear hb1 hC
  go_wp2_with fail
  refine (HS2.out w1 (HL.out.below HB1.out)).mono ?_
  rintro e w2 ⟨A2, n2, c2, _, rfl, hC2, hb2⟩
  have HB2 := Lib.hid (below_step HB1.out hb2)
  have HC2 := Lib.hid (Kd.C_below HC.out hb2)
  clear hb2 hC2
  go_wp2_with fail
  refine (HS3.out w2 (HL.out.below HB2.out)).mono ?_
  rintro e w3 ⟨A3, n3, c3, _, rfl, hC3, hb3⟩
  have HB3 := Lib.hid (below_step HB2.out hb3)
  obtain ⟨rfl, ad, rfl, x1, x2, x3⟩ := known_toks w3 A n (Kd.C_below HC2.out hb3)
  clear hb3 hC3
  go_wp2_with fail
  refine (HW1.out _).mono ?_
  rintro e w4 ⟨rfl, rfl⟩
  go_wp2_with fail
  refine (HW2.out _).mono ?_
  rintro e w5 ⟨rfl, rfl⟩
  go_wp2_with fail
  go_ret
  exact ⟨rfl, HB3.out⟩

end Go.Proofs.YtgpdahgpopmjiaaDoor.PL
