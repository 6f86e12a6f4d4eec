/- Parts of the laws of sets and branch: functions of the program, each with the proof of what it answers; the conditions are those of each theorem. -/
import Derived.Test.YtjeomiooheoegaaGreatDoorC1
import Derived.Lib.Hide
import Derived.IntWalk
import Derived.RangeFuncBox
namespace Go.Proofs.YtjeomiooheoegaaGreatDoor.PD
open Go.RowKit Go.Proofs.YtjeomiooheoegaaGreatDoorW.PrintWords Go.Proofs.YtjeomiooheoegaaGreatDoorW.PrintLast Go.Proofs.YtjeomiooheoegaaGreatDoorW.PrintMore
set_option linter.unusedVariables false
set_option linter.unusedSimpArgs false
/-! ### rows of ranges -/
theorem add_zero_off (b i : Nat) : (Addr.add ⟨b, 0, none⟩ i) = ⟨b, i, none⟩ := by
  simp [Addr.add]; omega
theorem row_form {w : World} {base e size n : Nat} {v : Value} {xs : List Value} (h : w.ownsRow base e size v n xs) : ∃ A c, v = .slice A n c := by
  rcases h.2 with ⟨rfl, rfl⟩ | ⟨g, cap, cur, rfl, _⟩
  · exact ⟨_, _, rfl⟩
  · exact ⟨_, _, rfl⟩
theorem row_cap {w : World} {base e size n c : Nat} {A : Option Addr} {xs : List Value} (h : w.ownsRow base e size (.slice A n c) n xs) : n ≤ c := by
  rcases h.2 with ⟨e, rfl⟩ | ⟨g, cap, cur, e, _, _, h1, _⟩
  · exact Nat.zero_le _
  · injection e with _ _ e
    omega
def cells57 (s : S119) : List Value := [.int .i64 s.f0, .int .i64 s.f1]
def flat57 (xs : List S119) : List Value := xs.flatMap cells57
theorem flat57_len (xs : List S119) : (flat57 xs).length = xs.length * 2 := by
  induction xs with
  | nil => rfl
  | cons s xs ih =>
    have : flat57 (s :: xs) = cells57 s ++ flat57 xs := by simp [flat57]
    rw [this, List.length_append, ih, List.length_cons]
    show 2 + _ = _
    omega
theorem flat57_snoc (ys : List S119) (s : S119) : flat57 (ys ++ [s]) = flat57 ys ++ cells57 s := by simp [flat57]
theorem flat57_one : ∀ (xs : List S119), ∀ u ∈ flat57 xs, u.oneCell' = true := by
  intro xs u hu
  unfold flat57 at hu
  rw [List.mem_flatMap] at hu
  obtain ⟨s, _, hs⟩ := hu
  simp only [cells57, List.mem_cons, List.not_mem_nil, or_false] at hs
  rcases hs with rfl | rfl <;> rfl
theorem flat57_reps (w : World) (xs : List S119) : Reps (k119.K w) 2 xs (flat57 xs) := by
  obtain ⟨r, rfl⟩ : ∃ r, xs = r.reverse := ⟨xs.reverse, by simp⟩
  induction r with
  | nil => exact Reps.none _ _
  | cons s r ih =>
    rw [List.reverse_cons, flat57_snoc]
    exact ih.snoc (k119_mk w s) rfl
theorem reps_flat57 {K : S119 → List Value → Prop} (hK : ∀ x cs, K x cs → cs = cells57 x) : ∀ (xs : List S119) (cs : List Value), Reps K 2 xs cs → cs = flat57 xs
  | [], cs, h => by
    have := h.1
    simp only [List.length_nil, Nat.zero_mul] at this
    rw [List.length_eq_zero_iff.1 this]
    rfl
  | x :: xs, cs, h => by
    have h0 := hK _ _ (h.2 0 x rfl)
    rw [Nat.zero_mul, List.drop_zero] at h0
    have ht := reps_flat57 hK xs (cs.drop 2) ⟨by rw [List.length_drop, h.1, List.length_cons]; omega, fun j p hj => by
      have := h.2 (j + 1) p (by simpa using hj)
      rw [List.drop_drop]
      rw [show 2 + j * 2 = (j + 1) * 2 by omega]
      exact this⟩
    have e : cs = cs.take 2 ++ cs.drop 2 := (List.take_append_drop 2 cs).symm
    rw [e, h0, ht]
    simp [flat57]
/-- a slice that reads as a list of ranges -/
def Lst (w : World) (v : Value) (l : List S119) : Prop := ∃ A c, v = .slice A l.length c ∧ Kd.C k119 w A l.length l ∧ l.length ≤ c
theorem Lst.below {w w' : World} {v : Value} {l : List S119} (h : Lst w v l) (hb : Below w.heap.size w w') : Lst w' v l := by
  obtain ⟨A, c, e, hC, hc⟩ := h
  exact ⟨A, c, e, Kd.C_below hC hb, hc⟩
/-- a row of ranges of the call's own -/
def Row (w : World) (base : Nat) (v : Value) (l : List S119) : Prop := w.ownsRow base 119 2 v l.length (flat57 l)
theorem Row.lst {w : World} {base : Nat} {v : Value} {l : List S119} (h : Row w base v l) : Lst w v l := by
  obtain ⟨A, c, e, hC⟩ := own_reads_row h (flat57_reps w l) rfl
  refine ⟨A, c, e, hC, ?_⟩
  subst e
  exact row_cap h
theorem Row.below {w w' : World} {base : Nat} {v : Value} {l : List S119} (h : Row w base v l) (hb : Below w.heap.size w w') : Row w' base v l := pw_own_below h hb
theorem Row.lower {w : World} {base base' : Nat} {v : Value} {l : List S119} (h : Row w base v l) (hb : base' ≤ base) : Row w base' v l := own_weaken h hb
theorem Row.nil (w : World) (base : Nat) : Row w base (.slice none 0 0) [] := World.ownsRow_nil _ _ _ _
theorem Lst.nil (w : World) : Lst w (.slice none 0 0) [] := (Row.nil w 0).lst
theorem rd57 (l : List S119) (i : Nat) (h : i < l.length) : rd_T119 l (i : Int) = l[i] := by
  unfold rd_T119
  rw [Int.toNat_natCast, List.getD_eq_getElem?_getD, List.getElem?_eq_getElem h]
  rfl
/-- the cells of a list's element -/
theorem rng_at {w : World} {A : Option Addr} {n : Nat} {l : List S119} (h : Kd.C k119 w A n l) (k : Nat) (hk : k < l.length) : ∃ ad, A = some ad ∧ w.cell? (ad.add (k * 2)) = some (.int .i64 l[k].f0) ∧ w.cell? ⟨(ad.add (k * 2)).block, (ad.add (k * 2)).off + 1, none⟩ = some (.int .i64 l[k].f1) := by
  have hn : n = l.length := h.1.symm
  have q := at_T119 h (k : Int) (by omega) (by omega)
  rw [rd57 l k hk, Int.toNat_natCast] at q
  exact q
/-! ### ranges that are right -/
def rightL : Int → List S119 → Bool
  | _, [] => true
  | e, s :: t => if s.f0 ≤ e + 1 then false else if s.f1 < s.f0 then false else if s.f1 > 1000000 then false else rightL s.f1 t
def rightS (l : List S119) : Bool := if 4096 < l.length then false else rightL (-1000002) l
theorem right_l0 (l : List S119) (hl : l.length ≤ 4096) : ∀ (d i : Nat) (e : Int), l.length = i + d → -1000002 ≤ e → e ≤ 1000000 → dom_Right.l0 (d + 1) e l (l.length : Int) (i : Int) = some (rightL e (l.drop i))
  | 0, i, e, hd, h1, h2 => by
    simp only [dom_Right.l0]
    rw [if_neg (by omega), List.drop_eq_nil_of_le (by omega)]
    rfl
  | d + 1, i, e, hd, h1, h2 => by
    have hi : i < l.length := by omega
    rw [List.drop_eq_getElem_cons hi]
    simp only [dom_Right.l0]
    rw [if_pos (by omega), if_pos (by omega), if_pos (by omega), rd57 l i hi]
    rw [show wrap64 (e + 1) = e + 1 from IntWalk.wrap64_in _ (by omega)]
    unfold rightL
    generalize l[i] = s
    by_cases c1 : s.f0 ≤ e + 1
    · rw [if_pos c1, if_pos c1]
    · rw [if_neg c1, if_neg c1]
      by_cases c2 : s.f1 < s.f0
      · rw [if_pos c2, if_pos c2]
      · rw [if_neg c2, if_neg c2]
        by_cases c3 : s.f1 > 1000000
        · rw [if_pos c3, if_pos c3]
        · rw [if_neg c3, if_neg c3]
          rw [show wrap64 ((i : Int) + 1) = ((i + 1 : Nat) : Int) from IntWalk.wrap64_in _ (by omega)]
          exact right_l0 l hl d (i + 1) s.f1 (by omega) (by omega) (by omega)
theorem right_f (l : List S119) : dom_Right.f (l.length + 1) l = some (rightS l) := by
  unfold dom_Right.f rightS
  by_cases h : 4096 < l.length
  · rw [if_pos (by omega), if_pos h]
  · rw [if_neg (by omega), if_neg h]
    exact right_l0 l (by omega) l.length 0 _ (by omega) (by omega) (by omega)
theorem right_calls {v : Value} (l : List S119) (w : World) (h : Lst w v l) :
    Calls Tryz.prog 159 #[v] w fun e w' => e = .returned (.bool (rightS l)) ∧ Below w.heap.size w w' := by
  obtain ⟨A, c, rfl, hC, hc⟩ := h
  exact dom_Right.calls _ A c l _ w hC hc (right_f l)
/-- ranges as they are taken -/
def takenL (l : List S119) : List S119 := if rightS l then l else []
theorem takenL_right (l : List S119) : rightS (takenL l) = true := by
  unfold takenL
  split
  · assumption
  · rfl
theorem takenL_of {l : List S119} (h : rightS l = true) : takenL l = l := by unfold takenL; rw [if_pos h]
theorem right_le {l : List S119} (h : rightS l = true) : l.length ≤ 4096 := by
  unfold rightS at h
  split at h
  · cases h
  · omega
set_option maxHeartbeats 4000000 in
theorem taken_calls {v : Value} (l : List S119) (w : World) (h : Lst w v l) :
    Calls Tryz.prog 163 #[v] w fun e w' => ∃ v', e = .returned v' ∧ Lst w' v' (takenL l) ∧ Below w.heap.size w w' ∧ (rightS l = true → v' = v) := by
  have HR := Lib.hid (right_calls l w h)
  have H := Lib.hid h
  obtain ⟨A, c, rfl, _, _⟩ := h
  cases hR : rightS l with
  | true =>
    have HT := Lib.hid (takenL_of hR)
    have HX := Lib.hid hR
    go_enter Tryz.func163, Tryz.ntmps163
    go_wp2_with fail
    refine HR.out.mono ?_
    rw [HX.out]
    rintro e w1 ⟨rfl, hb⟩
    go_wp2_with fail
    go_ret
    refine ⟨_, rfl, ?_, hb, fun _ => rfl⟩
    rw [HT.out]
    exact H.out.below hb
  | false =>
    have HT := Lib.hid (show takenL l = [] by unfold takenL; rw [hR]; rfl)
    have HX := Lib.hid hR
    go_enter Tryz.func163, Tryz.ntmps163
    go_wp2_with fail
    refine HR.out.mono ?_
    rw [HX.out]
    rintro e w1 ⟨rfl, hb⟩
    go_wp2_with fail
    go_ret
    refine ⟨_, rfl, ?_, hb, fun h => by cases h⟩
    rw [HT.out]
    exact Lst.nil w1

end Go.Proofs.YtjeomiooheoegaaGreatDoor.PD

namespace Go.Proofs.YtjeomiooheoegaaGreatDoor.PD
open Go.RowKit Go.Proofs.YtjeomiooheoegaaGreatDoorW.PrintWords Go.Proofs.YtjeomiooheoegaaGreatDoorW.PrintLast Go.Proofs.YtjeomiooheoegaaGreatDoorW.PrintMore
set_option linter.unusedVariables false
set_option linter.unusedSimpArgs false
/-! ### Size, Next, Has, Min, Max -/
end Go.Proofs.YtjeomiooheoegaaGreatDoor.PD

namespace Go.Proofs.YtjeomiooheoegaaGreatDoor.PD
open Go.RowKit Go.Proofs.YtjeomiooheoegaaGreatDoorW.PrintWords Go.Proofs.YtjeomiooheoegaaGreatDoorW.PrintLast Go.Proofs.YtjeomiooheoegaaGreatDoorW.PrintMore
attribute [local go_sem] max2_int min2_int max_two min_two max_three min_three max_four min_four   -- for this text's walks alone
set_option linter.unusedVariables false
set_option linter.unusedSimpArgs false

attribute [local go_sem high] eqA119
/-! ### api_Range_215: function 215 -/
def api_Range_215.l0 : Nat → List (S119) → List (S119) → Int → Int → Option (Bool)
  | 0, _, _, _, _ => none
  | k + 1, x0, x1, x12, x13 => if x13 < x12 then (if 0 ≤ x13 then (if x13 < (x0.length : Int) then (if x13 < (x1.length : Int) then (if (!(((rd_T119 x0 x13).f0) == ((rd_T119 x1 x13).f0)) || (!(((rd_T119 x0 x13).f1) == ((rd_T119 x1 x13).f1)))) = true then (some false) else (api_Range_215.l0 k x0 x1 x12 (wrap64 (x13 + 1)))) else (none)) else (none)) else (none)) else (some true)
def api_Range_215.f (k : Nat) (l0 : List (S119)) (l1 : List (S119)) : Option (Bool) := if (l0.length : Int) = (l1.length : Int) then (api_Range_215.l0 k l0 l1 (l0.length : Int) 0) else (some false)
theorem api_Range_215.mono_l : ∀ k, (∀ y0 y1 y2 y3, LeO (api_Range_215.l0 k y0 y1 y2 y3) (api_Range_215.l0 (k + 1) y0 y1 y2 y3))
  | 0 => fun _ _ _ _ r h => by simp [api_Range_215.l0] at h
  | k + 1 => by
    have ih0 := api_Range_215.mono_l k
    · intro y0 y1 y2 y3
      unfold api_Range_215.l0
      repeat' first
      | (with_reducible exact ih0 _ _ _ _)
      | (with_reducible exact LeO.refl _)
      | (with_reducible exact LeO.none _)
      | (with_reducible refine LeO.ite ?_ ?_)
      | (with_reducible refine LeO.bind ?_ (fun _ => ?_))
      | exact ih0 _ _ _ _
      | exact LeO.none _
      | refine LeO.ite ?_ ?_
      | refine LeO.bind ?_ (fun _ => ?_)
theorem api_Range_215.mono : ∀ a0 a1 k, LeO (api_Range_215.f k a0 a1) (api_Range_215.f (k + 1) a0 a1) := by
  intro a0 a1 k
  have ih0 := api_Range_215.mono_l k
  unfold api_Range_215.f
  repeat' first
      | (with_reducible exact ih0 _ _ _ _)
      | (with_reducible exact LeO.refl _)
      | (with_reducible exact LeO.none _)
      | (with_reducible refine LeO.ite ?_ ?_)
      | (with_reducible refine LeO.bind ?_ (fun _ => ?_))
      | exact ih0 _ _ _ _
      | exact LeO.none _
      | refine LeO.ite ?_ ?_
      | refine LeO.bind ?_ (fun _ => ?_)
set_option maxHeartbeats 8000000 in
set_option maxRecDepth 100000 in
theorem api_Range_215.calls (k : Nat) (A0 : Option Addr) (c0 : Nat) (l0 : List (S119)) (A1 : Option Addr) (c1 : Nat) (l1 : List (S119)) (r : Bool) (w : World) (hr0 : Kd.C k119 w A0 l0.length l0) (hc0 : l0.length ≤ c0) (hr1 : Kd.C k119 w A1 l1.length l1) (hc1 : l1.length ≤ c1) (h : api_Range_215.f k l0 l1 = some r) :
    Calls Tryz.prog 215 #[.slice A0 l0.length c0, .slice A1 l1.length c1] w fun e w' => e = .returned (.bool r) ∧ Drawn0 w w' := by
  have hu119 := Tryz.underlying119
  have HR0 := Aside0.mk hr0
  have HC0 := Aside0.mk hc0
  clear hr0 hc0
  have HR1 := Aside0.mk hr1
  have HC1 := Aside0.mk hc1
  clear hr1 hc1
  have H : (if (l0.length : Int) = (l1.length : Int) then (api_Range_215.l0 k l0 l1 (l0.length : Int) 0) else (some false)) = some r := h
  clear h
  by_cases c3 : (l0.length : Int) = (l1.length : Int)
  · rw [if_pos c3] at H
    have c3b0 : ((l0.length : Int) == (l1.length : Int)) = true := beq_iff_eq.mpr c3
    have c3b1 : ((l0.length : Int) != (l1.length : Int)) = false := bne_eq_false_iff_eq.mpr c3
    have c3b2 : (l0.length == l1.length) = true := by first | simpa using c3 | (simp at c3 ⊢; omega)
    clear c3
    have H' := Aside0.mk H
    clear H
    go_enter Tryz.func215, Tryz.ntmps215
    go_wp2
    repeat (go_quiet (fail); try go_wp2)
    go_loopg [13] k (fun kq v13 w' => ∃ (x13_1 : Int), v13 = .int .i64 x13_1 ∧ Aside0 (api_Range_215.l0 kq l0 l1 (l0.length : Int) x13_1 = some r) ∧ Aside0 (kq ≤ k) ∧ Drawn0 w w')
    case atStart => exact ⟨(0), (by first | rfl | (simp; done) | (simp [*]; done)), H', ⟨Nat.le_refl _⟩, by repeat (first | exact Drawn0.refl _ | apply Drawn0.step)⟩
    case round =>
      clear H'
      try clear c1
      try clear c2
      try clear p2
      try clear c3
      try clear c3b0
      try clear c3b1
      try clear c3b2
      obtain ⟨x13_1, rfl, HA, HK1, ⟨m1, rfl⟩⟩ := hrel
      cases gk with
      | zero => exact absurd HA.out (by simp [api_Range_215.l0])
      | succ k1 =>
        have H := HA.out
        clear HA
        simp only [api_Range_215.l0] at H
        by_cases c4 : x13_1 < (l0.length : Int)
        · rw [if_pos c4] at H
          have c4b0 : decide (x13_1 < (l0.length : Int)) = true := decide_eq_true c4
          clear c4
          by_cases c5 : 0 ≤ x13_1
          · rw [if_pos c5] at H
            have c5b0 : decide (0 ≤ x13_1) = true := decide_eq_true c5
            clear c5
            by_cases c6 : x13_1 < (l0.length : Int)
            · rw [if_pos c6] at H
              have c6b0 : decide (x13_1 < (l0.length : Int)) = true := decide_eq_true c6
              clear c6
              by_cases c7 : x13_1 < (l1.length : Int)
              · rw [if_pos c7] at H
                have c7b0 : decide (x13_1 < (l1.length : Int)) = true := decide_eq_true c7
                clear c7
                by_cases c8 : (!(((rd_T119 l0 x13_1).f0) == ((rd_T119 l1 x13_1).f0)) || (!(((rd_T119 l0 x13_1).f1) == ((rd_T119 l1 x13_1).f1)))) = true
                · rw [if_pos c8] at H
                  have c8b0 : (!(((rd_T119 l0 x13_1).f0) == ((rd_T119 l1 x13_1).f0)) || (!(((rd_T119 l0 x13_1).f1) == ((rd_T119 l1 x13_1).f1)))) = true := c8
                  clear c8
                  obtain rfl := Option.some.inj H
                  have p251 : 0 ≤ (x13_1 : Int) := of_decide_eq_true (by first | (with_reducible assumption) | assumption)
                  have q251 : x13_1 < (l0.length : Int) := of_decide_eq_true (by first | (with_reducible assumption) | assumption)
                  obtain ⟨ad251, e251, hx251_0, hx251_1⟩ := at_T119 HR0.out x13_1 p251 q251
                  cases e251
                  replace p251 := eq_true p251
                  replace q251 := eq_true q251
                  have p252 : 0 ≤ (x13_1 : Int) := of_decide_eq_true (by first | (with_reducible assumption) | assumption)
                  have q252 : x13_1 < (l1.length : Int) := of_decide_eq_true (by first | (with_reducible assumption) | assumption)
                  obtain ⟨ad252, e252, hx252_0, hx252_1⟩ := at_T119 HR1.out x13_1 p252 q252
                  cases e252
                  replace p252 := eq_true p252
                  replace q252 := eq_true q252
                  go_wp2
                  repeat (go_quiet (fail); try go_wp2)
                  go_ret
                  exact ⟨by first | rfl | (simp; done) | (simp [*]; done), by repeat (first | exact Drawn0.refl _ | apply Drawn0.step)⟩
                · rw [if_neg c8] at H
                  have c8b0 : (!(((rd_T119 l0 x13_1).f0) == ((rd_T119 l1 x13_1).f0)) || (!(((rd_T119 l0 x13_1).f1) == ((rd_T119 l1 x13_1).f1)))) = false := by simpa using c8
                  clear c8
                  have H' := Aside0.mk H
                  clear H
                  have p251 : 0 ≤ (x13_1 : Int) := of_decide_eq_true (by first | (with_reducible assumption) | assumption)
                  have q251 : x13_1 < (l0.length : Int) := of_decide_eq_true (by first | (with_reducible assumption) | assumption)
                  obtain ⟨ad251, e251, hx251_0, hx251_1⟩ := at_T119 HR0.out x13_1 p251 q251
                  cases e251
                  replace p251 := eq_true p251
                  replace q251 := eq_true q251
                  have p252 : 0 ≤ (x13_1 : Int) := of_decide_eq_true (by first | (with_reducible assumption) | assumption)
                  have q252 : x13_1 < (l1.length : Int) := of_decide_eq_true (by first | (with_reducible assumption) | assumption)
                  obtain ⟨ad252, e252, hx252_0, hx252_1⟩ := at_T119 HR1.out x13_1 p252 q252
                  cases e252
                  replace p252 := eq_true p252
                  replace q252 := eq_true q252
                  go_wp2
                  repeat (go_quiet (fail); try go_wp2)
                  go_roundg k1
                  case measure => have := HK1.out; omega
                  case rel => exact ⟨(wrap64 (x13_1 + 1)), (by first | rfl | (simp; done) | (simp [*]; done)), H', ⟨by have := HK1.out; omega⟩, by repeat (first | exact Drawn0.refl _ | apply Drawn0.step)⟩
              · rw [if_neg c7] at H
                exact absurd H (by simp)
            · rw [if_neg c6] at H
              exact absurd H (by simp)
          · rw [if_neg c5] at H
            exact absurd H (by simp)
        · rw [if_neg c4] at H
          have c4b0 : decide (x13_1 < (l0.length : Int)) = false := decide_eq_false c4
          clear c4
          obtain rfl := Option.some.inj H
          go_wp2
          repeat (go_quiet (fail); try go_wp2)
          go_ret
          exact ⟨by first | rfl | (simp; done) | (simp [*]; done), by repeat (first | exact Drawn0.refl _ | apply Drawn0.step)⟩
  · rw [if_neg c3] at H
    have c3b0 : ((l0.length : Int) == (l1.length : Int)) = false := beq_eq_false_iff_ne.mpr c3
    have c3b1 : ((l0.length : Int) != (l1.length : Int)) = true := bne_iff_ne.mpr c3
    have c3b2 : (l0.length == l1.length) = false := by first | simpa using c3 | (simp at c3 ⊢; omega)
    obtain rfl := Option.some.inj H
    go_enter Tryz.func215, Tryz.ntmps215
    go_wp2
    repeat (go_quiet (fail); try go_wp2)
    go_ret
    exact ⟨by first | rfl | (simp; done) | (simp [*]; done), by repeat (first | exact Drawn0.refl _ | apply Drawn0.step)⟩
end Go.Proofs.YtjeomiooheoegaaGreatDoor.PD
