/- Parts of the laws of bits: functions of the program, each with the proof of what it answers; the conditions are those of each theorem. -/
import Derived.Test.YtfkbkcdiajjljaaDoorBh
namespace Go.Proofs.YtfkbkcdiajjljaaDoor.PBitsSteps
open Go.RowKit Go.Proofs.YtfkbkcdiajjljaaDoorW.PrintWords Go.Proofs.YtfkbkcdiajjljaaDoorW.PrintLast Go.Proofs.YtfkbkcdiajjljaaDoorW.PrintMore
set_option linter.unusedVariables false
set_option linter.unusedSimpArgs false
/-! ### ranges that are right -/
def rightL : Int → List S71 → Bool
  | _, [] => true
  | e, s :: t => if s.f0 ≤ e + 1 then false else if s.f1 < s.f0 then false else if s.f1 > 1000000 then false else rightL s.f1 t
def rightS (l : List S71) : Bool := if 4096 < l.length then false else rightL (-1000002) l
theorem rd71 (l : List S71) (i : Nat) (h : i < l.length) : rd_T71 l (i : Int) = l[i] := by
  unfold rd_T71
  rw [Int.toNat_natCast, List.getD_eq_getElem?_getD, List.getElem?_eq_getElem h]
  rfl
theorem right_l0 (l : List S71) (hl : l.length ≤ 4096) : ∀ (d i : Nat) (e : Int), l.length = i + d → -1000002 ≤ e → e ≤ 1000000 → dom_Right.l0 (d + 1) e l (l.length : Int) (i : Int) = some (rightL e (l.drop i))
  | 0, i, e, hd, h1, h2 => by
    simp only [dom_Right.l0]
    rw [if_neg (by omega), List.drop_eq_nil_of_le (by omega)]
    rfl
  | d + 1, i, e, hd, h1, h2 => by
    have hi : i < l.length := by omega
    rw [List.drop_eq_getElem_cons hi]
    simp only [dom_Right.l0]
    rw [if_pos (by omega), if_pos (by omega), if_pos (by omega), rd71 l i hi]
    rw [show wrap64 (e + 1) = e + 1 from IntWalk.wrap64_in _ (by omega)]
    unfold rightL
    generalize l[i] = s
    by_cases c1 : s.f0 ≤ e + 1
    · rw [if_pos c1, if_pos c1]
    · rw [if_neg c1, if_neg c1]
      by_cases c2 : s.f1 < s.f0
      · rw [if_pos c2, if_pos c2]
      · rw [if_neg c2, if_neg c2]
        by_cases c3 : s.f1 > 1000000
        · rw [if_pos c3, if_pos c3]
        · rw [if_neg c3, if_neg c3]
          rw [show wrap64 ((i : Int) + 1) = ((i + 1 : Nat) : Int) from IntWalk.wrap64_in _ (by omega)]
          exact right_l0 l hl d (i + 1) s.f1 (by omega) (by omega) (by omega)
theorem right_f (l : List S71) : dom_Right.f (l.length + 1) l = some (rightS l) := by
  unfold dom_Right.f rightS
  by_cases h : 4096 < l.length
  · rw [if_pos (by omega), if_pos h]
  · rw [if_neg (by omega), if_neg h]
    exact right_l0 l (by omega) l.length 0 _ (by omega) (by omega) (by omega)
theorem right_calls (A : Option Addr) (c : Nat) (l : List S71) (w : World) (h : Kd.C k71 w A l.length l) (hc : l.length ≤ c) :
    Calls Tryd.prog 69 #[.slice A l.length c] w fun e w' => e = .returned (.bool (rightS l)) ∧ Below w.heap.size w w' :=
  dom_Right.calls _ A c l _ w h hc (right_f l)
/-- ranges as they are taken: the very slice, or nil -/
def takenV (A : Option Addr) (c : Nat) (l : List S71) : Value := if rightS l then .slice A l.length c else .slice none 0 0
set_option maxHeartbeats 4000000 in
theorem taken_calls (A : Option Addr) (c : Nat) (l : List S71) (w : World) (h : Kd.C k71 w A l.length l) (hc : l.length ≤ c) :
    Calls Tryd.prog 65 #[.slice A l.length c] w fun e w' => e = .returned (takenV A c l) ∧ Below w.heap.size w w' := by
  unfold takenV
  cases hR : rightS l with
  | true =>
    go_enter Tryd.func65, Tryd.ntmps65
    go_wp2_with fail
    refine (right_calls A c l _ h hc).mono ?_
    rw [hR]
    rintro e w1 ⟨rfl, hb⟩
    go_wp2_with fail
    go_ret
    exact ⟨rfl, hb⟩
  | false =>
    go_enter Tryd.func65, Tryd.ntmps65
    go_wp2_with fail
    refine (right_calls A c l _ h hc).mono ?_
    rw [hR]
    rintro e w1 ⟨rfl, hb⟩
    go_wp2_with fail
    go_ret
    exact ⟨rfl, hb⟩
theorem right_head {s : S71} {l : List S71} (h : rightS (s :: l) = true) : -1000000 ≤ s.f0 ∧ s.f0 ≤ s.f1 ∧ s.f1 ≤ 1000000 := by
  unfold rightS at h
  split at h
  · cases h
  · unfold rightL at h
    split at h
    · cases h
    · split at h
      · cases h
      · split at h
        · cases h
        · omega
/-- the least: of ranges that are right -/
def minS (l : List S71) : Int × Bool := if rightS l then (match l with | [] => (0, false) | s :: _ => (s.f0, true)) else (0, false)

theorem k71_head {w : World} {A : Option Addr} {n : Nat} {s : S71} {t : List S71} (h : Kd.C k71 w A n (s :: t)) : n = t.length + 1 ∧ ∃ ad, A = some ad ∧ w.cell? ad = some (.int .i64 s.f0) ∧ w.cell? ⟨ad.block, ad.off + 1, none⟩ = some (.int .i64 s.f1) := by
  have hn : n = t.length + 1 := by have := h.1; simpa using this.symm
  obtain ⟨ad, e, h0, h1⟩ := at_T71 h 0 (by omega) (by omega)
  refine ⟨hn, ad, e, ?_, ?_⟩
  · have := h0; rw [show (0 : Int).toNat * 2 = 0 from rfl, show ad.add 0 = ad by simp [Addr.add]] at this; exact this
  · have := h1; rw [show (0 : Int).toNat * 2 = 0 from rfl, show ad.add 0 = ad by simp [Addr.add]] at this; exact this
set_option maxHeartbeats 8000000 in
theorem next_min_some (A : Option Addr) (c : Nat) (s : S71) (t : List S71) (w : World) (h : Kd.C k71 w A (s :: t).length (s :: t)) (hc : (s :: t).length ≤ c) (hR : rightS (s :: t) = true) :
    Calls Tryd.prog 64 #[.slice A (s :: t).length c, .int .i64 (-1000000)] w fun e w' => e = .returned (.tuple #[.int .i64 s.f0, .bool true]) ∧ Below w.heap.size w w' := by
  have hs := right_head hR
  obtain ⟨hn, ad, rfl, a0, a1⟩ := k71_head h
  have hlen : (s :: t).length ≤ 4096 := by
    unfold rightS at hR
    split at hR
    · cases hR
    · omega
  have H := Lib.hid h; have HC := Lib.hid hc; have HR := Lib.hid hR
  clear h hc hR
  have hp1 : decide ((-1000000 : Int) ≤ s.f1) = true := decide_eq_true (by omega)
  go_enter Tryd.func64, Tryd.ntmps64
  go_wp2_with fail
  go_step3
  go_wp2_with fail
  go_step3
  go_wp2_with fail
  refine (taken_calls _ c (s :: t) _ H.out HC.out).mono ?_
  unfold takenV
  rw [HR.out, if_pos rfl]
  rintro e w1 ⟨rfl, hb⟩
  have b0 : w1.cell? ad = some (.int .i64 s.f0) := (hb.cell (World.block_lt_of_cell? w _ a0)).trans a0
  have b1 : w1.cell? ⟨ad.block, ad.off + 1, none⟩ = some (.int .i64 s.f1) := (hb.cell (World.block_lt_of_cell? w _ a1)).trans a1
  have HB := Lib.hid hb
  clear hb a0 a1
  generalize hm : (s :: t).length = m at *
  have hm1 : 1 ≤ m := by rw [← hm]; simp
  have HM := Lib.hid hm
  clear hm hn
  go_wp2_with fail
  go_loopw [6, 7, 13] (fun a b i wr => a = .int .i64 0 ∧ b = .bool false ∧ i = .int .i64 0 ∧ wr = w1) (fun _ _ _ _ => 0)
  case atStart => exact ⟨rfl, rfl, rfl, rfl⟩
  case round =>
    obtain ⟨rfl, rfl, rfl, rfl⟩ := hrel
    have hd : decide ((0 : Int) < (m : Int)) = true := decide_eq_true (by omega)
    go_wp2_with fail
    all_goals go_ret2
    · exact ⟨rfl, HB.out.alloc (HB.out.size) _⟩
    · exact ⟨by rw [show s.f0 = -1000000 by omega]; rfl, HB.out.alloc (HB.out.size) _⟩
set_option maxHeartbeats 8000000 in
theorem next_min_none (A : Option Addr) (c : Nat) (l : List S71) (w : World) (h : Kd.C k71 w A l.length l) (hc : l.length ≤ c) (hN : l = [] ∨ rightS l = false) :
    Calls Tryd.prog 64 #[.slice A l.length c, .int .i64 (-1000000)] w fun e w' => e = .returned (.tuple #[.int .i64 0, .bool false]) ∧ Below w.heap.size w w' := by
  have hV : ∃ A1 c1, takenV A c l = .slice A1 0 c1 := by
    unfold takenV
    rcases hN with rfl | hN
    · split
      · exact ⟨_, _, rfl⟩
      · exact ⟨_, _, rfl⟩
    · rw [hN]; exact ⟨_, _, rfl⟩
  have H := Lib.hid h; have HC := Lib.hid hc
  clear h hc hN
  go_enter Tryd.func64, Tryd.ntmps64
  go_wp2_with fail
  go_step3
  go_wp2_with fail
  go_step3
  go_wp2_with fail
  refine (taken_calls _ c l _ H.out HC.out).mono ?_
  obtain ⟨A1, c1, hV⟩ := hV
  rw [hV]
  clear hV
  rintro e w1 ⟨rfl, hb⟩
  have HB := Lib.hid hb
  clear hb
  go_wp2_with fail
  go_loopw [6, 7, 13] (fun a b i wr => a = .int .i64 0 ∧ b = .bool false ∧ i = .int .i64 0 ∧ wr = w1) (fun _ _ _ _ => 0)
  case atStart => exact ⟨rfl, rfl, rfl, rfl⟩
  case round =>
    obtain ⟨rfl, rfl, rfl, rfl⟩ := hrel
    go_wp2_with fail
    rw [Exit.noGoto_ret]
    go_ret2
    exact ⟨rfl, HB.out⟩
set_option maxHeartbeats 4000000 in
theorem min_calls (A : Option Addr) (c : Nat) (l : List S71) (w : World) (h : Kd.C k71 w A l.length l) (hc : l.length ≤ c) :
    Calls Tryd.prog 38 #[.slice A l.length c] w fun e w' => e = .returned (.tuple #[.int .i64 (minS l).1, .bool (minS l).2]) ∧ Below w.heap.size w w' := by
  by_cases hN : l = [] ∨ rightS l = false
  · have e : minS l = (0, false) := by
      unfold minS
      rcases hN with rfl | hN
      · split <;> rfl
      · rw [hN]; rfl
    rw [e]
    have HX := Lib.hid (next_min_none A c l w h hc hN)
    clear h hc hN
    go_enter Tryd.func38, Tryd.ntmps38
    go_wp2_with fail
    refine HX.out.mono ?_
    rintro e w1 ⟨rfl, hb⟩
    go_wp2_with fail
    go_ret2
    exact ⟨rfl, hb⟩
  · obtain ⟨h1, h2⟩ := not_or.1 hN
    have h2 : rightS l = true := by simpa using h2
    cases l with
    | nil => exact absurd rfl h1
    | cons s t =>
      have e : minS (s :: t) = (s.f0, true) := by unfold minS; rw [h2]; rfl
      rw [e]
      have HX := Lib.hid (next_min_some A c s t w h hc h2)
      clear h hc hN h1 h2
      go_enter Tryd.func38, Tryd.ntmps38
      go_wp2_with fail
      refine HX.out.mono ?_
      rintro e w1 ⟨rfl, hb⟩
      go_wp2_with fail
      go_ret2
      exact ⟨rfl, hb⟩
/-- the greatest -/
def maxS (l : List S71) : Int × Bool := if rightS l then (match l.getLast? with | none => (0, false) | some s => (s.f1, true)) else (0, false)
set_option maxHeartbeats 4000000 in
theorem max_calls (A : Option Addr) (c : Nat) (l : List S71) (w : World) (h : Kd.C k71 w A l.length l) (hc : l.length ≤ c) :
    Calls Tryd.prog 39 #[.slice A l.length c] w fun e w' => e = .returned (.tuple #[.int .i64 (maxS l).1, .bool (maxS l).2]) ∧ Below w.heap.size w w' := by
  by_cases hN : l = [] ∨ rightS l = false
  · have e : maxS l = (0, false) := by
      unfold maxS
      rcases hN with rfl | hN
      · split <;> rfl
      · rw [hN]; rfl
    rw [e]
    have hV : ∃ A1 c1, takenV A c l = .slice A1 0 c1 := by
      unfold takenV
      rcases hN with rfl | hN
      · split
        · exact ⟨_, _, rfl⟩
        · exact ⟨_, _, rfl⟩
      · rw [hN]; exact ⟨_, _, rfl⟩
    have HX := Lib.hid (taken_calls A c l w h hc)
    clear h hc hN
    obtain ⟨A1, c1, hV⟩ := hV
    rw [hV] at HX
    clear hV
    go_enter Tryd.func39, Tryd.ntmps39
    go_wp2_with fail
    refine HX.out.mono ?_
    rintro e w1 ⟨rfl, hb⟩
    go_wp2_with fail
    go_ret2
    exact ⟨rfl, hb⟩
  · obtain ⟨h1, h2⟩ := not_or.1 hN
    have h2 : rightS l = true := by simpa using h2
    have hV : takenV A c l = .slice A l.length c := by unfold takenV; rw [h2, if_pos rfl]
    have HX := Lib.hid (taken_calls A c l w h hc)
    rw [hV] at HX
    rcases snoc_cases l with rfl | ⟨ys, s, rfl⟩
    · exact absurd rfl h1
    · have e : maxS (ys ++ [s]) = (s.f1, true) := by unfold maxS; rw [h2]; simp
      rw [e]
      have hm : (ys ++ [s]).length = ys.length + 1 := by simp
      have hm2 : ys.length + 1 ≤ 4096 := by
        unfold rightS at h2
        split at h2
        · cases h2
        · omega
      obtain ⟨ad, rfl, a0, a1⟩ := at_T71 h (ys.length : Int) (by omega) (by omega)
      rw [rd71 _ _ (by omega)] at a1
      rw [show (ys ++ [s])[ys.length]'(by omega) = s by simp] at a1
      rw [Int.toNat_natCast] at a1
      clear a0 h hc hN h1 h2 e hV
      rw [hm] at HX ⊢
      generalize ys.length = m at *
      go_enter Tryd.func39, Tryd.ntmps39
      go_wp2_with fail
      refine HX.out.mono ?_
      rintro e w1 ⟨rfl, hb⟩
      have b1 := (hb.cell (World.block_lt_of_cell? w _ a1)).trans a1
      clear a1
      go_wp2_with fail
      go_ret2
      exact ⟨rfl, hb⟩

end Go.Proofs.YtfkbkcdiajjljaaDoor.PBitsSteps
