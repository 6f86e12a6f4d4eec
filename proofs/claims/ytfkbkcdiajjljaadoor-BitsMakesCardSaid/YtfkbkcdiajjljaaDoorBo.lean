/- Parts of the laws of bits: functions of the program, each with the proof of what it answers; the conditions are those of each theorem. -/
import Derived.Test.YtfkbkcdiajjljaaDoorBn
namespace Go.Proofs.YtfkbkcdiajjljaaDoor.PBitsSteps
open Go.RowKit Go.Proofs.YtfkbkcdiajjljaaDoorW.PrintWords Go.Proofs.YtfkbkcdiajjljaaDoorW.PrintLast Go.Proofs.YtfkbkcdiajjljaaDoorW.PrintMore
set_option linter.unusedVariables false
set_option linter.unusedSimpArgs false
/-! ### known -/
theorem SetAt.first {w : World} {g gp : Nat} {f r : Int} {M : Int → Bool} (h : SetAt w g gp f r M) : Calls Tryd.prog 10 #[setP g] w fun e w' => e = .returned (.int .i64 f) ∧ Drawn0 w w' := by
  obtain ⟨n, c, ws, cs, h1, h2⟩ := h
  exact bits_First.calls g f r _ n c w h1
theorem SetAt.room {w : World} {g gp : Nat} {f r : Int} {M : Int → Bool} (h : SetAt w g gp f r M) : Calls Tryd.prog 11 #[setP g] w fun e w' => e = .returned (.int .i64 r) ∧ Drawn0 w w' := by
  obtain ⟨n, c, ws, cs, h1, h2⟩ := h
  exact bits_Room.calls g f r _ n c w h1
theorem SetAt.del2 {w : World} {g gp : Nat} {f r : Int} {M : Int → Bool} (h : SetAt w g gp f r M) (v : Int) (B : Nat) (hB : B ≤ gp) :
    Calls Tryd.prog 23 #[setP g, .int .i64 v] w fun e w' => e = .returned (.tuple #[.bool (M v), .int .i64 0]) ∧ SetAt w' g gp f r (fun x => M x && !(x == v)) ∧ (∀ b, b ≠ gp → w'.heap[b]? = w.heap[b]?) ∧ Below B w w' := by
  refine (h.del v).mono ?_
  rintro e w' ⟨rfl, hd, hs⟩
  refine ⟨rfl, hs, ?_⟩
  rcases hd with ⟨⟨m, rfl⟩⟩ | ⟨m, i, u, rfl⟩
  · exact ⟨fun _ _ => rfl, pw_below_drewN (Below.refl _ _) m⟩
  · exact ⟨fun b hb => Below.heap_setCell _ ⟨gp, i, none⟩ u b hb, (pw_below_drewN (Below.refl _ _) m).setCell (p := ⟨gp, i, none⟩) hB u⟩
theorem drawn_heap {w w' : World} (h : Drawn0 w w') : w'.heap = w.heap := by
  obtain ⟨⟨m, rfl⟩⟩ := h
  rfl
theorem drawn_below {B : Nat} {w w' : World} (h : Drawn0 w w') : Below B w w' := by
  obtain ⟨⟨m, rfl⟩⟩ := h
  exact pw_below_drewN (Below.refl _ _) m
def knownL : List S71 := [⟨1, 3⟩, ⟨7, 7⟩]
theorem knownL_C (w : World) : Kd.C k71 (w.alloc (.cells #[.int .i64 1, .int .i64 3, .int .i64 7, .int .i64 7] 71)) (some ⟨w.heap.size, 0, none⟩) 2 knownL := by
  have hr : Reps (k71.K w) 2 knownL (flat71 knownL) := flat71_reps w _
  refine ⟨rfl, by decide, fun _ => ⟨_, rfl, fun j p hj => ?_⟩⟩
  have hn := World.alloc_heap_new w (.cells #[.int .i64 1, .int .i64 3, .int .i64 7, .int .i64 7] 71)
  match j, hj with
  | 0, hj =>
    obtain rfl : (⟨1, 3⟩ : S71) = p := by simpa [knownL] using hj
    refine ⟨_, rfl, k71_mk _ _, fun i u hu => ?_⟩
    rw [add_zero_off]
    refine (blk_cell hn _).trans ?_
    match i, hu with
    | 0, hu => exact hu
    | 1, hu => exact hu
  | 1, hj =>
    obtain rfl : (⟨7, 7⟩ : S71) = p := by simpa [knownL] using hj
    refine ⟨_, rfl, k71_mk _ _, fun i u hu => ?_⟩
    rw [add_zero_off]
    refine (blk_cell hn _).trans ?_
    match i, hu with
    | 0, hu => exact hu
    | 1, hu => exact hu
theorem knownL_ok : okS knownL = true ∧ firstS knownL = 1 ∧ lastS knownL = 7 := by decide
def knownM (x : Int) : Bool := x == 1 || x == 2 || x == 3 || x == 7
theorem knownL_M (x : Int) : inL (spanAll knownL) x = knownM x := by
  unfold inL knownM
  rw [Bool.eq_iff_iff]
  have e : spanAll knownL = [1, 2, 3, 7] := by decide
  rw [e]
  simp [or_assoc]
theorem knownW : wordN knownM 1 64 = 71 ∧ wordN (fun x => knownM x && !(x == 2)) 1 64 = 69 := by decide
theorem known_next {n : Int} {ok : Bool} (h : IsNext (fun x => knownM x && !(x == 2)) 4 n ok) : n = 7 ∧ ok = true := by
  rcases h with ⟨rfl, h1, h2, _⟩ | ⟨_, _, h⟩
  · refine ⟨?_, rfl⟩
    have : knownM n = true := by
      rw [Bool.and_eq_true] at h2
      exact h2.1
    unfold knownM at this
    simp at this
    omega
  · have := h 7 (by omega)
    cases this

set_option maxRecDepth 100000 in
set_option maxHeartbeats 8000000 in
theorem known_calls (w : World) (hL : TabLaid w) : Calls Tryd.prog 8 #[] w fun e w' => e = .returned (.bool true) ∧ Below w.heap.size w w' := by
  have hz : 0 < w.heap.size := World.block_lt_of_cell? w _ (hL 0 (by decide))
  have hC := knownL_C w
  have hB1 : Below w.heap.size w (w.alloc (.cells #[.int .i64 1, .int .i64 3, .int .i64 7, .int .i64 7] 71)) := (Below.refl _ _).alloc (Nat.le_refl _) _
  have hsz : (w.alloc (.cells #[.int .i64 1, .int .i64 3, .int .i64 7, .int .i64 7] 71)).heap.size = w.heap.size + 1 := World.size_alloc _ _
  have hof := of_made _ 2 knownL _ hC (by decide) knownL_ok.1 (by rw [knownL_ok.2.1, knownL_ok.2.2]; decide)
  rw [knownL_ok.2.1, knownL_ok.2.2, hsz] at hof
  have HOF : Hid (Calls Tryd.prog 7 #[.slice (some ⟨w.heap.size, 0, none⟩) 2 2] (w.alloc (.cells #[.int .i64 1, .int .i64 3, .int .i64 7, .int .i64 7] 71)) fun e w' => ∃ g gp, e = .returned (.tuple #[setP g, .int .i64 0]) ∧ (w.heap.size + 1 ≤ g ∧ w.heap.size + 1 ≤ gp) ∧ SetAt w' g gp 1 (7 - 1 + 1) (inL (spanAll knownL)) ∧ Below (w.heap.size + 1) (w.alloc (.cells #[.int .i64 1, .int .i64 3, .int .i64 7, .int .i64 7] 71)) w') := hof
  have HL := Lib.hid hL; have HB1 := Lib.hid hB1
  clear hof hL hB1 hC hsz
  go_enter Tryd.func8, Tryd.ntmps8
  go_wp2_with fail
  refine HOF.out.mono ?_
  rintro e w1 ⟨g, gp, rfl, ⟨k1, k2⟩, k3, k4⟩
  have hs1 : SetAt w1 g gp 1 7 knownM := k3.ext knownL_M
  have hb1 : Below w.heap.size w w1 := HB1.out.trans (k4.mono (by omega))
  have U : setP g = .pointer (some ⟨g, 0, none⟩) := rfl
  have HS1 := Lib.hid hs1; have HB2 := Lib.hid hb1
  clear hs1 hb1 k3 k4
  rw [U]
  go_wp2_with fail
  rw [← U]
  refine HS1.out.first.mono ?_
  rintro e w2 ⟨rfl, hd2⟩
  have HS2 := Lib.hid (HS1.out.below hd2.below)
  have HB3 := Lib.hid (HB2.out.trans (drawn_below hd2))
  rw [U]
  go_wp2_with fail
  rw [← U]
  refine HS2.out.room.mono ?_
  rintro e w3 ⟨rfl, hd3⟩
  have HS3 := Lib.hid (HS2.out.below hd3.below)
  have HB4 := Lib.hid (HB3.out.trans (drawn_below hd3))
  clear hd2 hd3
  rw [U]
  go_wp2_with fail
  rw [← U]
  refine HS3.out.words.mono ?_
  rintro e w4 ⟨g2, cs2, rfl, q1, q2, q3, q4⟩
  rw [show (((7 : Int) + 63) / 64).toNat = 1 by decide]
  have w71 : w4.heap[g2]? = some (.cells cs2 72 (0, 0)) ∧ cs2[0]? = some (.int .u64 71) := ⟨q2, by
    have := q3 0 (by decide)
    rw [show (1 : Int) + 64 * ((0 : Nat) : Int) = 1 by decide, knownW.1] at this
    exact this⟩
  have W71 := Lib.hid w71
  have HS4 := Lib.hid (HS3.out.below q4)
  have HB5 := Lib.hid (below_step HB4.out q4)
  have hg2 : gp < w4.heap.size ∧ g2 < w4.heap.size ∧ gp ≠ g2 := ⟨HS4.out.lt.2.1, blk_lt q2, by have := HS3.out.lt.2.1; omega⟩
  clear q2 q3 q4 w71 q1
  rw [U]
  go_wp2_with fail
  rw [← U]
  refine (HS4.out.del2 2 w.heap.size (by omega)).mono ?_
  rintro e w5 ⟨rfl, hs5, hk5, hb5⟩
  rw [show knownM 2 = true by decide]
  have HS5 := Lib.hid hs5; have HK5 := Lib.hid hk5; have HB6 := Lib.hid (HB5.out.trans hb5)
  clear hs5 hk5 hb5
  rw [U]
  go_wp2_with fail
  rw [← U]
  refine (HS5.out.add_out 9 (by omega)).mono ?_
  rintro e w6 ⟨rfl, hd6⟩
  have HS6 := Lib.hid (HS5.out.below hd6.below)
  have HB7 := Lib.hid (HB6.out.trans (drawn_below hd6))
  have HH6 := Lib.hid (drawn_heap hd6)
  clear hd6
  rw [U]
  go_wp2_with fail
  rw [← U]
  refine (HS6.out.next (tab_keep HL.out (HB7.out.block 0 hz)) 4 (by omega)).mono ?_
  rintro e w7 ⟨⟨n, ok, rfl, hn⟩, hd7⟩
  obtain ⟨rfl, rfl⟩ := known_next hn
  have HS7 := Lib.hid (HS6.out.below hd7.below)
  have HB8 := Lib.hid (HB7.out.trans (drawn_below hd7))
  have HH7 := Lib.hid (drawn_heap hd7)
  clear hd7 hn
  rw [U]
  go_wp2_with fail
  rw [← U]
  refine HS7.out.words.mono ?_
  rintro e w8 ⟨g3, cs3, rfl, p1, p2, p3, p4⟩
  rw [show (((7 : Int) + 63) / 64).toNat = 1 by decide]
  have e7 : w7.heap[g2]? = some (.cells cs2 72 (0, 0)) := by
    rw [HH7.out, HH6.out]
    exact (HK5.out g2 (fun e => hg2.2.2 e.symm)).trans W71.out.1
  have e8 : w8.heap[g2]? = some (.cells cs2 72 (0, 0)) := (p4.block g2 (blk_lt e7)).trans e7
  have c71 : w8.cell? ⟨g2, 0, none⟩ = some (.int .u64 71) := (blk_cell e8 0).trans W71.out.2
  have c69 : w8.cell? ⟨g3, 0, none⟩ = some (.int .u64 69) := by
    refine (blk_cell p2 0).trans ?_
    have := p3 0 (by decide)
    rw [show (1 : Int) + 64 * ((0 : Nat) : Int) = 1 by decide, knownW.2] at this
    exact this
  have HB9 := Lib.hid (below_step HB8.out p4)
  clear p1 p2 p3 p4 e7 e8
  go_wp2_with fail
  go_ret
  exact ⟨rfl, HB9.out⟩

end Go.Proofs.YtfkbkcdiajjljaaDoor.PBitsSteps
