/- Parts of the laws of bits: functions of the program, each with the proof of what it answers; the conditions are those of each theorem. -/
import Derived.Test.YtfkbkcdiajjljaaDoorPBitsStepsx1
import Derived.Lib.Hide
import Derived.Laws.Externs
import Derived.WalkKit
import Derived.Deep.QuietTactic
import Derived.BigQuiet
import Derived.StillTailTactics
import Derived.Laws.MakeOwn
import Derived.RangeFuncRecord
import Derived.Laws.BitsAllLaws
import Derived.Lib.LazyBuf
import Derived.Deep.RegionHeld3
import Derived.RangeFuncNested
import Derived.RangeFuncBound
import Derived.RangeFuncCalls
import Derived.RangeFuncLeaves
import Derived.Shelf.Abstract
import Derived.Shelf.RegionOpen
import Derived.OwnWalkIn
import Derived.TacticsInMore
import Derived.LoopNIn
import Derived.LoopIn
import Derived.Maps.AppendAt
namespace Go.Proofs.YtfkbkcdiajjljaaDoor.PBitsSteps
open Go.RowKit Go.Proofs.YtfkbkcdiajjljaaDoorW.PrintWords Go.Proofs.YtfkbkcdiajjljaaDoorW.PrintLast Go.Proofs.YtfkbkcdiajjljaaDoorW.PrintMore
set_option linter.unusedVariables false
set_option linter.unusedSimpArgs false
/-! ### bits.Set: a block of three cells (the first value, the room, the pages) -/
def setB (f r : Int) (A : Option Addr) (n c : Nat) : Obj := .cells #[.int .i64 f, .int .i64 r, .slice A n c] 75 (0, 0)
def setP (g : Nat) : Value := .pointer (some ⟨g, 0, none⟩)
theorem setB_first {w : World} {g : Nat} {f r : Int} {A : Option Addr} {n c : Nat} (h : w.heap[g]? = some (setB f r A n c)) : w.cell? ⟨g, 0, none⟩ = some (.int .i64 f) := (blk_cell h 0).trans rfl
theorem setB_room {w : World} {g : Nat} {f r : Int} {A : Option Addr} {n c : Nat} (h : w.heap[g]? = some (setB f r A n c)) : w.cell? ⟨g, 1, none⟩ = some (.int .i64 r) := (blk_cell h 1).trans rfl
theorem setB_pages {w : World} {g : Nat} {f r : Int} {A : Option Addr} {n c : Nat} (h : w.heap[g]? = some (setB f r A n c)) : w.cell? ⟨g, 2, none⟩ = some (.slice A n c) := (blk_cell h 2).trans rfl
set_option maxHeartbeats 4000000 in
theorem bits_First.calls (g : Nat) (f r : Int) (A : Option Addr) (n c : Nat) (w : World) (h : w.heap[g]? = some (setB f r A n c)) :
    Calls Tryd.prog 10 #[setP g] w fun e w' => e = .returned (.int .i64 f) ∧ Drawn0 w w' := by
  have c0 := setB_first h; have c1 := setB_room h; have c2 := setB_pages h
  unfold setP
  go_enter Tryd.func10, Tryd.ntmps10
  go_wp2_with fail
  go_ret
  exact ⟨rfl, Drawn0.refl _⟩
set_option maxHeartbeats 4000000 in
theorem bits_Room.calls (g : Nat) (f r : Int) (A : Option Addr) (n c : Nat) (w : World) (h : w.heap[g]? = some (setB f r A n c)) :
    Calls Tryd.prog 11 #[setP g] w fun e w' => e = .returned (.int .i64 r) ∧ Drawn0 w w' := by
  have c0 := setB_first h; have c1 := setB_room h; have c2 := setB_pages h
  unfold setP
  go_enter Tryd.func11, Tryd.ntmps11
  go_wp2_with fail
  go_ret
  exact ⟨rfl, Drawn0.refl _⟩
def setFits (f r v : Int) : Bool := decide (f ≤ v) && decide (v < wrap64 (f + r))
set_option maxHeartbeats 4000000 in
theorem bits_fits.calls (g : Nat) (f r : Int) (A : Option Addr) (n c : Nat) (v : Int) (w : World) (h : w.heap[g]? = some (setB f r A n c)) :
    Calls Tryd.prog 41 #[setP g, .int .i64 v] w fun e w' => e = .returned (.bool (setFits f r v)) ∧ Drawn0 w w' := by
  have c0 := setB_first h; have c1 := setB_room h; have c2 := setB_pages h
  unfold setP
  by_cases h1 : f ≤ v
  · by_cases h2 : v < wrap64 (f + r)
    · have e : setFits f r v = true := by unfold setFits; rw [decide_eq_true h1, decide_eq_true h2]; rfl
      rw [e]
      go_enter Tryd.func41, Tryd.ntmps41
      go_wp2_with fail
      go_quiet (fail)
      go_wp2_with fail
      go_ret
      exact ⟨by first | rfl | (rw [decide_eq_false (Int.not_lt.mpr h2)]; rfl), ⟨⟨_, rfl⟩⟩⟩
    · have e : setFits f r v = false := by unfold setFits; rw [decide_eq_false h2, Bool.and_false]
      rw [e]
      go_enter Tryd.func41, Tryd.ntmps41
      go_wp2_with fail
      go_quiet (fail)
      go_wp2_with fail
      go_ret
      exact ⟨by first | rfl | (rw [decide_eq_false (Int.not_lt.mpr h2)]; rfl), ⟨⟨_, rfl⟩⟩⟩
  · have e : setFits f r v = false := by unfold setFits; rw [decide_eq_false h1, Bool.false_and]
    have h2 := h1
    have h1b := decide_eq_false h1
    have h1c := eq_false h1
    have h1d : v < f := by omega
    rw [e]
    go_enter Tryd.func41, Tryd.ntmps41
    go_wp2_with fail
    go_quiet (fail)
    go_wp2_with fail
    go_ret
    exact ⟨by first | rfl | (rw [decide_eq_false (Int.not_lt.mpr h2)]; rfl), ⟨⟨_, rfl⟩⟩⟩
/-- The pages' words lie one behind the other. -/
def PagesAt (w : World) (A : Option Addr) (n : Nat) (ws : Nat → Int) : Prop := ∃ ad, A = some ad ∧ ∀ i, i < 16 * n → w.cell? (ad.add i) = some (.int .u64 (ws i)) ∧ w.frozen? (ad.add i) = false
theorem addr_add_add (ad : Addr) (i j : Nat) : (ad.add i).add j = ad.add (i + j) := by
  by_cases hi : i = 0 <;> by_cases hj : j = 0 <;> simp [Addr.add, hi, hj, Nat.add_assoc]
set_option maxHeartbeats 4000000 in
theorem bits_word.same (g : Nat) (f r : Int) (A : Option Addr) (n c : Nat) (ws : Nat → Int) (x : Int) (w : World) (h : w.heap[g]? = some (setB f r A n c)) (hp : PagesAt w A n ws) (hx : 0 ≤ x) (hxn : x < 1024 * n) (hn : n < 1000000) :
    Calls Tryd.prog 42 #[setP g, .int .i64 x] w fun e w' => (∃ ad, A = some ad ∧ e = .returned (.pointer (some (ad.add (x / 64).toNat)))) ∧ w' = w := by
  have c0 := setB_first h; have c1 := setB_room h; have c2 := setB_pages h
  obtain ⟨ad, rfl, hcell⟩ := hp
  have HC := Lib.hid hcell
  clear hcell
  have e1 : wrap64 (x.tdiv 64) = x / 64 := by rw [Int.tdiv_eq_ediv_of_nonneg hx]; exact IntWalk.wrap64_in _ (by omega)
  have e2 : wrap64 ((wrap64 (x.tdiv 64)).tdiv 16) = x / 1024 := by rw [e1, Int.tdiv_eq_ediv_of_nonneg (by omega), Int.ediv_ediv_of_nonneg (by decide)]; exact IntWalk.wrap64_in _ (by omega)
  have e3 : wrap64 ((wrap64 (x.tdiv 64)).tmod 16) = x / 64 % 16 := by rw [e1, Int.tmod_eq_emod_of_nonneg (by omega)]; exact IntWalk.wrap64_in _ (by omega)
  have hA : 0 ≤ wrap64 ((wrap64 (x.tdiv 64)).tdiv 16) ∧ wrap64 ((wrap64 (x.tdiv 64)).tdiv 16) < (n : Int) := by rw [e2]; omega
  have hB : 0 ≤ wrap64 ((wrap64 (x.tdiv 64)).tmod 16) ∧ wrap64 ((wrap64 (x.tdiv 64)).tmod 16) < 16 := by rw [e3]; omega
  have E2 := Lib.hid e2; have E3 := Lib.hid e3
  clear e1 e2 e3
  unfold setP
  go_enter Tryd.func42, Tryd.ntmps42
  go_wp2_with fail
  go_ret
  refine ⟨⟨ad, rfl, ?_⟩, rfl⟩
  have e : (ad.add ((x / 64 / 16).toNat * 16)).add (x / 64 % 16).toNat = ad.add (x / 64).toNat := by
    rw [addr_add_add]
    congr 1
    omega
  exact congrArg (fun p => Ending.returned (Value.pointer (some p))) e
theorem bits_word.calls (g : Nat) (f r : Int) (A : Option Addr) (n c : Nat) (ws : Nat → Int) (x : Int) (w : World) (h : w.heap[g]? = some (setB f r A n c)) (hp : PagesAt w A n ws) (hx : 0 ≤ x) (hxn : x < 1024 * n) (hn : n < 1000000) :
    Calls Tryd.prog 42 #[setP g, .int .i64 x] w fun e w' => (∃ ad, A = some ad ∧ e = .returned (.pointer (some (ad.add (x / 64).toNat)))) ∧ Drawn0 w w' :=
  (bits_word.same g f r A n c ws x w h hp hx hxn hn).mono fun _ _ ⟨he, hw⟩ => ⟨he, hw ▸ Drawn0.refl _⟩

theorem quiet_drawn {P : Program} {f : FuncId} {args : Array Value} {w : World} {n : Nat} {v : Value}
    (h : Calls P f args (w.drewN n) fun e w' => e = .returned v ∧ Drawn0 (w.drewN n) w') : Calls P f args (w.drewN n) fun e w'' => e = .returned v ∧ ∃ m, w'' = w.drewN m :=
  Calls.quiet_of (h.mono fun _ _ ⟨he, hd⟩ => ⟨he, hd.1⟩)
def bitOf (x : Int) : Int := shl .u64 1 (Int.tmod x 64)
def setHas (f r : Int) (ws : Nat → Int) (v : Int) : Bool := setFits f r v && (bits .and .u64 (ws ((v - f) / 64).toNat) (bitOf (v - f)) != 0)
theorem setB_drawn {w : World} {g : Nat} {o : Obj} (h : w.heap[g]? = some o) (m : Nat) : (w.drewN m).heap[g]? = some o := (Drawn0.below ⟨⟨m, rfl⟩⟩).block g (by
  rcases Nat.lt_or_ge g w.heap.size with h1 | h1
  · exact h1
  · rw [Array.getElem?_eq_none h1] at h; cases h) |>.trans h
theorem PagesAt_drawn {w : World} {A : Option Addr} {n : Nat} {ws : Nat → Int} (h : PagesAt w A n ws) (m : Nat) : PagesAt (w.drewN m) A n ws := h
set_option maxHeartbeats 8000000 in
theorem bits_Has.calls (g : Nat) (f r : Int) (ad : Addr) (n c : Nat) (ws : Nat → Int) (v : Int) (w : World) (h : w.heap[g]? = some (setB f r (some ad) n c)) (hp : PagesAt w (some ad) n ws) (hn : n < 1000000) (hr : r ≤ 1024 * n) (hf : -1000000 ≤ f ∧ f ≤ 1000000) (hr0 : 0 ≤ r) :
    Calls Tryd.prog 12 #[setP g, .int .i64 v] w fun e w' => e = .returned (.bool (setHas f r ws v)) ∧ Drawn0 w w' := by
  have c0 := setB_first h
  have H := Lib.hid h; have HP := Lib.hid hp
  clear h hp
  by_cases hfit : setFits f r v = true
  · have hb : f ≤ v ∧ v < f + r := by
      unfold setFits at hfit
      rw [IntWalk.wrap64_in (f + r) (by omega)] at hfit
      simpa using hfit
    have ew : wrap64 (v - f) = v - f := IntWalk.wrap64_in _ (by omega)
    have ebit : bits_bit.f (v - f) = some (bitOf (v - f)) := by
      unfold bits_bit.f bitOf
      rw [if_pos (by rw [Int.tmod_eq_emod_of_nonneg (by omega)]; omega)]
    have hw : ∀ m, Calls Tryd.prog 42 #[setP g, .int .i64 (v - f)] (w.drewN m) fun e w'' => e = .returned (.pointer (some (ad.add ((v - f) / 64).toNat))) ∧ ∃ k, w'' = w.drewN k := fun m =>
      quiet_drawn ((bits_word.calls g f r (some ad) n c ws (v - f) _ (setB_drawn H.out m) (PagesAt_drawn HP.out m) (by omega) (by omega) hn).mono (by
        rintro e w' ⟨⟨ad', e1, e2⟩, hd⟩
        injection e1 with e1
        subst e1
        exact ⟨e2, hd⟩))
    obtain ⟨ad0, e0, hcell⟩ := HP.out
    injection e0 with e0
    subst e0
    have c3 := (hcell ((v - f) / 64).toNat (by omega)).1
    have e : setHas f r ws v = (bits .and .u64 (ws ((v - f) / 64).toNat) (bitOf (v - f)) != 0) := by unfold setHas; rw [hfit, Bool.true_and]
    rw [e]
    have HF := Lib.hid hfit
    clear hfit e hcell
    have hcf : ∀ m, Calls Tryd.prog 41 #[setP g, .int .i64 v] (w.drewN m) fun e w'' => e = .returned (.bool true) ∧ ∃ k, w'' = w.drewN k := fun m =>
      quiet_drawn ((bits_fits.calls g f r (some ad) n c v _ (setB_drawn H.out m)).mono (by rw [HF.out]; exact fun _ _ h => h))
    have hcb : ∀ m, Calls Tryd.prog 44 #[.int .i64 (v - f)] (w.drewN m) fun e w'' => e = .returned (.int .u64 (bitOf (v - f))) ∧ ∃ k, w'' = w.drewN k := fun m =>
      quiet_drawn (bits_bit.calls (v - f) (bitOf (v - f)) _ ebit)
    have HW := Lib.hid hw; have HCF := Lib.hid hcf; have HCB := Lib.hid hcb
    clear hw hcf hcb ebit
    unfold setP at *
    go_enter Tryd.func12, Tryd.ntmps12
    go_wp2_with fail
    go_quiet (first | exact HCF.out _ | exact HW.out _ | exact HCB.out _)
    go_wp2_with fail
    go_ret
    exact ⟨rfl, ⟨⟨_, rfl⟩⟩⟩
  · have hfalse : setFits f r v = false := by simpa using hfit
    have e : setHas f r ws v = false := by unfold setHas; rw [hfalse, Bool.false_and]
    rw [e]
    have hcf : ∀ m, Calls Tryd.prog 41 #[setP g, .int .i64 v] (w.drewN m) fun e w'' => e = .returned (.bool false) ∧ ∃ k, w'' = w.drewN k := fun m =>
      quiet_drawn ((bits_fits.calls g f r (some ad) n c v _ (setB_drawn H.out m)).mono (by rw [hfalse]; exact fun _ _ h => h))
    have HCF := Lib.hid hcf
    clear hcf e hfit hfalse
    unfold setP at *
    go_enter Tryd.func12, Tryd.ntmps12
    go_wp2_with fail
    go_quiet (exact HCF.out _)
    go_wp2_with fail
    go_ret
    exact ⟨rfl, ⟨⟨_, rfl⟩⟩⟩

theorem bits_bit.same (x : Int) (w : World) (hx : 0 ≤ x) :
    Calls Tryd.prog 44 #[.int .i64 x] w fun e w' => e = .returned (.int .u64 (bitOf x)) ∧ w' = w := by
  have h : 0 ≤ Int.tmod x 64 := by rw [Int.tmod_eq_emod_of_nonneg hx]; omega
  have e : bitOf x = IntKind.u64.wrap (2 ^ (x % 64).toNat) := by
    unfold bitOf shl
    rw [Int.tmod_eq_emod_of_nonneg hx, Int.one_mul, Nat.min_eq_left (by show _ ≤ 64; omega)]
  rw [e]
  clear e
  go_enter Tryd.func44, Tryd.ntmps44
  go_wp2_with fail
  go_ret
  exact ⟨rfl, rfl⟩
set_option maxHeartbeats 8000000 in
theorem bits_Add.calls (g : Nat) (f r : Int) (ad : Addr) (n c : Nat) (ws : Nat → Int) (v : Int) (w : World) (h : w.heap[g]? = some (setB f r (some ad) n c)) (hp : PagesAt w (some ad) n ws) (hn : n < 1000000) (hr : r ≤ 1024 * n) (hf : -1000000 ≤ f ∧ f ≤ 1000000) (hr0 : 0 ≤ r) (hfit : setFits f r v = true) :
    Calls Tryd.prog 21 #[setP g, .int .i64 v] w fun e w' => e = .returned (.tuple #[.bool (!setHas f r ws v), .int .i64 0]) ∧ ∃ m, w' = (w.drewN m).setCell (ad.add ((v - f) / 64).toNat) (.int .u64 (bits .or .u64 (ws ((v - f) / 64).toNat) (bitOf (v - f)))) := by
  have hb : f ≤ v ∧ v < f + r := by
    have hfit' := hfit
    unfold setFits at hfit'
    rw [IntWalk.wrap64_in (f + r) (by omega)] at hfit'
    simpa using hfit'
  have ew : wrap64 (v - f) = v - f := IntWalk.wrap64_in _ (by omega)
  have H := Lib.hid h; have HP := Lib.hid hp; have HF := Lib.hid hfit
  have hi : ((v - f) / 64).toNat < 16 * n := by omega
  clear h hp hfit
  have U : setP g = .pointer (some ⟨g, 0, none⟩) := rfl
  rw [U]
  go_enter Tryd.func21, Tryd.ntmps21
  go_wp2_with fail
  rw [← U]
  refine (bits_fits.calls g f r (some ad) n c v _ H.out).mono ?_
  rw [HF.out]
  rintro e w1 ⟨rfl, ⟨⟨m1, rfl⟩⟩⟩
  go_wp2_with fail
  rw [← U]
  refine (bits_Has.calls g f r ad n c ws v _ (setB_drawn H.out _) (PagesAt_drawn HP.out _) hn hr hf hr0).mono ?_
  rintro e w2 ⟨rfl, ⟨⟨m2, rfl⟩⟩⟩
  go_wp2_with fail
  have HW := Lib.hid (setB_drawn H.out (m1 + m2)); have HWP := Lib.hid (PagesAt_drawn HP.out (m1 + m2))
  have c0 := setB_first HW.out
  obtain ⟨ad0, e0, hcell⟩ := HWP.out
  injection e0 with e0
  subst e0
  have c3 := (hcell ((v - f) / 64).toNat hi).1; have c3f := (hcell ((v - f) / 64).toNat hi).2
  have EW := Lib.hid ew
  have HWD := Lib.hid (show ∃ k, w.drewN (m1 + m2) = w.drewN k from ⟨_, rfl⟩)
  clear hcell ew
  generalize w.drewN (m1 + m2) = W at HW HWP c0 c3 c3f HWD ⊢
  have ew2 : IntKind.i64.wrap (v - f) = v - f := (IntWalk.i64_left _).trans EW.out
  have hcw : Calls Tryd.prog 42 #[.pointer (some ⟨g, 0, none⟩), .int .i64 (IntKind.i64.wrap (v - f))] W.drew fun e w'' => e = .returned (.pointer (some (ad.add ((v - f) / 64).toNat))) ∧ w'' = W.drew := by
    rw [ew2]
    refine (bits_word.same g f r (some ad) n c ws (v - f) W.drew HW.out HWP.out (by omega) (by omega) hn).mono ?_
    rintro e w' ⟨⟨ad', e1, e2⟩, hd⟩
    injection e1 with e1
    subst e1
    exact ⟨e2, hd⟩
  have hcb : Calls Tryd.prog 44 #[.int .i64 (IntKind.i64.wrap (v - f))] W.drew fun e w'' => e = .returned (.int .u64 (bitOf (v - f))) ∧ w'' = W.drew := by
    rw [ew2]
    exact bits_bit.same (v - f) W.drew (by omega)
  have HCW := Lib.hid hcw; have HCB := Lib.hid hcb
  clear hcw hcb ew2
  go_still_tail 19, (by kernel_rfl)
  still_call HCW.out
  repeat still_step
  still_call HCB.out
  repeat still_step
  refine wpStill_nil ?_
  change wpList _ _ _ _ _ W.drew
  have c4 : W.drew.cell? (ad.add ((v - f) / 64).toNat) = some (Value.int IntKind.u64 (ws ((v - f) / 64).toNat)) := c3
  obtain ⟨kw, hkw⟩ := HWD.out
  have HWE := Lib.hid (show ∃ k, W.drew = w.drewN k from ⟨kw + 1, by rw [hkw]; rfl⟩)
  have c5 : W.drew.frozen? (ad.add ((v - f) / 64).toNat) = false := c3f
  generalize W.drew = w2 at c4 c5 HWE ⊢
  clear hkw
  go_wp2_with fail
  go_ret2
  obtain ⟨k, hk⟩ := HWE.out
  exact ⟨rfl, k, by rw [hk]⟩

set_option maxHeartbeats 8000000 in
theorem bits_Add.out (g : Nat) (f r : Int) (A : Option Addr) (n c : Nat) (v : Int) (w : World) (h : w.heap[g]? = some (setB f r A n c)) (hfit : setFits f r v = false) :
    Calls Tryd.prog 21 #[setP g, .int .i64 v] w fun e w' => e = .returned (.tuple #[.bool false, .int .i64 20]) ∧ Drawn0 w w' := by
  have H := Lib.hid h; have HF := Lib.hid hfit
  clear h hfit
  have U : setP g = .pointer (some ⟨g, 0, none⟩) := rfl
  rw [U]
  go_enter Tryd.func21, Tryd.ntmps21
  go_wp2_with fail
  rw [← U]
  refine (bits_fits.calls g f r A n c v _ H.out).mono ?_
  rw [HF.out]
  rintro e w1 ⟨rfl, ⟨⟨m1, rfl⟩⟩⟩
  go_wp2_with fail
  go_ret2
  exact ⟨rfl, ⟨⟨_, rfl⟩⟩⟩
set_option maxHeartbeats 8000000 in
theorem bits_Del.miss (g : Nat) (f r : Int) (ad : Addr) (n c : Nat) (ws : Nat → Int) (v : Int) (w : World) (h : w.heap[g]? = some (setB f r (some ad) n c)) (hp : PagesAt w (some ad) n ws) (hn : n < 1000000) (hr : r ≤ 1024 * n) (hf : -1000000 ≤ f ∧ f ≤ 1000000) (hr0 : 0 ≤ r) (hhas : setHas f r ws v = false) :
    Calls Tryd.prog 23 #[setP g, .int .i64 v] w fun e w' => e = .returned (.tuple #[.bool false, .int .i64 0]) ∧ Drawn0 w w' := by
  have H := Lib.hid h; have HP := Lib.hid hp; have HF := Lib.hid hhas
  clear h hp hhas
  have U : setP g = .pointer (some ⟨g, 0, none⟩) := rfl
  rw [U]
  go_enter Tryd.func23, Tryd.ntmps23
  go_wp2_with fail
  rw [← U]
  refine (bits_Has.calls g f r ad n c ws v _ H.out HP.out hn hr hf hr0).mono ?_
  rw [HF.out]
  rintro e w2 ⟨rfl, ⟨⟨m2, rfl⟩⟩⟩
  go_wp2_with fail
  go_ret2
  exact ⟨rfl, ⟨⟨_, rfl⟩⟩⟩

set_option maxHeartbeats 8000000 in
theorem bits_Del.hit (g : Nat) (f r : Int) (ad : Addr) (n c : Nat) (ws : Nat → Int) (v : Int) (w : World) (h : w.heap[g]? = some (setB f r (some ad) n c)) (hp : PagesAt w (some ad) n ws) (hn : n < 1000000) (hr : r ≤ 1024 * n) (hf : -1000000 ≤ f ∧ f ≤ 1000000) (hr0 : 0 ≤ r) (hfit : setFits f r v = true) (hhas : setHas f r ws v = true) :
    Calls Tryd.prog 23 #[setP g, .int .i64 v] w fun e w' => e = .returned (.tuple #[.bool true, .int .i64 0]) ∧ ∃ m, w' = (w.drewN m).setCell (ad.add ((v - f) / 64).toNat) (.int .u64 (bits .andNot .u64 (ws ((v - f) / 64).toNat) (bitOf (v - f)))) := by
  have hb : f ≤ v ∧ v < f + r := by
    have hfit' := hfit
    unfold setFits at hfit'
    rw [IntWalk.wrap64_in (f + r) (by omega)] at hfit'
    simpa using hfit'
  have ew : wrap64 (v - f) = v - f := IntWalk.wrap64_in _ (by omega)
  have H := Lib.hid h; have HP := Lib.hid hp; have HF := Lib.hid hfit; have HHAS := Lib.hid hhas
  have hi : ((v - f) / 64).toNat < 16 * n := by omega
  clear h hp hfit hhas
  have U : setP g = .pointer (some ⟨g, 0, none⟩) := rfl
  rw [U]
  go_enter Tryd.func23, Tryd.ntmps23
  go_wp2_with fail
  rw [← U]
  refine (bits_Has.calls g f r ad n c ws v _ H.out HP.out hn hr hf hr0).mono ?_
  rw [HHAS.out]
  rintro e w2 ⟨rfl, ⟨⟨m2, rfl⟩⟩⟩
  go_wp2_with fail
  have HW := Lib.hid (setB_drawn H.out m2); have HWP := Lib.hid (PagesAt_drawn HP.out m2)
  have c0 := setB_first HW.out
  obtain ⟨ad0, e0, hcell⟩ := HWP.out
  injection e0 with e0
  subst e0
  have c3 := (hcell ((v - f) / 64).toNat hi).1; have c3f := (hcell ((v - f) / 64).toNat hi).2
  have EW := Lib.hid ew
  have HWD := Lib.hid (show ∃ k, w.drewN m2 = w.drewN k from ⟨_, rfl⟩)
  clear hcell ew
  generalize w.drewN m2 = W at HW HWP c0 c3 c3f HWD ⊢
  have ew2 : IntKind.i64.wrap (v - f) = v - f := (IntWalk.i64_left _).trans EW.out
  have hcw : Calls Tryd.prog 42 #[.pointer (some ⟨g, 0, none⟩), .int .i64 (IntKind.i64.wrap (v - f))] W.drew fun e w'' => e = .returned (.pointer (some (ad.add ((v - f) / 64).toNat))) ∧ w'' = W.drew := by
    rw [ew2]
    refine (bits_word.same g f r (some ad) n c ws (v - f) W.drew HW.out HWP.out (by omega) (by omega) hn).mono ?_
    rintro e w' ⟨⟨ad', e1, e2⟩, hd⟩
    injection e1 with e1
    subst e1
    exact ⟨e2, hd⟩
  have hcb : Calls Tryd.prog 44 #[.int .i64 (IntKind.i64.wrap (v - f))] W.drew fun e w'' => e = .returned (.int .u64 (bitOf (v - f))) ∧ w'' = W.drew := by
    rw [ew2]
    exact bits_bit.same (v - f) W.drew (by omega)
  have HCW := Lib.hid hcw; have HCB := Lib.hid hcb
  clear hcw hcb ew2
  go_still_tail 19, (by kernel_rfl)
  still_call HCW.out
  repeat still_step
  still_call HCB.out
  repeat still_step
  refine wpStill_nil ?_
  change wpList _ _ _ _ _ W.drew
  have c4 : W.drew.cell? (ad.add ((v - f) / 64).toNat) = some (Value.int IntKind.u64 (ws ((v - f) / 64).toNat)) := c3
  obtain ⟨kw, hkw⟩ := HWD.out
  have HWE := Lib.hid (show ∃ k, W.drew = w.drewN k from ⟨kw + 1, by rw [hkw]; rfl⟩)
  have c5 : W.drew.frozen? (ad.add ((v - f) / 64).toNat) = false := c3f
  generalize W.drew = w2 at c4 c5 HWE ⊢
  clear hkw
  go_wp2_with fail
  go_ret2
  obtain ⟨k, hk⟩ := HWE.out
  exact ⟨rfl, k, by rw [hk]⟩

theorem pagesInfo : ∃ i z, Tryd.prog.info? 86 = some i ∧ i.zero = some z ∧ i.size = 16 ∧ i.bytes = 128 ∧ z.cells = Array.replicate 16 (Value.int .u64 0) := by
  refine ⟨_, _, rfl, rfl, rfl, rfl, ?_⟩
  rfl
def zeroPages (k : Nat) : Obj := .cells (Array.replicate (16 * k) (Value.int .u64 0)) 86 (0, 0)
set_option maxHeartbeats 8000000 in
theorem bits_New.made (lo hi : Int) (w : World) (h1 : -1000000 ≤ lo) (h2 : hi ≤ 1000000) (h3 : lo ≤ hi) (h4 : hi - lo < 65536) :
    Calls Tryd.prog 17 #[.int .i64 lo, .int .i64 hi] w fun e w' => e = .returned (.tuple #[setP (w.heap.size + 1), .int .i64 0]) ∧ w' = (w.alloc (.cells (madeCells (Array.replicate 16 (Value.int .u64 0)) (((hi - lo + 1 + 1024 - 1) / 1024).toNat * 16)) 86)).alloc (.cells #[.int .i64 lo, .int .i64 (hi - lo + 1), .slice (some ⟨w.heap.size, 0, none⟩) ((hi - lo + 1 + 1024 - 1) / 1024).toNat ((hi - lo + 1 + 1024 - 1) / 1024).toNat] 75) := by
  have e1 : wrap64 (hi - lo) = hi - lo := IntWalk.wrap64_in _ (by omega)
  have b1 := decide_eq_false (show ¬ lo < -1000000 by omega)
  have b2 := decide_eq_false (show ¬ hi > 1000000 by omega)
  have b3 := decide_eq_false (show ¬ lo > hi by omega)
  have b4 := decide_eq_false (show ¬ 65536 ≤ hi - lo by omega)
  obtain ⟨i, z, hi1, hz, hs, hby, hzc⟩ := pagesInfo
  have hmk := run_make (P := Tryd.prog) w 73 86 i z Tryd.underlying73 hi1 hz .i64 .i64 ((hi - lo + 1 + 1024 - 1) / 1024) ((hi - lo + 1 + 1024 - 1) / 1024) (by omega) (by omega) (by rw [hby]; omega) (by omega)
  rw [hzc, hs] at hmk
  have HM := Lib.hid hmk
  clear hmk hi1 hz hs hby hzc
  go_enter Tryd.func17, Tryd.ntmps17
  go_wp2_with fail
  rw [HM.out]
  go_wp2_with fail
  go_ret2
  exact ⟨rfl, rfl⟩

set_option maxHeartbeats 8000000 in
theorem bits_New.full (lo hi : Int) (w : World) (h1 : -1000000 ≤ lo) (h2 : hi ≤ 1000000) (h3 : lo ≤ hi) (h4 : 65536 ≤ hi - lo) :
    Calls Tryd.prog 17 #[.int .i64 lo, .int .i64 hi] w fun e w' => e = .returned (.tuple #[.pointer none, .int .i64 4]) ∧ w' = w := by
  have e1 : wrap64 (hi - lo) = hi - lo := IntWalk.wrap64_in _ (by omega)
  have b1 := decide_eq_false (show ¬ lo < -1000000 by omega)
  have b2 := decide_eq_false (show ¬ hi > 1000000 by omega)
  have b3 := decide_eq_false (show ¬ lo > hi by omega)
  have b4 := decide_eq_true h4
  go_enter Tryd.func17, Tryd.ntmps17
  go_wp2_with fail
  go_ret2
  exact ⟨rfl, rfl⟩

set_option maxHeartbeats 8000000 in
theorem bits_New.bad (lo hi : Int) (w : World) (h : lo < -1000000 ∨ hi > 1000000 ∨ lo > hi) :
    Calls Tryd.prog 17 #[.int .i64 lo, .int .i64 hi] w fun e w' => e = .returned (.tuple #[.pointer none, .int .i64 20]) ∧ w' = w := by
  by_cases c1 : lo < -1000000
  · go_enter Tryd.func17, Tryd.ntmps17
    go_wp2_with fail
    go_ret2
    exact ⟨rfl, rfl⟩
  · have b1 := decide_eq_false c1
    by_cases c2 : hi > 1000000
    · go_enter Tryd.func17, Tryd.ntmps17
      go_wp2_with fail
      go_ret2
      exact ⟨rfl, rfl⟩
    · have b2 := decide_eq_false c2
      have c3 : lo > hi := by omega
      go_enter Tryd.func17, Tryd.ntmps17
      go_wp2_with fail
      go_ret2
      exact ⟨rfl, rfl⟩

theorem made_get (k i : Nat) (h : i < 16 * k) : (madeCells (Array.replicate 16 (Value.int .u64 0)) (k * 16))[i]? = some (Value.int .u64 0) := by
  have h2 : i < (madeCells (Array.replicate 16 (Value.int .u64 0)) (k * 16)).size := by rw [size_madeCells]; omega
  rw [Array.getElem?_eq_getElem h2]
  simp [madeCells, Nat.mod_lt]

theorem add_zero_off (b i : Nat) : (Addr.add ⟨b, 0, none⟩ i) = ⟨b, i, none⟩ := by
  by_cases h : i = 0 <;> simp [Addr.add, h]
theorem made_pages (w : World) (k : Nat) (o : Obj) : PagesAt ((w.alloc (.cells (madeCells (Array.replicate 16 (Value.int .u64 0)) (k * 16)) 86)).alloc o) (some ⟨w.heap.size, 0, none⟩) k (fun _ => 0) := by
  have h : ((w.alloc (.cells (madeCells (Array.replicate 16 (Value.int .u64 0)) (k * 16)) 86)).alloc o).heap[w.heap.size]? = some (.cells (madeCells (Array.replicate 16 (Value.int .u64 0)) (k * 16)) 86 (0, 0)) :=
    (Below.heap_alloc _ o w.heap.size (by rw [World.size_alloc]; omega)).trans (World.alloc_heap_new _ _)
  refine ⟨_, rfl, fun i hi => ?_⟩
  rw [add_zero_off]
  exact ⟨(blk_cell h i).trans (made_get k i hi), blk_frozen h i⟩

end Go.Proofs.YtfkbkcdiajjljaaDoor.PBitsSteps

namespace Go.Proofs.YtfkbkcdiajjljaaDoor.PBitsSteps
open Go.RowKit Go.Proofs.YtfkbkcdiajjljaaDoorW.PrintWords Go.Proofs.YtfkbkcdiajjljaaDoorW.PrintLast Go.Proofs.YtfkbkcdiajjljaaDoorW.PrintMore
set_option linter.unusedVariables false
set_option linter.unusedSimpArgs false
def tzTab : List Nat := [0, 1, 56, 2, 57, 49, 28, 3, 61, 58, 42, 50, 38, 29, 17, 4, 62, 47, 59, 36, 45, 43, 51, 22, 53, 39, 33, 30, 24, 18, 12, 5, 63, 55, 48, 27, 60, 41, 37, 16, 46, 35, 44, 21, 52, 32, 23, 11, 54, 26, 40, 15, 34, 20, 31, 10, 25, 14, 19, 9, 13, 8, 7, 6]
def TabLaid (w : World) : Prop := ∀ t : Nat, t < 64 → w.cell? ⟨0, t, none⟩ = some (.int .u8 (tzTab.getD t 0 : Nat))
def tzIx (x : Int) : Int := IntKind.u64.wrap (bits .and .u64 x (IntKind.u64.wrap (-x)) * 285870213051353865) / 288230376151711744
set_option maxHeartbeats 4000000 in
theorem tz64.calls (x : Int) (r : Nat) (w : World) (h0 : 0 < x) (hi0 : 0 ≤ tzIx x) (hi1 : tzIx x < 64) (hr : tzTab.getD (tzIx x).toNat 0 = r) (hL : TabLaid w) :
    Calls Tryd.prog 43 #[.int .u64 x] w fun e w' => e = .returned (.int .i64 (r : Nat)) ∧ w' = w := by
  have hc := hL (tzIx x).toNat (by omega)
  rw [hr] at hc
  have HL := Lib.hid hL
  clear hL
  have hne : (x == 0) = false := by rw [beq_eq_false_iff_ne]; omega
  have hr64 : r < 64 := by
    have : ∀ k, k < 64 → tzTab.getD k 0 < 64 := by decide
    rw [← hr]
    exact this _ (by omega)
  have hI : 0 ≤ IntKind.u64.wrap (bits .and .u64 x (IntKind.u64.wrap (-x)) * 285870213051353865) / 288230376151711744 ∧ IntKind.u64.wrap (bits .and .u64 x (IntKind.u64.wrap (-x)) * 285870213051353865) / 288230376151711744 < 64 := ⟨hi0, hi1⟩
  have hc2 : w.cell? ⟨0, (IntKind.u64.wrap (bits .and .u64 x (IntKind.u64.wrap (-x)) * 285870213051353865) / 288230376151711744).toNat, none⟩ = some (.int .u8 (r : Nat)) := hc
  have HR := Lib.hid hr64
  clear hr hc hi0 hi1 hr64
  go_enter Tryd.func43, Tryd.ntmps43
  go_wp2_with fail
  go_ret
  refine ⟨?_, rfl⟩
  have := HR.out
  have e := IntWalk.wrap64_in (r : Int) (by omega)

  exact congrArg (fun z => Ending.returned (Value.int .i64 z)) e
/-! the lowest bit -/
def tzN : Nat → Nat → Nat
  | 0, _ => 0
  | f + 1, x => if x % 2 = 1 then 0 else 1 + tzN f (x / 2)
theorem tzN_lt (f x : Nat) (h0 : 0 < x) (h : x < 2 ^ f) : tzN f x < f := by
  induction f generalizing x with
  | zero => simp at h; omega
  | succ f ih =>
    unfold tzN
    split
    · omega
    · have := ih (x / 2) (by omega) (by rw [Nat.pow_succ] at h; omega)
      omega
theorem tzN_bit (f x : Nat) (h0 : 0 < x) (h : x < 2 ^ f) : x.testBit (tzN f x) = true ∧ ∀ j, j < tzN f x → x.testBit j = false := by
  induction f generalizing x with
  | zero => simp at h; omega
  | succ f ih =>
    unfold tzN
    by_cases h1 : x % 2 = 1
    · rw [if_pos h1]
      exact ⟨by rw [Nat.testBit_zero]; simp [h1], fun j hj => by omega⟩
    · rw [if_neg h1]
      have := ih (x / 2) (by omega) (by rw [Nat.pow_succ] at h; omega)
      refine ⟨by rw [Nat.add_comm, Nat.testBit_succ]; exact this.1, fun j hj => ?_⟩
      cases j with
      | zero => rw [Nat.testBit_zero]; simp [h1]
      | succ j => rw [Nat.testBit_succ]; exact this.2 j (by omega)
theorem and_low (z f : Nat) (h : z < 2 ^ f) : z &&& (2 ^ f - (z + 1)) = 0 := by
  apply Nat.eq_of_testBit_eq
  intro i
  rw [Nat.testBit_and, Nat.testBit_two_pow_sub_succ h, Nat.zero_testBit]
  cases z.testBit i <;> simp
theorem tzN_and (f x : Nat) (h0 : 0 < x) (h : x < 2 ^ f) : x &&& (2 ^ f - x) = 2 ^ tzN f x := by
  induction f generalizing x with
  | zero => simp at h; omega
  | succ f ih =>
    have e1 : (x &&& (2 ^ (f + 1) - x)) / 2 = (x / 2) &&& ((2 ^ (f + 1) - x) / 2) := Nat.and_div_two
    have e2 : (x &&& (2 ^ (f + 1) - x)) % 2 = 1 ↔ x % 2 = 1 ∧ (2 ^ (f + 1) - x) % 2 = 1 := Nat.and_mod_two_eq_one
    rw [Nat.pow_succ] at h e1 e2 ⊢
    unfold tzN
    by_cases h1 : x % 2 = 1
    · rw [if_pos h1]
      have e3 : (2 ^ f * 2 - x) / 2 = 2 ^ f - (x / 2 + 1) := by omega
      rw [e3, and_low (x / 2) f (by omega)] at e1
      have e4 := e2.2 ⟨h1, by omega⟩
      omega
    · rw [if_neg h1]
      have e3 : (2 ^ f * 2 - x) / 2 = 2 ^ f - x / 2 := by omega
      rw [e3, ih (x / 2) (by omega) (by omega)] at e1
      have e4 : ¬ (x &&& (2 ^ f * 2 - x)) % 2 = 1 := fun h => h1 (e2.1 h).1
      rw [Nat.add_comm 1, Nat.pow_succ]
      omega
theorem tz_table : ∀ t, t < 64 → (2 ^ t * 285870213051353865 % 18446744073709551616) / 288230376151711744 < 64 ∧ tzTab.getD ((2 ^ t * 285870213051353865 % 18446744073709551616) / 288230376151711744) 0 = t := by decide
theorem tzIx_of (n : Nat) (h0 : 0 < n) (h : n < 18446744073709551616) : tzIx (n : Int) = (((2 ^ tzN 64 n * 285870213051353865 % 18446744073709551616) / 288230376151711744 : Nat) : Int) := by
  unfold tzIx
  have e1 : IntKind.u64.wrap (-(n : Int)) = ((2 ^ 64 - n : Nat) : Int) := by rw [IntKind.wrap_u64]; omega
  have e2 : bits .and .u64 (n : Int) (IntKind.u64.wrap (-(n : Int))) = ((2 ^ tzN 64 n : Nat) : Int) := by
    rw [e1, ← tzN_and 64 n h0 h]
    exact u64_and_nat n (2 ^ 64 - n) h (by omega)
  rw [e2, IntKind.wrap_u64]
  generalize 2 ^ tzN 64 n = m
  omega
theorem tz64.nat (n : Nat) (w : World) (h0 : 0 < n) (h : n < 18446744073709551616) (hL : TabLaid w) :
    Calls Tryd.prog 43 #[.int .u64 n] w fun e w' => e = .returned (.int .i64 (tzN 64 n : Nat)) ∧ w' = w := by
  have ht := tz_table (tzN 64 n) (tzN_lt 64 n h0 h)
  have e := tzIx_of n h0 h
  exact tz64.calls n (tzN 64 n) w (by omega) (by omega) (by omega) (by rw [e, Int.toNat_natCast]; exact ht.2) hL

/-! ### a set as the values it has -/
structure BitsOf (f r : Int) (n : Nat) (ws : Nat → Nat) (M : Int → Bool) : Prop where
  wf : ∀ i, i < 16 * n → ws i < 2 ^ 64
  room : (n : Int) = (r + 1023) / 1024 ∧ 0 < r ∧ r ≤ 65536 ∧ -1000000 ≤ f ∧ f + r ≤ 1000001
  bit : ∀ p, p < 1024 * n → (ws (p / 64)).testBit (p % 64) = M (f + p)
  inn : ∀ v, M v = true → f ≤ v ∧ v < f + r
def SetAt (w : World) (g gp : Nat) (f r : Int) (M : Int → Bool) : Prop :=
  ∃ n c ws cs, w.heap[g]? = some (setB f r (some ⟨gp, 0, none⟩) n c) ∧ w.heap[gp]? = some (.cells cs 86 (0, 0)) ∧ g ≠ gp ∧ (∀ i, i < 16 * n → cs[i]? = some (.int .u64 (ws i : Nat))) ∧ n ≤ c ∧ BitsOf f r n ws M
theorem SetAt.keep {w w' : World} {g gp : Nat} {f r : Int} {M : Int → Bool} (h : SetAt w g gp f r M) (h1 : w'.heap[g]? = w.heap[g]?) (h2 : w'.heap[gp]? = w.heap[gp]?) : SetAt w' g gp f r M := by
  obtain ⟨n, c, ws, cs, a, b, d⟩ := h
  exact ⟨n, c, ws, cs, h1.trans a, h2.trans b, d⟩
theorem SetAt.lt {w : World} {g gp : Nat} {f r : Int} {M : Int → Bool} (h : SetAt w g gp f r M) : g < w.heap.size ∧ gp < w.heap.size ∧ g ≠ gp := by
  obtain ⟨n, c, ws, cs, a, b, d, _⟩ := h
  exact ⟨blk_lt a, blk_lt b, d⟩
theorem SetAt.below {w w' : World} {g gp : Nat} {f r : Int} {M : Int → Bool} (h : SetAt w g gp f r M) (hb : Below w.heap.size w w') : SetAt w' g gp f r M :=
  h.keep (hb.block g h.lt.1) (hb.block gp h.lt.2.1)
theorem pages_at {w : World} {gp n : Nat} {ws : Nat → Nat} {cs : Array Value} (h : w.heap[gp]? = some (.cells cs 86 (0, 0))) (hc : ∀ i, i < 16 * n → cs[i]? = some (.int .u64 (ws i : Nat))) : PagesAt w (some ⟨gp, 0, none⟩) n (fun i => (ws i : Int)) := by
  refine ⟨_, rfl, fun i hi => ?_⟩
  rw [add_zero_off]
  exact ⟨(blk_cell h i).trans (hc i hi), blk_frozen h i⟩
theorem bitOf_nat (p : Nat) : bitOf (p : Int) = ((2 ^ (p % 64) : Nat) : Int) := by
  unfold bitOf shl
  rw [Int.tmod_eq_emod_of_nonneg (by omega), Int.one_mul, Nat.min_eq_left (by show _ ≤ 64; omega)]
  rw [show ((p : Int) % 64).toNat = p % 64 by omega, IntKind.wrap_u64]
  have : 2 ^ (p % 64) < 2 ^ 64 := Nat.pow_lt_pow_right (by decide) (by omega)
  rw [show (2 : Int) ^ (p % 64) = ((2 ^ (p % 64) : Nat) : Int) by norm_cast]
  generalize 2 ^ (p % 64) = q at *
  omega
theorem pow_lt_word (p : Nat) : 2 ^ (p % 64) < 18446744073709551616 := Nat.pow_lt_pow_right (n := 64) (a := 2) (by decide) (by omega)
theorem has_bit (a p : Nat) (ha : a < 2 ^ 64) : (bits .and .u64 (a : Int) (bitOf (p : Int)) != 0) = a.testBit (p % 64) := by
  rw [bitOf_nat, u64_and_nat a _ ha (pow_lt_word p)]
  generalize p % 64 = k
  cases h : a.testBit k
  · have : a &&& 2 ^ k = 0 := by
      apply Nat.eq_of_testBit_eq
      intro i
      rw [Nat.testBit_and, Nat.testBit_two_pow, Nat.zero_testBit]
      by_cases e : k = i
      · subst e; simp [h]
      · simp [e]
    rw [this]; rfl
  · have : (a &&& 2 ^ k).testBit k = true := by rw [Nat.testBit_and, Nat.testBit_two_pow, h]; simp
    have : a &&& 2 ^ k ≠ 0 := by
      intro e
      rw [e, Nat.zero_testBit] at this
      cases this
    rw [bne_iff_ne]
    omega
theorem BitsOf.fits {f r : Int} {n : Nat} {ws : Nat → Nat} {M : Int → Bool} (h : BitsOf f r n ws M) (v : Int) : setFits f r v = decide (f ≤ v ∧ v < f + r) := by
  have := h.room
  unfold setFits
  rw [IntWalk.wrap64_in (f + r) (by omega)]
  simp
theorem BitsOf.has {f r : Int} {n : Nat} {ws : Nat → Nat} {M : Int → Bool} (h : BitsOf f r n ws M) (v : Int) : setHas f r (fun i => (ws i : Int)) v = M v := by
  have hr := h.room
  unfold setHas
  rw [h.fits]
  by_cases hv : f ≤ v ∧ v < f + r
  · rw [decide_eq_true hv, Bool.true_and]
    obtain ⟨p, rfl⟩ : ∃ p : Nat, v = f + p := ⟨(v - f).toNat, by omega⟩
    rw [show f + (p : Int) - f = p by omega, show ((p : Int) / 64).toNat = p / 64 by omega, has_bit _ p (h.wf _ (by omega)), h.bit p (by omega)]
  · rw [decide_eq_false hv, Bool.false_and]
    cases hm : M v with
    | false => rfl
    | true => exact absurd (h.inn v hm) hv
theorem SetAt.has {w : World} {g gp : Nat} {f r : Int} {M : Int → Bool} (h : SetAt w g gp f r M) (v : Int) :
    Calls Tryd.prog 12 #[setP g, .int .i64 v] w fun e w' => e = .returned (.bool (M v)) ∧ Drawn0 w w' := by
  obtain ⟨n, c, ws, cs, h1, h2, h3, h4, h5, h6⟩ := h
  have hr := h6.room
  have := bits_Has.calls g f r ⟨gp, 0, none⟩ n c (fun i => (ws i : Int)) v w h1 (pages_at h2 h4) (by omega) (by omega) (by omega) (by omega)
  rw [h6.has v] at this
  exact this
/-! a bit is put in, or taken out -/
theorem or_bit (a p : Nat) (ha : a < 2 ^ 64) : bits .or .u64 (a : Int) (bitOf (p : Int)) = ((a ||| 2 ^ (p % 64) : Nat) : Int) := by
  rw [bitOf_nat, u64_or_nat a _ ha (pow_lt_word p)]
theorem andNot_bit (a p : Nat) (ha : a < 2 ^ 64) : bits .andNot .u64 (a : Int) (bitOf (p : Int)) = ((a &&& (18446744073709551615 - 2 ^ (p % 64)) : Nat) : Int) := by
  rw [bitOf_nat, u64_andNot_nat a _ ha (pow_lt_word p)]
theorem testBit_or_pow (a k j : Nat) : (a ||| 2 ^ k).testBit j = (a.testBit j || decide (k = j)) := by rw [Nat.testBit_or, Nat.testBit_two_pow]
theorem testBit_andNot_pow (a k j : Nat) (hk : k < 64) (hj : j < 64) : (a &&& (18446744073709551615 - 2 ^ k)).testBit j = (a.testBit j && !decide (k = j)) := by
  have hp : 2 ^ k < 2 ^ 64 := Nat.pow_lt_pow_right (by decide) hk
  rw [Nat.testBit_and, show 18446744073709551615 - 2 ^ k = 2 ^ 64 - (2 ^ k + 1) by omega, Nat.testBit_two_pow_sub_succ hp, Nat.testBit_two_pow, decide_eq_true hj, Bool.true_and]
theorem BitsOf.put {f r : Int} {n : Nat} {ws : Nat → Nat} {M : Int → Bool} (h : BitsOf f r n ws M) (q : Nat) (hq : (q : Int) < r) :
    BitsOf f r n (fun i => if i = q / 64 then ws (q / 64) ||| 2 ^ (q % 64) else ws i) (fun x => x == f + q || M x) where
  wf i hi := by
    show (if _ then _ else _) < _
    split
    · exact Nat.or_lt_two_pow (h.wf _ (by omega)) (pow_lt_word q)
    · exact h.wf i hi
  room := h.room
  bit p hp := by
    have hb := h.bit p hp
    show (if _ then _ else _ : Nat).testBit _ = _
    by_cases e : p / 64 = q / 64
    · rw [if_pos e, testBit_or_pow, ← e, hb, Bool.or_comm]
      congr 1
      rw [Bool.eq_iff_iff]
      simp only [decide_eq_true_eq, beq_iff_eq]
      omega
    · rw [if_neg e, hb]
      have : (f + (p : Int) == f + q) = false := by rw [beq_eq_false_iff_ne]; omega
      rw [this, Bool.false_or]
  inn v hv := by
    rw [Bool.or_eq_true, beq_iff_eq] at hv
    rcases hv with rfl | hv
    · omega
    · exact h.inn v hv
theorem BitsOf.drop {f r : Int} {n : Nat} {ws : Nat → Nat} {M : Int → Bool} (h : BitsOf f r n ws M) (q : Nat) (hq : (q : Int) < r) :
    BitsOf f r n (fun i => if i = q / 64 then ws (q / 64) &&& (18446744073709551615 - 2 ^ (q % 64)) else ws i) (fun x => M x && !(x == f + q)) where
  wf i hi := by
    have hr := h.room
    show (if _ then _ else _) < _
    split
    · exact Nat.lt_of_le_of_lt Nat.and_le_left (h.wf _ (by omega))
    · exact h.wf i hi
  room := h.room
  bit p hp := by
    have hb := h.bit p hp
    show (if _ then _ else _ : Nat).testBit _ = _
    by_cases e : p / 64 = q / 64
    · rw [if_pos e, testBit_andNot_pow _ _ _ (by omega) (by omega), ← e, hb]
      congr 2
      rw [Bool.eq_iff_iff]
      simp only [decide_eq_true_eq, beq_iff_eq]
      omega
    · rw [if_neg e, hb]
      have : (f + (p : Int) == f + q) = false := by rw [beq_eq_false_iff_ne]; omega
      rw [this, Bool.not_false, Bool.and_true]
  inn v hv := by
    rw [Bool.and_eq_true] at hv
    exact h.inn v hv.1
theorem set_cells {w : World} {gp n : Nat} {ws : Nat → Nat} {cs : Array Value} (m : Nat) (h : w.heap[gp]? = some (.cells cs 86 (0, 0))) (hc : ∀ i, i < 16 * n → cs[i]? = some (.int .u64 (ws i : Nat))) (k : Nat) (hk : k < 16 * n) (u : Nat) :
    ∃ cs', ((w.drewN m).setCell ((Addr.mk gp 0 none).add k) (.int .u64 (u : Nat))).heap[gp]? = some (.cells cs' 86 (0, 0)) ∧ ∀ i, i < 16 * n → cs'[i]? = some (.int .u64 ((if i = k then u else ws i : Nat) : Nat)) := by
  rw [add_zero_off]
  refine ⟨_, blk_put (setB_drawn h m) k _ rfl, fun i hi => ?_⟩
  rw [Array.getElem?_setIfInBounds]
  have hk2 : k < cs.size := (Array.getElem?_eq_some_iff.1 (hc k hk)).1
  by_cases e : k = i
  · subst e
    rw [if_pos rfl, if_pos hk2, if_pos rfl]
  · rw [if_neg e, if_neg (fun x => e x.symm), hc i hi]
theorem SetAt.add {w : World} {g gp : Nat} {f r : Int} {M : Int → Bool} (h : SetAt w g gp f r M) (v : Int) (hv : f ≤ v ∧ v < f + r) :
    Calls Tryd.prog 21 #[setP g, .int .i64 v] w fun e w' => e = .returned (.tuple #[.bool (!M v), .int .i64 0]) ∧ (∃ m i u, w' = (w.drewN m).setCell ⟨gp, i, none⟩ u) ∧ SetAt w' g gp f r (fun x => x == v || M x) := by
  obtain ⟨n, c, ws, cs, h1, h2, h3, h4, h5, h6⟩ := h
  have hr := h6.room
  have := bits_Add.calls g f r ⟨gp, 0, none⟩ n c (fun i => (ws i : Int)) v w h1 (pages_at h2 h4) (by omega) (by omega) (by omega) (by omega) (by rw [h6.fits]; exact decide_eq_true hv)
  rw [h6.has v] at this
  obtain ⟨p, rfl⟩ : ∃ p : Nat, v = f + p := ⟨(v - f).toNat, by omega⟩
  rw [show f + (p : Int) - f = p by omega, show ((p : Int) / 64).toNat = p / 64 by omega, or_bit _ p (h6.wf _ (by omega))] at this
  refine this.mono ?_
  rintro e w' ⟨rfl, m, rfl⟩
  obtain ⟨cs', k1, k2⟩ := set_cells m h2 h4 (p / 64) (by omega) (ws (p / 64) ||| 2 ^ (p % 64))
  refine ⟨rfl, ⟨m, p / 64, _, by rw [add_zero_off]⟩, n, c, _, cs', ?_, k1, h3, k2, h5, h6.put p (by omega)⟩
  rw [add_zero_off]
  exact (Below.heap_setCell _ _ _ g h3).trans (setB_drawn h1 m)
theorem SetAt.add_out {w : World} {g gp : Nat} {f r : Int} {M : Int → Bool} (h : SetAt w g gp f r M) (v : Int) (hv : ¬ (f ≤ v ∧ v < f + r)) :
    Calls Tryd.prog 21 #[setP g, .int .i64 v] w fun e w' => e = .returned (.tuple #[.bool false, .int .i64 20]) ∧ Drawn0 w w' := by
  obtain ⟨n, c, ws, cs, h1, h2, h3, h4, h5, h6⟩ := h
  exact bits_Add.out g f r _ n c v w h1 (by rw [h6.fits]; exact decide_eq_false hv)
theorem SetAt.del {w : World} {g gp : Nat} {f r : Int} {M : Int → Bool} (h : SetAt w g gp f r M) (v : Int) :
    Calls Tryd.prog 23 #[setP g, .int .i64 v] w fun e w' => e = .returned (.tuple #[.bool (M v), .int .i64 0]) ∧ (Drawn0 w w' ∨ ∃ m i u, w' = (w.drewN m).setCell ⟨gp, i, none⟩ u) ∧ SetAt w' g gp f r (fun x => M x && !(x == v)) := by
  have hs := h
  obtain ⟨n, c, ws, cs, h1, h2, h3, h4, h5, h6⟩ := h
  have hr := h6.room
  cases hm : M v with
  | false =>
    refine (bits_Del.miss g f r ⟨gp, 0, none⟩ n c (fun i => (ws i : Int)) v w h1 (pages_at h2 h4) (by omega) (by omega) (by omega) (by omega) (by rw [h6.has, hm])).mono ?_
    rintro e w' ⟨rfl, hd⟩
    have hM : (fun x => M x && !(x == v)) = M := by
      funext x
      by_cases e : x = v
      · subst e; simp [hm]
      · simp [e]
    exact ⟨rfl, .inl hd, by rw [hM]; exact hs.keep (hd.below.block g hs.lt.1) (hd.below.block gp hs.lt.2.1)⟩
  | true =>
    have hv := h6.inn v hm
    have := bits_Del.hit g f r ⟨gp, 0, none⟩ n c (fun i => (ws i : Int)) v w h1 (pages_at h2 h4) (by omega) (by omega) (by omega) (by omega) (by rw [h6.fits]; exact decide_eq_true hv) (by rw [h6.has, hm])
    obtain ⟨p, rfl⟩ : ∃ p : Nat, v = f + p := ⟨(v - f).toNat, by omega⟩
    rw [show f + (p : Int) - f = p by omega, show ((p : Int) / 64).toNat = p / 64 by omega, andNot_bit _ p (h6.wf _ (by omega))] at this
    refine this.mono ?_
    rintro e w' ⟨rfl, m, rfl⟩
    obtain ⟨cs', k1, k2⟩ := set_cells m h2 h4 (p / 64) (by omega) (ws (p / 64) &&& (18446744073709551615 - 2 ^ (p % 64)))
    refine ⟨rfl, .inr ⟨m, p / 64, _, by rw [add_zero_off]⟩, n, c, _, cs', ?_, k1, h3, k2, h5, h6.drop p (by omega)⟩
    rw [add_zero_off]
    exact (Below.heap_setCell _ _ _ g h3).trans (setB_drawn h1 m)

end Go.Proofs.YtfkbkcdiajjljaaDoor.PBitsSteps

namespace Go.Proofs.YtfkbkcdiajjljaaDoor.PBitsSteps
open Go.RowKit Go.Proofs.YtfkbkcdiajjljaaDoorW.PrintWords Go.Proofs.YtfkbkcdiajjljaaDoorW.PrintLast Go.Proofs.YtfkbkcdiajjljaaDoorW.PrintMore
set_option linter.unusedVariables false
set_option linter.unusedSimpArgs false
/-! ### Next -/
def shrW (a : Nat) (p : Nat) : Nat := a / 2 ^ (p % 64)
theorem BitsOf.shr {f r : Int} {n : Nat} {ws : Nat → Nat} {M : Int → Bool} (h : BitsOf f r n ws M) (p j : Nat) (hp : p < 1024 * n) (hj : p % 64 + j < 64) : (shrW (ws (p / 64)) p).testBit j = M (f + (p + j : Nat)) := by
  have := h.bit (p + j) (by omega)
  rw [← this, shrW, Nat.testBit_div_two_pow]
  rw [show (p + j) / 64 = p / 64 by omega, show (p + j) % 64 = j + p % 64 by omega]
theorem BitsOf.shr_lt {f r : Int} {n : Nat} {ws : Nat → Nat} {M : Int → Bool} (h : BitsOf f r n ws M) (p : Nat) (hp : p < 1024 * n) : shrW (ws (p / 64)) p < 2 ^ (64 - p % 64) := by
  have := h.wf (p / 64) (by omega)
  unfold shrW
  rw [Nat.div_lt_iff_lt_mul (Nat.two_pow_pos _), ← Nat.pow_add, show 64 - p % 64 + p % 64 = 64 by omega]
  exact this
theorem BitsOf.none {f r : Int} {n : Nat} {ws : Nat → Nat} {M : Int → Bool} (h : BitsOf f r n ws M) (p : Nat) (hp : p < 1024 * n) (h0 : shrW (ws (p / 64)) p = 0) (x : Int) (hx : f + p ≤ x ∧ x < f + p + 64 - (p % 64 : Nat)) : M x = false := by
  obtain ⟨j, rfl⟩ : ∃ j : Nat, x = f + (p + j : Nat) := ⟨(x - f - p).toNat, by omega⟩
  rw [← h.shr p j hp (by omega), h0, Nat.zero_testBit]
theorem BitsOf.some {f r : Int} {n : Nat} {ws : Nat → Nat} {M : Int → Bool} (h : BitsOf f r n ws M) (p : Nat) (hp : p < 1024 * n) (h0 : 0 < shrW (ws (p / 64)) p) :
    M (f + p + (tzN 64 (shrW (ws (p / 64)) p) : Nat)) = true ∧ ∀ x, f + p ≤ x → x < f + p + (tzN 64 (shrW (ws (p / 64)) p) : Nat) → M x = false := by
  have hl := h.shr_lt p hp
  have hlt : shrW (ws (p / 64)) p < 2 ^ 64 := Nat.lt_of_lt_of_le hl (Nat.pow_le_pow_right (by decide) (by omega))
  have hb := tzN_bit 64 _ h0 hlt
  have ht : tzN 64 (shrW (ws (p / 64)) p) < 64 - p % 64 := by
    rcases Nat.lt_or_ge (tzN 64 (shrW (ws (p / 64)) p)) (64 - p % 64) with h1 | h1
    · exact h1
    · have := Nat.testBit_lt_two_pow (Nat.lt_of_lt_of_le hl (Nat.pow_le_pow_right (by decide) h1))
      rw [this] at hb
      cases hb.1
  have hs := fun j hj => h.shr p j hp hj
  generalize tzN 64 (shrW (ws (p / 64)) p) = t at *
  refine ⟨?_, fun x h1 h2 => ?_⟩
  · rw [show f + (p : Int) + (t : Nat) = f + (p + t : Nat) by omega, ← hs t (by omega)]
    exact hb.1
  · obtain ⟨j, rfl⟩ : ∃ j : Nat, x = f + (p + j : Nat) := ⟨(x - f - p).toNat, by omega⟩
    rw [← hs j (by omega)]
    exact hb.2 j (by omega)
/-- what Next answers -/
def IsNext (M : Int → Bool) (v : Int) (n : Int) (ok : Bool) : Prop :=
  (ok = true ∧ v ≤ n ∧ M n = true ∧ ∀ x, v ≤ x → x < n → M x = false) ∨ (ok = false ∧ n = 0 ∧ ∀ x, v ≤ x → M x = false)
theorem shr_word (a p : Nat) (ha : a < 2 ^ 64) : shr .u64 (a : Int) (Int.tmod (p : Int) 64) = ((shrW a p : Nat) : Int) := by
  unfold shrW shr
  rw [Int.tmod_eq_emod_of_nonneg (by omega)]
  rw [show min ((p : Int) % 64).toNat IntKind.u64.bits = p % 64 by show min _ 64 = _; omega]
  norm_cast
theorem tab_drawn {w : World} (h : TabLaid w) (m : Nat) : TabLaid (w.drewN m) := h
theorem word_at (g gp : Nat) (f r : Int) (n c : Nat) (ws : Nat → Nat) (p : Nat) (w : World) (h : w.heap[g]? = some (setB f r (some ⟨gp, 0, none⟩) n c)) (hp : PagesAt w (some ⟨gp, 0, none⟩) n (fun i => (ws i : Int))) (hxn : p < 1024 * n) (hn : n < 1000000) :
    Calls Tryd.prog 42 #[.pointer (some ⟨g, 0, none⟩), .int .i64 p] w fun e w' => e = .returned (.pointer (some ⟨gp, p / 64, none⟩)) ∧ w' = w ∧ w'.cell? ⟨gp, p / 64, none⟩ = some (.int .u64 (ws (p / 64))) := by
  refine (bits_word.same g f r _ n c _ p w h hp (by omega) (by omega) hn).mono ?_
  rintro e w' ⟨⟨ad, e1, rfl⟩, rfl⟩
  injection e1 with e1
  subst e1
  obtain ⟨ad, e1, hc⟩ := hp
  injection e1 with e1
  subst e1
  have := (hc (p / 64) (by omega)).1
  rw [add_zero_off] at this ⊢
  rw [show ((p : Int) / 64).toNat = p / 64 by omega]
  exact ⟨rfl, rfl, this⟩

set_option maxHeartbeats 8000000 in
theorem SetAt.next {w : World} {g gp : Nat} {f r : Int} {M : Int → Bool} (h : SetAt w g gp f r M) (hL : TabLaid w) (v : Int) (hv : -9223372036854775808 ≤ v ∧ v ≤ 9223372036854775807) :
    Calls Tryd.prog 9 #[setP g, .int .i64 v] w fun e w' => (∃ n ok, e = .returned (.tuple #[.int .i64 n, .bool ok]) ∧ IsNext M v n ok) ∧ Drawn0 w w' := by
  obtain ⟨n, c, ws, cs, h1, h2, h3, h4, h5, h6⟩ := h
  have hr := h6.room
  have hp := pages_at h2 h4
  have c0 := setB_first h1
  have H := Lib.hid h1; have HP := Lib.hid hp; have HL := Lib.hid hL; have H6 := Lib.hid h6
  clear h1 h2 h3 h4 h5 hp hL h6
  have U : setP g = .pointer (some ⟨g, 0, none⟩) := rfl
  rw [U]
  go_enter Tryd.func9, Tryd.ntmps9
  go_wp2_with fail
  all_goals (
    go_loopw [1] (fun i wr => ∃ u : Int, f ≤ u ∧ (u ≤ v ∨ u ≤ f + 1024 * n) ∧ v ≤ u ∧ i = .int .i64 u ∧ Hid (∀ x, v ≤ x → x < u → M x = false) ∧ ∃ m, wr = w.drewN m)
      (fun i _ => (f + 70000 - intOf i).toNat)
    case atStart => exact ⟨_, by omega, by omega, by omega, rfl, Lib.hid (fun x h1 h2 => by cases hm : M x with
      | false => rfl
      | true => have := H6.out.inn x hm; omega), 0, rfl⟩
    case round =>
      obtain ⟨u, hu1, hu2, hu3, rfl, hz, m, rfl⟩ := hrel
      clear c0
      have c0 := setB_first (setB_drawn H.out m)
      go_wp2_with fail
      refine (bits_fits.calls g f r _ n c u _ (setB_drawn H.out m)).mono ?_
      rintro e w1 ⟨rfl, ⟨⟨m1, rfl⟩⟩⟩
      rw [H6.out.fits]
      by_cases hfit : f ≤ u ∧ u < f + r
      · rw [decide_eq_true hfit]
        obtain ⟨p, rfl⟩ : ∃ p : Nat, u = f + p := ⟨(u - f).toNat, by omega⟩
        have hpn : p < 1024 * n := by omega
        have ew : wrap64 (f + (p : Int) - f) = p := by rw [show f + (p : Int) - f = p by omega]; exact IntWalk.wrap64_in _ (by omega)
        have c0 := setB_first (setB_drawn H.out (m + m1))
        rw [World.drewN_drewN] at *
        go_wp2_with fail
        rw [show f + (p : Int) - f = p by omega]
        refine (word_at g gp f r n c ws p _ (setB_drawn H.out _) (PagesAt_drawn HP.out _) hpn (by omega)).mono ?_
        rintro e w1 ⟨rfl, rfl, cw⟩
        have hsh : 0 ≤ Int.tmod (p : Int) 64 := by rw [Int.tmod_eq_emod_of_nonneg (by omega)]; omega
        have esh : ((ws (p / 64) : Nat) : Int) / 2 ^ (p % 64) = ((shrW (ws (p / 64)) p : Nat) : Int) := by unfold shrW; norm_cast
        rcases Nat.eq_zero_or_pos (shrW (ws (p / 64)) p) with hq | hq
        · have hb : (((ws (p / 64) : Nat) : Int) / 2 ^ (p % 64) != 0) = false := by rw [esh, hq]; rfl
          have hn0 := H6.out.none p hpn hq
          go_wp2_with fail
          go_roundw
          case rel => exact ⟨f + p + (64 - p % 64), by omega, by omega, by omega, rfl, Lib.hid (fun x h1 h2 => by
            rcases Int.lt_or_le x (f + p) with h3 | h3
            · exact hz.out x h1 h3
            · exact hn0 x ⟨h3, by omega⟩), _, rfl⟩
          case measure => simp only [intOf]; simp [intOf]; omega
        · have hb : (((ws (p / 64) : Nat) : Int) / 2 ^ (p % 64) != 0) = true := by rw [esh, bne_iff_ne]; omega
          have hs := H6.out.some p hpn hq
          have hl := H6.out.shr_lt p hpn
          have hlt : shrW (ws (p / 64)) p < 18446744073709551616 := Nat.lt_of_lt_of_le hl (Nat.pow_le_pow_right (n := 2) (by decide) (by omega) : _ ≤ 2 ^ 64)
          have ht := tzN_lt 64 _ hq hlt
          go_wp2_with fail
          rw [esh]
          refine (tz64.nat _ _ hq hlt (tab_drawn HL.out _)).mono ?_
          rintro e w1 ⟨rfl, rfl⟩
          generalize tzN 64 (shrW (ws (p / 64)) p) = t at *
          go_wp2_with fail
          go_ret2
          exact ⟨⟨f + p + t, true, rfl, .inl ⟨rfl, by omega, hs.1, fun x h1 h2 => by
            rcases Int.lt_or_le x (f + p) with h3 | h3
            · exact hz.out x h1 h3
            · exact hs.2 x h3 h2⟩⟩, ⟨⟨_, rfl⟩⟩⟩
      · rw [decide_eq_false hfit]
        go_wp2_with fail
        go_ret2
        exact ⟨⟨0, false, rfl, .inr ⟨rfl, rfl, fun x hx => by
          cases hm : M x with
          | false => rfl
          | true =>
            have hi := H6.out.inn x hm
            rcases Int.lt_or_le x u with h1 | h1
            · rw [hz.out x hx h1] at hm; cases hm
            · omega⟩⟩, ⟨⟨_, rfl⟩⟩⟩)

end Go.Proofs.YtfkbkcdiajjljaaDoor.PBitsSteps

namespace Go.Proofs.YtfkbkcdiajjljaaDoor.PBitsSteps
open Go.RowKit Go.Proofs.YtfkbkcdiajjljaaDoorW.PrintWords Go.Proofs.YtfkbkcdiajjljaaDoorW.PrintLast Go.Proofs.YtfkbkcdiajjljaaDoorW.PrintMore
set_option linter.unusedVariables false
set_option linter.unusedSimpArgs false
set_option maxHeartbeats 8000000 in
theorem clone_pages (w : World) (gp n c : Nat) (cs : Array Value) (h : w.heap[gp]? = some (.cells cs 86 (0, 0))) (hn : 0 < n) (hn2 : n ≤ 64) (hc : 16 * n ≤ cs.size) (h1 : ∀ i u, i < 16 * n → cs[i]? = some u → u.oneCell' = true) :
    Calls Tryd.prog 63 #[.slice (some ⟨gp, 0, none⟩) n c] w fun e w' => ∃ g' cap cur, e = .returned (.slice (some ⟨g', 0, none⟩) n cap) ∧ w.heap.size ≤ g' ∧ w'.heap[g']? = some (.cells cur 86 (0, 0)) ∧ (∀ i, i < 16 * n → cur[i]? = cs[i]?) ∧ n ≤ cap ∧ Below w.heap.size w w' := by
  have hu := Tryd.underlying73
  obtain ⟨i, z, hi1, hz, hs, hby, hzc⟩ := pagesInfo
  have hown : (w.alloc (.cells #[] 86)).ownsRow w.heap.size 86 16 (.slice (some ⟨w.heap.size, 0, none⟩) 0 0) 0 [] :=
    ⟨rfl, .inr ⟨w.heap.size, 0, #[], rfl, Nat.le_refl _, World.alloc_heap_new _ _, Nat.le_refl _, by decide, rfl, rfl⟩⟩
  have hnews : ∀ j u, (cs.toList.take (16 * n))[j]? = some u → (w.alloc (.cells #[] 86)).cell? ((Addr.mk gp 0 none).add j) = some u := by
    intro j u hj
    rw [List.getElem?_take] at hj
    split at hj
    · rw [add_zero_off, blk_cell ((Below.heap_alloc _ _ gp (blk_lt h)).trans h)]
      rw [← hj]; simp
    · cases hj
  have hone : ∀ u ∈ cs.toList.take (16 * n), u.oneCell' = true := by
    intro u hu
    obtain ⟨q, hq, rfl⟩ := List.mem_iff_getElem.1 hu
    rw [List.length_take] at hq
    refine h1 q _ (by omega) ?_
    rw [List.getElem_take]
    simp
  have hlen : (cs.toList.take (16 * n)).length = n * 16 := by rw [List.length_take, Array.length_toList]; omega
  have hzs : z.cells.size = 16 := by rw [hzc]; simp
  have hml : 0 + n ≤ maxLen := by simp only [maxLen]; omega
  have hle : w.heap.size ≤ (w.alloc (.cells #[] 86)).heap.size := by simp
  have hB0 : Below w.heap.size w (w.alloc (.cells #[] 86)) := (Below.refl _ _).alloc (Nat.le_refl _) _
  go_enter Tryd.func63, Tryd.ntmps63
  go_wp2_with fail
  rw [run_eql_slice_nil _ 73 86 _ n c hu]
  go_wp2_with ((with_reducible refine gate_dst (N := 7) rfl ?_); refine wpList_append_own _ rfl _ _ 73 rfl w.heap.size 86 i z 16 128 hu hi1 hz hs hby hzs (by decide) _ 0 [] rfl hown ⟨gp, 0, none⟩ n c _ rfl hlen hnews hone hml (by omega) hle ?_; intro v' w' hown' hg hnil; obtain ⟨g', cap, cur, rfl, k1, k2, k3, k4, k5, k6⟩ : ∃ g cap cur, v' = .slice (some ⟨g, 0, none⟩) n cap ∧ w.heap.size ≤ g ∧ w'.heap[g]? = some (.cells cur 86 (0, 0)) ∧ n ≤ cap ∧ cap ≤ maxLen ∧ cur.size = cap * 16 ∧ cur.toList.take (n * 16) = [] ++ cs.toList.take (16 * n) := (by rcases hown'.2 with ⟨_, h0⟩ | ⟨g, cap, cur, e, b⟩; omega; exact ⟨g, cap, cur, (by rw [e, Nat.zero_add]), (by rw [Nat.zero_add] at b; exact b)⟩))
  go_ret
  refine ⟨g', cap, cur, rfl, k1, k2, fun j hj => ?_, k3, hB0.grown hg hle (fun k hk => by cases hk; exact Nat.le_refl _)⟩
  have e1 : (cur.toList.take (n * 16))[j]? = (cs.toList.take (16 * n))[j]? := by rw [k6, List.nil_append]
  rw [List.getElem?_take, List.getElem?_take, if_pos (by omega), if_pos hj] at e1
  simpa using e1

end Go.Proofs.YtfkbkcdiajjljaaDoor.PBitsSteps

namespace Go.Proofs.YtfkbkcdiajjljaaDoor.PBitsSteps
open Go.RowKit Go.Proofs.YtfkbkcdiajjljaaDoorW.PrintWords Go.Proofs.YtfkbkcdiajjljaaDoorW.PrintLast Go.Proofs.YtfkbkcdiajjljaaDoorW.PrintMore
set_option linter.unusedVariables false
set_option linter.unusedSimpArgs false
/-- what Copy's region keeps -/
def CopyS (w : World) (g gp : Nat) (f r : Int) (n c : Nat) (cs : Array Value) (v : World) : Prop := v.heap[g]? = some (setB f r (some ⟨gp, 0, none⟩) n c) ∧ v.heap[gp]? = some (.cells cs 86 (0, 0)) ∧ Below w.heap.size w v
theorem copyS_all {w : World} {g gp : Nat} {f r : Int} {n c : Nat} {cs : Array Value} {v : World} (h : CopyS w g gp f r n c cs v) :
    v.cell? ⟨g, 0, none⟩ = some (.int .i64 f) ∧ v.cell? ⟨g, 1, none⟩ = some (.int .i64 r) ∧ v.cell? ⟨g, 2, none⟩ = some (.slice (some ⟨gp, 0, none⟩) n c) ∧ CopyS w g gp f r n c cs v :=
  ⟨setB_first h.1, setB_room h.1, setB_pages h.1, h⟩
theorem copyS_below {w : World} {g gp : Nat} {f r : Int} {n c : Nat} {cs : Array Value} {v v' : World} (h : CopyS w g gp f r n c cs v) (hb : Below v.heap.size v v') : CopyS w g gp f r n c cs v' :=
  ⟨(hb.block g (blk_lt h.1)).trans h.1, (hb.block gp (blk_lt h.2.1)).trans h.2.1, below_step h.2.2 hb⟩
set_option maxHeartbeats 16000000 in
theorem copy_raw (w : World) (g gp n c : Nat) (f r : Int) (cs : Array Value) (h0 : w.heap[g]? = some (setB f r (some ⟨gp, 0, none⟩) n c)) (h : w.heap[gp]? = some (.cells cs 86 (0, 0))) (hn : 0 < n) (hn2 : n ≤ 64) (hc : 16 * n ≤ cs.size) (h1 : ∀ i u, i < 16 * n → cs[i]? = some u → u.oneCell' = true) :
    Calls Tryd.prog 36 #[setP g] w fun e w' => ∃ g' gp' cap cur, e = .returned (setP g') ∧ w.heap.size ≤ g' ∧ w.heap.size ≤ gp' ∧ g' ≠ gp' ∧ w'.heap[g']? = some (setB f r (some ⟨gp', 0, none⟩) n cap) ∧ w'.heap[gp']? = some (.cells cur 86 (0, 0)) ∧ (∀ i, i < 16 * n → cur[i]? = cs[i]?) ∧ n ≤ cap ∧ Below w.heap.size w w' := by
  have c0 := setB_first h0; have c1 := setB_room h0; have c2 := setB_pages h0
  have hS : CopyS w g gp f r n c cs w.drew := ⟨h0, h, (Below.refl _ _).drew⟩
  have H := Lib.hid h; have H0 := Lib.hid h0; have H1 := Lib.hid h1
  clear h h0 h1
  have U : setP g = .pointer (some ⟨g, 0, none⟩) := rfl
  rw [U]
  go_enter Tryd.func36, Tryd.ntmps36
  go_wp2_with fail
  go_region_held3 (fun v => v.cell? ⟨g, 0, none⟩ = some (.int .i64 f) ∧ v.cell? ⟨g, 1, none⟩ = some (.int .i64 r) ∧ v.cell? ⟨g, 2, none⟩ = some (.slice (some ⟨gp, 0, none⟩) n c) ∧ CopyS w g gp f r n c cs v)
    (first | exact copyS_all hS | exact copyS_all hS1 | exact copyS_all (copyS_below hS1 ((Below.refl _ _).alloc (Nat.le_refl _) _)))
    (first | (go_at_call 63; refine (clone_pages _ gp n c cs ?_ hn hn2 hc H1.out).mono ?_; (exact hS.2.1); rintro e w1 ⟨gp', cap, cur, rfl, k1, k2, k3, k4, k5⟩; have hS1 := copyS_below hS k5))
  go_wp2_with fail
  go_ret
  refine ⟨w1.heap.size, gp', cap, cur, rfl, ?_, k1, ?_, World.alloc_heap_new _ _, (Below.heap_alloc _ _ gp' (blk_lt k2)).trans k2, k3, k4, ?_⟩
  · have := k5.size; exact this
  · have := blk_lt k2; omega
  · exact hS1.2.2.alloc (by have := k5.size; exact this) _
theorem SetAt.drawn {w : World} {g gp : Nat} {f r : Int} {M : Int → Bool} (h : SetAt w g gp f r M) (m : Nat) : SetAt (w.drewN m) g gp f r M := h.below (Drawn0.below ⟨⟨m, rfl⟩⟩)
/-- a copy: new blocks, the same values -/
theorem SetAt.copy {w : World} {g gp : Nat} {f r : Int} {M : Int → Bool} (h : SetAt w g gp f r M) :
    Calls Tryd.prog 36 #[setP g] w fun e w' => ∃ g' gp', e = .returned (setP g') ∧ w.heap.size ≤ g' ∧ w.heap.size ≤ gp' ∧ SetAt w' g' gp' f r M ∧ Below w.heap.size w w' := by
  obtain ⟨n, c, ws, cs, h1, h2, h3, h4, h5, h6⟩ := h
  have hr := h6.room
  have hsz : 16 * n ≤ cs.size := by
    have := (Array.getElem?_eq_some_iff.1 (h4 (16 * n - 1) (by omega))).1
    omega
  refine (copy_raw w g gp n c f r cs h1 h2 (by omega) (by omega) hsz (fun i u hi hu => ?_)).mono ?_
  · rw [h4 i hi] at hu
    cases hu
    rfl
  · rintro e w' ⟨g', gp', cap, cur, rfl, k1, k2, k3, k4, k5, k6, k7, k8⟩
    exact ⟨g', gp', rfl, k1, k2, ⟨n, cap, ws, cur, k4, k5, k3, fun i hi => (k6 i hi).trans (h4 i hi), k7, h6⟩, k8⟩
set_option maxHeartbeats 4000000 in
theorem SetAt.min {w : World} {g gp : Nat} {f r : Int} {M : Int → Bool} (h : SetAt w g gp f r M) (hL : TabLaid w) :
    Calls Tryd.prog 32 #[setP g] w fun e w' => (∃ n ok, e = .returned (.tuple #[.int .i64 n, .bool ok]) ∧ IsNext M f n ok) ∧ Drawn0 w w' := by
  have hs := h
  obtain ⟨n, c, ws, cs, h1, h2, h3, h4, h5, h6⟩ := h
  have hr := h6.room
  have H := Lib.hid h1; have HS := Lib.hid hs; have HL := Lib.hid hL
  clear h1 h2 h3 h4 h5 h6 hs hL
  have U : setP g = .pointer (some ⟨g, 0, none⟩) := rfl
  rw [U]
  go_enter Tryd.func32, Tryd.ntmps32
  go_wp2_with fail
  refine (bits_First.calls g f r _ n c _ H.out).mono ?_
  rintro e w1 ⟨rfl, ⟨⟨m, rfl⟩⟩⟩
  go_wp2_with fail
  refine (SetAt.next (HS.out.drawn m) (tab_drawn HL.out m) f (by omega)).mono ?_
  rintro e w1 ⟨⟨x, ok, rfl, hx⟩, ⟨⟨m1, rfl⟩⟩⟩
  go_wp2_with fail
  go_ret2
  exact ⟨⟨x, ok, rfl, hx⟩, ⟨⟨_, rfl⟩⟩⟩

end Go.Proofs.YtfkbkcdiajjljaaDoor.PBitsSteps

namespace Go.Proofs.YtfkbkcdiajjljaaDoor.PBitsSteps
open Go.RowKit Go.Proofs.YtfkbkcdiajjljaaDoorW.PrintWords Go.Proofs.YtfkbkcdiajjljaaDoorW.PrintLast Go.Proofs.YtfkbkcdiajjljaaDoorW.PrintMore
set_option linter.unusedVariables false
set_option linter.unusedSimpArgs false
/-! ### Each: the values, rising -/
theorem boxed_below {W W' : World} {B : Nat} {t : TypeId} {v : Value} (h : Boxed W B t v) (hb : Below W.heap.size W W') : Boxed W' B t v := (hb.block B h.lt).trans h
set_option maxHeartbeats 4000000 in
theorem SetAt.each {w : World} {g gp : Nat} {f r : Int} {M : Int → Bool} (h : SetAt w g gp f r M) :
    Calls Tryd.prog 34 #[setP g] w fun e w' => ∃ B g' gp', e = .returned (.func (.func 61) #[] #[.pointer (some ⟨B, 0, none⟩)]) ∧ (w.heap.size ≤ B ∧ w.heap.size ≤ g' ∧ w.heap.size ≤ gp') ∧ Boxed w' B 23 (setP g') ∧ SetAt w' g' gp' f r M ∧ Below w.heap.size w w' := by
  have hmf : ∀ (fn : Fn) (first cap : Array Value) (w : World), (Instr.makeFunc fn first cap).run Tryd.prog w = .ok (.func fn first cap) w := fun _ _ _ _ => rfl
  have H := Lib.hid h
  clear h
  have U : setP g = .pointer (some ⟨g, 0, none⟩) := rfl
  go_enter Tryd.func34, Tryd.ntmps34
  go_wp2_with fail
  refine (H.out.copy).mono ?_
  rintro e w1 ⟨g', gp', rfl, k1, k2, k3, k4⟩
  have U' : setP g' = .pointer (some ⟨g', 0, none⟩) := rfl
  rw [U']
  go_wp2_with fail
  go_ret
  refine ⟨w1.heap.size, g', gp', rfl, ⟨k4.size, k1, k2⟩, ?_, ?_, ?_⟩
  · exact Boxed.new _ _ _
  · exact k3.below ((Below.refl _ _).alloc (Nat.le_refl _) _)
  · exact k4.alloc k4.size _
/-- the values up to a place -/
def valsTo (M : Int → Bool) (f : Int) (k : Nat) : List Int := ((List.range k).map (fun (i : Nat) => f + (i : Int))).filter M
theorem valsTo_succ (M : Int → Bool) (f : Int) (k : Nat) : valsTo M f (k + 1) = valsTo M f k ++ (if M (f + k) then [f + k] else []) := by
  unfold valsTo
  rw [List.range_succ, List.map_append, List.filter_append]
  congr 1
  simp only [List.map_cons, List.map_nil, List.filter_cons, List.filter_nil]
theorem valsTo_skip (M : Int → Bool) (f : Int) (k : Nat) : ∀ d : Nat, (∀ x, f + k ≤ x → x < f + k + d → M x = false) → valsTo M f (k + d) = valsTo M f k
  | 0, _ => rfl
  | d + 1, h => by
    rw [show k + (d + 1) = (k + d) + 1 by omega, valsTo_succ, valsTo_skip M f k d (fun x h1 h2 => h x h1 (by omega)), h (f + (k + d : Nat)) (by omega) (by omega)]
    simp
theorem valsTo_len (M : Int → Bool) (f : Int) (k : Nat) : (valsTo M f k).length ≤ k := by
  unfold valsTo
  have := List.length_filter_le M ((List.range k).map (fun (i : Nat) => f + (i : Int)))
  simpa using this
def vals (M : Int → Bool) (f r : Int) : List Int := valsTo M f r.toNat
def boolOf : Value → Bool | .bool b => b | _ => false
def eachMsr (f r : Int) (v ok : Value) : Nat := if boolOf ok then (f + r - intOf v).toNat + 1 else 0
/-- a value of the set -/
abbrev Val (M : Int → Bool) := { x : Int // M x = true }
def keepsB (bs : List Nat) (W W' : World) : Prop := ∀ b ∈ bs, W'.heap[b]? = W.heap[b]?
theorem grown_drawn (W : World) (n : Nat) (row : Option Nat) : W.grownBy (W.drewN n) row := ⟨rfl, rfl, rfl, Nat.le_refl _, fun _ _ _ => rfl⟩
theorem tab_keep {W W' : World} (h : TabLaid W) (e : W'.heap[0]? = W.heap[0]?) : TabLaid W' := fun t ht => (World.cell?_of_block (a := ⟨0, t, none⟩) e).trans (h t ht)
theorem valsTo_next (M : Int → Bool) (f : Int) (k : Nat) (x : Int) (hx : f + k ≤ x) (hm : M x = true) (h : ∀ y, f + k ≤ y → y < x → M y = false) : valsTo M f ((x - f).toNat + 1) = valsTo M f k ++ [x] := by
  obtain ⟨d, hd⟩ : ∃ d : Nat, x = f + k + d := ⟨(x - f - k).toNat, by omega⟩
  rw [show (x - f).toNat = k + d by omega, valsTo_succ, valsTo_skip M f k d (fun y h1 h2 => h y h1 (by omega))]
  rw [show f + ((k + d : Nat) : Int) = x by omega, if_pos hm]
theorem valsTo_end (M : Int → Bool) (f r : Int) (k : Nat) (hk : (k : Int) ≤ r) (h : ∀ y, f + k ≤ y → M y = false) : valsTo M f k = vals M f r := by
  unfold vals
  obtain ⟨d, hd⟩ : ∃ d : Nat, r.toNat = k + d := ⟨r.toNat - k, by omega⟩
  rw [hd, valsTo_skip M f k d (fun y h1 _ => h y h1)]
theorem valsTo_prefix (M : Int → Bool) (f : Int) (k : Nat) : ∀ d : Nat, valsTo M f k <+: valsTo M f (k + d)
  | 0 => List.prefix_refl _
  | d + 1 => by
    rw [show k + (d + 1) = (k + d) + 1 by omega, valsTo_succ]
    exact (valsTo_prefix M f k d).trans (List.prefix_append _ _)
theorem valsTo_pre (M : Int → Bool) (f r : Int) (k : Nat) (hk : (k : Int) ≤ r) : valsTo M f k <+: vals M f r := by
  unfold vals
  obtain ⟨d, hd⟩ : ∃ d : Nat, r.toNat = k + d := ⟨r.toNat - k, by omega⟩
  rw [hd]
  exact valsTo_prefix M f k d
theorem eachMsr_lt (M : Int → Bool) (f r x y : Int) (ok : Bool) (hx : x < f + r) (h : IsNext M (x + 1) y ok) : eachMsr f r (.int .i64 y) (.bool ok) < eachMsr f r (.int .i64 x) (.bool true) := by
  have e1 : ∀ z, eachMsr f r (.int .i64 z) (.bool true) = (f + r - z).toNat + 1 := fun _ => rfl
  have e2 : ∀ z, eachMsr f r (.int .i64 z) (.bool false) = 0 := fun _ => rfl
  rcases h with ⟨rfl, h1, _⟩ | ⟨rfl, _⟩
  · rw [e1, e1]; omega
  · rw [e1, e2]; omega

attribute [local go_sem] Oper.semAt_some
open Go.Shelf in
set_option maxHeartbeats 4000000 in
theorem each_stops (n : Nat) (hn : 1 ≤ n) (B g gp : Nat) (f r : Int) (M : Int → Bool) (w : World) (hc : Boxed w B 23 (setP g)) (hs : SetAt w g gp f r M) (hL : TabLaid w) (hz : 0 < w.heap.size) (hr : 0 < r ∧ r ≤ 65536 ∧ -1000000 ≤ f ∧ f + r ≤ 1000001) (hin : ∀ v, M v = true → f ≤ v ∧ v < f + r) :
    SeqStopsK Fence.wide n Tryd.prog 61 #[.pointer (some ⟨B, 0, none⟩)] (fun x : Val M => #[.int .i64 x.1]) (keepsB [0, B, g, gp])
      (fun xs => xs.map (·.1) = vals M f r) (fun pre => pre.map (·.1) <+: vals M f r) r.toNat w := fun l J Jx W hW hJ hJx hY h0 => by
  refine callsIn_of_wp Tryd.func61 rfl trivial ?_ rfl
  simp only [Tryd.ntmps61, List.size_toArray, List.length_cons, List.length_nil, Nat.reduceAdd, Nat.reduceSub, Array.replicate_succ, Array.replicate_zero, List.push_toArray, List.append_toArray, List.nil_append, List.cons_append]
  have hbW := boxed_below hc hW
  have hsW := hs.below hW
  have hLW : TabLaid W := tab_keep hL (hW.block 0 hz)
  have hcW := hbW.cell
  have HS := Lib.hid hsW; have HL := Lib.hid hLW; have HB := Lib.hid hbW; have HJ := Lib.hid hJ; have HY := Lib.hid hY
  have HIN := Lib.hid hin
  clear hc hs hL hW hbW hsW hLW hJ hJx hY hin
  gi_wp2_with (refine ⟨trivial, ?_⟩; refine (callsIn_wide.2 (HS.out.min HL.out)).mono ?_; rintro e w1 ⟨⟨x0, ok0, rfl, hx0⟩, ⟨⟨m0, rfl⟩⟩⟩)
  gi_loopw [3, 4] (fun i o wr => ∃ (x : Int) (ok : Bool) (k : Nat) (pre : List (Val M)), i = .int .i64 x ∧ o = .bool ok ∧ (k : Int) ≤ r ∧ IsNext M (f + k) x ok ∧ pre.map (·.1) = valsTo M f k ∧ J pre wr ∧ wr.cell? ⟨B, 0, none⟩ = some (setP g) ∧ Hid (SetAt wr g gp f r M) ∧ Hid (TabLaid wr) ∧ Hid (Boxed wr B 23 (setP g)))
    (fun i o _ => eachMsr f r i o)
  case atStart => exact ⟨x0, ok0, 0, [], rfl, rfl, by omega, by rw [show f + ((0 : Nat) : Int) = f by omega]; exact hx0, rfl, HJ.out [] W _ none h0 (grown_drawn W m0 none) (fun r h => by cases h), (boxed_below HB.out (Drawn0.below ⟨⟨m0, rfl⟩⟩)).cell, Lib.hid (HS.out.drawn m0), Lib.hid (tab_drawn HL.out m0), Lib.hid (boxed_below HB.out (Drawn0.below ⟨⟨m0, rfl⟩⟩))⟩
  case round =>
    obtain ⟨x, ok, k, pre, rfl, rfl, hk, hx, hpre, hJp, hcp, hsp, hlp, hbp⟩ := hrel
    cases ok with
    | true =>
      rcases hx with ⟨_, hx1, hx2, hx3⟩ | ⟨h, _⟩
      rotate_left
      · cases h
      have hxr := HIN.out x hx2
      have hplen : pre.length < r.toNat := by
        have h1 := valsTo_len M f k
        rw [← hpre, List.length_map] at h1
        omega
      obtain ⟨fn, tmps, assign, body, hy, hR⟩ := HY.out pre ⟨x, hx2⟩ wr hJp hplen
      have HX3 := Lib.hid hx3
      have HPRE := Lib.hid hpre
      clear hx3 hpre
      dsimp only at hy
      gi_wp2
      refine hR.mono ?_
      rintro e W' (⟨rfl, hJ', hk'⟩ | ⟨rfl, hJx'⟩)
      · have hb' : Boxed W' B 23 (setP g) := Eq.trans (hk' B (by simp)) hbp.out
        have hs' : SetAt W' g gp f r M := hsp.out.keep (hk' g (by simp)) (hk' gp (by simp))
        have hl' : TabLaid W' := tab_keep hlp.out (hk' 0 (by simp))
        have hc' := hb'.cell
        have HB' := Lib.hid hb'; have HS' := Lib.hid hs'; have HL' := Lib.hid hl'
        clear hk' hb' hs' hl'
        have hvn := valsTo_next M f k x hx1 hx2 HX3.out
        rw [← HPRE.out] at hvn
        have HVN := Lib.hid hvn; clear hvn
        gi_wp2_with (refine ⟨trivial, ?_⟩; refine (callsIn_wide.2 (HS'.out.next HL'.out (x + 1) (by omega))).mono ?_; rintro e w1 ⟨⟨y, ok1, rfl, hy1⟩, ⟨⟨m1, rfl⟩⟩⟩)
        have HY1 := Lib.hid hy1; clear hy1
        go_roundw
        case rel => exact ⟨y, ok1, (x - f).toNat + 1, pre ++ [⟨x, hx2⟩], rfl, rfl, by omega, by rw [show f + (((x - f).toNat + 1 : Nat) : Int) = x + 1 by omega]; exact HY1.out, by rw [HVN.out]; simp, HJ.out _ _ _ none hJ' (grown_drawn W' m1 none) (fun r h => by cases h), (boxed_below HB'.out (Drawn0.below ⟨⟨m1, rfl⟩⟩)).cell, Lib.hid (HS'.out.drawn m1), Lib.hid (tab_drawn HL'.out m1), Lib.hid (boxed_below HB'.out (Drawn0.below ⟨⟨m1, rfl⟩⟩))⟩
        case measure => exact eachMsr_lt M f r x y ok1 hxr.2 HY1.out
      · gi_wp2
        refine bodyPost_ret (results_none rfl _ _ _) rfl ?_
        refine ⟨⟨_, rfl⟩, .inr ⟨_, ?_, hJx'⟩⟩
        have hvn := valsTo_next M f k x hx1 hx2 HX3.out
        rw [← HPRE.out] at hvn
        have := valsTo_pre M f r ((x - f).toNat + 1) (by omega)
        rw [hvn] at this
        simpa using this
    | false =>
      rcases hx with ⟨h, _⟩ | ⟨_, _, hx3⟩
      · cases h
      gi_wp2
      go_end0
      exact ⟨⟨_, rfl⟩, .inl ⟨_, hpre.trans (valsTo_end M f r k hk hx3), hJp⟩⟩

end Go.Proofs.YtfkbkcdiajjljaaDoor.PBitsSteps

namespace Go.Proofs.YtfkbkcdiajjljaaDoor.PBitsSteps
open Go.RowKit Go.Proofs.YtfkbkcdiajjljaaDoorW.PrintWords Go.Proofs.YtfkbkcdiajjljaaDoorW.PrintLast Go.Proofs.YtfkbkcdiajjljaaDoorW.PrintMore
set_option linter.unusedVariables false
set_option linter.unusedSimpArgs false
/-! ### Ranges -/
def rgStep (out : List S71) (v : Int) : List S71 :=
  match out.getLast? with
  | some s => if s.f1 + 1 = v then out.dropLast ++ [⟨s.f0, v⟩] else out ++ [⟨v, v⟩]
  | none => [⟨v, v⟩]
theorem rgStep_nil (v : Int) : rgStep [] v = [⟨v, v⟩] := rfl
theorem rgStep_hit (ys : List S71) (s : S71) (v : Int) (h : s.f1 + 1 = v) : rgStep (ys ++ [s]) v = ys ++ [⟨s.f0, v⟩] := by
  simp [rgStep, h]
theorem rgStep_miss (ys : List S71) (s : S71) (v : Int) (h : ¬ s.f1 + 1 = v) : rgStep (ys ++ [s]) v = ys ++ [s] ++ [⟨v, v⟩] := by
  simp [rgStep, h]
def rg (l : List Int) : List S71 := l.foldl rgStep []
theorem rg_snoc (l : List Int) (v : Int) : rg (l ++ [v]) = rgStep (rg l) v := by simp [rg]
theorem snoc_cases {α : Type} (l : List α) : l = [] ∨ ∃ ys s, l = ys ++ [s] := by
  rcases List.eq_nil_or_concat l with h | ⟨ys, s, h⟩
  · exact .inl h
  · exact .inr ⟨ys, s, by rw [h, List.concat_eq_append]⟩
theorem rgStep_props (out : List S71) (v : Int) (P : S71 → Prop) (h : ∀ s ∈ out, P s) (hv : P ⟨v, v⟩) (hx : ∀ s, P s → P ⟨s.f0, v⟩) : (∀ s ∈ rgStep out v, P s) ∧ (rgStep out v).length ≤ out.length + 1 := by
  rcases snoc_cases out with rfl | ⟨ys, s, rfl⟩
  · rw [rgStep_nil]
    exact ⟨fun s hs => by simp at hs; subst hs; exact hv, by simp⟩
  · have hs := h s (by simp)
    have hys : ∀ s ∈ ys, P s := fun s hs => h s (by simp [hs])
    by_cases e : s.f1 + 1 = v
    · rw [rgStep_hit ys s v e]
      refine ⟨fun t ht => ?_, by simp⟩
      simp only [List.mem_append, List.mem_singleton] at ht
      rcases ht with ht | rfl
      · exact hys t ht
      · exact hx s hs
    · rw [rgStep_miss ys s v e]
      refine ⟨fun t ht => ?_, by simp⟩
      simp only [List.mem_append, List.mem_singleton] at ht
      rcases ht with (ht | rfl) | rfl
      · exact hys t ht
      · exact hs
      · exact hv
theorem rg_props (P : S71 → Prop) (Q : Int → Prop) (hv : ∀ v, Q v → P ⟨v, v⟩) (hx : ∀ s v, P s → Q v → P ⟨s.f0, v⟩) : ∀ l : List Int, (∀ v ∈ l, Q v) → (∀ s ∈ rg l, P s) ∧ (rg l).length ≤ l.length := by
  intro l
  obtain ⟨r, rfl⟩ : ∃ r, l = r.reverse := ⟨l.reverse, by simp⟩
  induction r with
  | nil => intro _; exact ⟨fun s hs => by simp [rg] at hs, by simp [rg]⟩
  | cons v r ih =>
    intro h
    rw [List.reverse_cons] at h ⊢
    have ih := ih (fun v hv => h v (by simp at hv; simp [hv]))
    have hq : Q v := h v (by simp)
    rw [rg_snoc]
    have := rgStep_props (rg r.reverse) v P ih.1 (hv v hq) (fun s hs => hx s v hs hq)
    refine ⟨this.1, Nat.le_trans this.2 ?_⟩
    simp only [List.length_append, List.length_cons, List.length_nil]
    omega
def cells71 (s : S71) : List Value := [.int .i64 s.f0, .int .i64 s.f1]
def flat71 (xs : List S71) : List Value := xs.flatMap cells71
theorem flat71_len (xs : List S71) : (flat71 xs).length = xs.length * 2 := by
  induction xs with
  | nil => rfl
  | cons s xs ih =>
    have : flat71 (s :: xs) = cells71 s ++ flat71 xs := by simp [flat71]
    rw [this, List.length_append, ih, List.length_cons]
    show 2 + _ = _
    omega
theorem flat71_snoc (ys : List S71) (s : S71) : flat71 (ys ++ [s]) = flat71 ys ++ cells71 s := by simp [flat71]
theorem flat71_last (ys : List S71) (s : S71) : (flat71 (ys ++ [s]))[ys.length * 2 + 1]? = some (.int .i64 s.f1) := by
  rw [flat71_snoc, List.getElem?_append_right (by rw [flat71_len]; omega), flat71_len, Nat.add_sub_cancel_left]
  rfl
theorem flat71_set (ys : List S71) (s : S71) (v : Int) : (flat71 (ys ++ [s])).set (ys.length * 2 + 1) (.int .i64 v) = flat71 (ys ++ [⟨s.f0, v⟩]) := by
  rw [flat71_snoc, flat71_snoc, List.set_append_right _ _ (by rw [flat71_len]; omega), flat71_len, Nat.add_sub_cancel_left]
  rfl
theorem flat71_reps (w : World) (xs : List S71) : Reps (k71.K w) 2 xs (flat71 xs) := by
  obtain ⟨r, rfl⟩ : ∃ r, xs = r.reverse := ⟨xs.reverse, by simp⟩
  induction r with
  | nil => exact Reps.none _ _
  | cons s r ih =>
    rw [List.reverse_cons, flat71_snoc]
    exact ih.snoc (k71_mk w s) rfl
theorem row71 {w : World} {base n : Nat} {v : Value} {xs : List S71} (h : w.ownsRow base 71 2 v n (flat71 xs)) (hn : xs.length = n) : ∃ A c, v = .slice A n c ∧ Kd.C k71 w A n xs :=
  own_reads_row h (flat71_reps w xs) hn
theorem row_form {w : World} {base e size n : Nat} {v : Value} {xs : List Value} (h : w.ownsRow base e size v n xs) : ∃ A c, v = .slice A n c := by
  rcases h.2 with ⟨rfl, rfl⟩ | ⟨g, cap, cur, rfl, _⟩
  · exact ⟨_, _, rfl⟩
  · exact ⟨_, _, rfl⟩

theorem keepsB_grown {bs : List Nat} {W W' : World} {row : Option Nat} (hbs : ∀ b ∈ bs, b < W.heap.size) (hg : W.grownBy W' row) (hr : ∀ r, row = some r → r ∉ bs) : keepsB bs W W' :=
  fun b hb => hg.block b (hbs b hb) (fun e => hr b e.symm hb)
theorem keepsB_trans {bs : List Nat} {A B C : World} (h : keepsB bs A B) (k : keepsB bs B C) : keepsB bs A C := fun b hb => (k b hb).trans (h b hb)
theorem ownFrom_keepsB {β : Type} (bs : List Nat) (W0 : World) (hbs : ∀ b ∈ bs, b < W0.heap.size) : OwnFrom W0.heap.size (fun (_ : β) W => keepsB bs W0 W) := by
  intro s W W' row hs hg hr b hb
  have hlt : b < W.heap.size := by
    have h1 := hs b hb
    rw [Array.getElem?_eq_getElem (hbs b hb)] at h1
    exact (Array.getElem?_eq_some_iff.1 h1).1
  refine (hg.block b hlt (fun e => ?_)).trans (hs b hb)
  have := (hr b e.symm).1
  have := hbs b hb
  omega
theorem ownFrom_size {β : Type} (n : Nat) (W0 : World) : OwnFrom n (fun (_ : β) (W : World) => W0.heap.size ≤ W.heap.size) := fun _ _ _ _ hs hg _ => Nat.le_trans hs hg.size
theorem row_out {W0 W : World} {e size k b : Nat} {v : Value} {xs : List Value} (h : W.ownsRow W0.heap.size e size v k xs) (hb : b < W0.heap.size) : some b ≠ v.ownBlock := by
  intro e
  have := own_base h b e.symm
  omega
theorem out_put {bs : List Nat} {W0 W w1 : World} {n0 B : Nat} {v v' : Value} {k m : Nat} {xs ys : List Value} {tmp : Obj}
    (hv : Boxed W B 22 v) (hrow : W.ownsRow W0.heap.size 71 2 v k xs) (hsz : W0.heap.size ≤ W.heap.size) (hn0 : n0 ≤ W0.heap.size) (hB : n0 ≤ B) (hbs : ∀ b ∈ bs, b < W0.heap.size ∧ b ≠ B)
    (hown' : w1.ownsRow W0.heap.size 71 2 v' m ys) (hgrow : (W.alloc tmp).grownBy w1 v.ownBlock) :
    Boxed w1 B 22 v ∧ Boxed (w1.setCell ⟨B, 0, none⟩ v') B 22 v' ∧ (w1.setCell ⟨B, 0, none⟩ v').ownsRow W0.heap.size 71 2 v' m ys ∧ KeepsOthers W (w1.setCell ⟨B, 0, none⟩ v') ∧ Below n0 W (w1.setCell ⟨B, 0, none⟩ v') ∧ keepsB bs W (w1.setCell ⟨B, 0, none⟩ v') ∧ W0.heap.size ≤ (w1.setCell ⟨B, 0, none⟩ v').heap.size := by
  obtain ⟨a1, a2, a3, a4, a5⟩ := hv.appended (t := 22) (e := 71) (n₀ := n0) (by decide) (own_weaken hrow hn0) (by omega) hB (own_weaken hown' hn0) hgrow
  refine ⟨a1, a2, hown'.kept (grownBy_setCell' w1 B v') (.inr (a1.not_row (by decide) hown').symm), a4, a5, ?_, Nat.le_trans hsz a4.size⟩
  intro b hb
  obtain ⟨h1, h2⟩ := hbs b hb
  refine (Below.heap_setCell _ _ _ b h2).trans ((hgrow.block b (by simp; omega) (row_out hrow h1)).trans (Below.heap_alloc _ _ b (by omega)))
theorem out_last {bs : List Nat} {W0 W : World} {n0 B g cap k : Nat} {xs : List Value} (hv : Boxed W B 22 (.slice (some ⟨g, 0, none⟩) k cap)) (hrow : W.ownsRow W0.heap.size 71 2 (.slice (some ⟨g, 0, none⟩) k cap) k xs) (hn0 : n0 ≤ W0.heap.size) (hbs : ∀ b ∈ bs, b < W0.heap.size) (j : Nat) (u : Value) :
    Boxed (W.setCell ⟨g, j, none⟩ u) B 22 (.slice (some ⟨g, 0, none⟩) k cap) ∧ (W.setCell ⟨g, j, none⟩ u).ownsRow W0.heap.size 71 2 (.slice (some ⟨g, 0, none⟩) k cap) k (xs.set j u) ∧ KeepsOthers W (W.setCell ⟨g, j, none⟩ u) ∧ Below n0 W (W.setCell ⟨g, j, none⟩ u) ∧ keepsB bs W (W.setCell ⟨g, j, none⟩ u) := by
  have hg : W0.heap.size ≤ g := own_base hrow g rfl
  have hne := hv.not_row (by decide) hrow
  obtain ⟨b1, b2⟩ := hrow.stored j u
  refine ⟨hv.kept b2 (fun e => hne (by rw [e]; rfl)), b1, KeepsOthers.setCell _ _ _, (Below.refl n0 W).setCell (p := ⟨g, j, none⟩) (by show n0 ≤ g; omega) _, ?_⟩
  intro b hb
  have := hbs b hb
  exact Below.heap_setCell _ _ _ b (by show b ≠ g; omega)
theorem Tryd.info71 : (Tryd.prog.info? 71).map (fun i => (i.zero, i.size, i.bytes)) = some (some (.agg #[.int .i64 0, .int .i64 0]), 2, 16) := by kernel_rfl
theorem cell_pair_new (w : World) (x y : Value) (t : TypeId) : ∀ j u, [x, y][j]? = some u → (w.alloc (.cells #[x, y] t)).cell? ((⟨w.heap.size, 0, none⟩ : Addr).add j) = some u := by
  intro j u hj
  rw [add_zero_off]
  refine (blk_cell (World.alloc_heap_new w (.cells #[x, y] t)) j).trans ?_
  rw [← hj]
  simp
def valL {M : Int → Bool} (pre : List (Val M)) : List Int := pre.map (·.1)
theorem valL_snoc {M : Int → Bool} (pre : List (Val M)) (x : Val M) : valL (pre ++ [x]) = valL pre ++ [x.1] := by simp [valL]
def OutAt (W : World) (B n1 : Nat) (out : List S71) : Prop := ∃ v, Boxed W B 22 v ∧ W.ownsRow n1 71 2 v out.length (flat71 out)
theorem ownFrom_out {β : Type} (k B n1 : Nat) (F : β → List S71) : OwnFrom k (fun s W => OutAt W B n1 (F s)) := by
  intro s W W' row ⟨v, h1, h2⟩ hg hr
  obtain ⟨v, a, b, _⟩ := (Own.from (holdsRow_own n1 B 22 71 2 (fun s => (F s).length) (fun s => flat71 (F s)) (fun _ _ => True)) k) s W W' row ⟨v, h1, h2, trivial⟩ hg hr
  exact ⟨v, a, b⟩

end Go.Proofs.YtfkbkcdiajjljaaDoor.PBitsSteps

namespace Go.Proofs.YtfkbkcdiajjljaaDoor.PBitsSteps
open Go.RowKit Go.Proofs.YtfkbkcdiajjljaaDoorW.PrintWords Go.Proofs.YtfkbkcdiajjljaaDoorW.PrintLast Go.Proofs.YtfkbkcdiajjljaaDoorW.PrintMore
set_option linter.unusedVariables false
set_option linter.unusedSimpArgs false
attribute [local go_sem] Oper.semAt_some
open Go.Shelf in
set_option maxRecDepth 100000 in
set_option maxHeartbeats 4000000 in
theorem SetAt.ranges {w : World} {g gp : Nat} {f r : Int} {M : Int → Bool} (h : SetAt w g gp f r M) (hL : TabLaid w) :
    Calls Tryd.prog 13 #[setP g] w fun e w' => (4096 < (rg (vals M f r)).length ∧ e = .returned (.tuple #[.slice none 0 0, .int .i64 4]) ∨ (rg (vals M f r)).length ≤ 4096 ∧ ∃ v, e = .returned (.tuple #[v, .int .i64 0]) ∧ w'.ownsRow w.heap.size 71 2 v (rg (vals M f r)).length (flat71 (rg (vals M f r)))) ∧ Below w.heap.size w w' := by
  have hlt := h.lt
  obtain ⟨i0, hi, hz0, hz1, hz2⟩ := info_parts Tryd.info71
  have hs0 := h
  obtain ⟨n, c, ws, cs, h1, h2, h3, h4, h5, h6⟩ := h
  have hr := h6.room
  have hin := h6.inn
  have HS := Lib.hid hs0; have HL := Lib.hid hL; have HIN := Lib.hid hin
  clear h1 h2 h3 h4 h5 h6 hs0 hL hin
  refine (callsIn_wide (n := 5)).1 ?_
  refine callsIn_of_wp_marks Tryd.func13 rfl trivial ?_ rfl
  simp only [Tryd.ntmps13, List.size_toArray, List.length_cons, List.length_nil, Nat.reduceAdd, Nat.reduceSub, Array.replicate_succ, Array.replicate_zero, List.push_toArray, List.append_toArray, List.nil_append, List.cons_append]
  refine wpIn_wide.2 ?_
  have U : setP g = .pointer (some ⟨g, 0, none⟩) := rfl
  rw [U]
  go_wp2_with fail
  rw [← U]
  have hB1 : Below w.heap.size w (w.alloc (.cells #[.slice none 0 0] 22)) := (Below.refl _ w).alloc (Nat.le_refl _) _
  have bO := Boxed.new w 22 (.slice none 0 0)
  refine ((HS.out.below hB1).each).mono ?_
  rintro e W0 ⟨B, gs, gp', rfl, ⟨k1, k2, k3⟩, k4, k5, k6⟩
  go_wp2_with fail
  have hsz1 : (w.alloc (.cells #[.slice none 0 0] 22)).heap.size = w.heap.size + 1 := by simp
  rw [hsz1] at k1 k2 k3
  have hB2 : Below w.heap.size w W0 := hB1.trans (k6.mono (by rw [hsz1]; omega))
  have hbO : Boxed W0 w.heap.size 22 (.slice none 0 0) := boxed_below bO k6
  have hz : 0 < w.heap.size := World.block_lt_of_cell? w _ (HL.out 0 (by decide))
  have hL0 : TabLaid W0 := tab_keep HL.out (hB2.block 0 hz)
  have hltB := k4.lt
  have hlt' := k5.lt
  have hbs : ∀ b ∈ [0, B, gs, gp'], b < W0.heap.size ∧ b ≠ w.heap.size := by
    intro b hb
    simp only [List.mem_cons, List.not_mem_nil, or_false] at hb
    omega
  have hn1 : w.heap.size ≤ W0.heap.size := hB2.size
  have HBO := Lib.hid hbO; have HB2 := Lib.hid hB2; have HBS := Lib.hid hbs; have HBS1 := Lib.hid (fun b hb => (hbs b hb).1)
  have hst := each_stops (5 - 1) (by decide) B gs gp' f r M W0 k4 k5 hL0 (by omega) ⟨hr.2.1, hr.2.2.1, hr.2.2.2⟩ HIN.out
  clear k4 k5 k6 hB1 bO hbO hB2 hbs hL0 hltB hlt'
  refine (wpIn_wide (n := 5)).1 ?_
  refine wpIn_rangeFunc_ownF rfl (by decide) (gf := 61) (lb := #[.pointer (some ⟨B, 0, none⟩)]) rfl trivial (enters_of Tryd.func61 (by kernel_rfl) rfl)
    hst (fun h k => keepsB_trans h k)
    (fun W l o o' hl ho hoc _ b hb => World.putObj_heap_other (by have := HBS1.out b hb; omega))
    (Below.refl _ _) (fun _ => rfl)
    (fun (pre : List (Val M)) W => ((OutAt W w.heap.size W0.heap.size (rg (valL pre)) ∧ keepsB [0, B, gs, gp'] W0 W) ∧ W0.heap.size ≤ W.heap.size) ∧ Below w.heap.size w W)
    (fun _ _ _ => False)
    (OwnFrom.and (OwnFrom.and (OwnFrom.and (ownFrom_out _ _ _ (fun pre : List (Val M) => rg (valL pre))) (ownFrom_keepsB _ _ HBS1.out)) (ownFrom_size _ _)) (ownFrom_below (Nat.le_refl _) hn1))
    (fun _ _ _ _ _ hs _ _ => hs)
    ⟨⟨⟨⟨_, HBO.out, World.ownsRow_nil _ _ _ _⟩, fun b _ => rfl⟩, Nat.le_refl _⟩, HB2.out⟩
    (fun x => { tmps := #[.pointer (some ⟨g, 0, none⟩), undef, .slice none 0 0, .int .i64 0, .pointer (some ⟨w.heap.size, 0, none⟩), .int .i64 x.1, undef, .pointer (some ⟨g, 0, none⟩), .bool false, .pointer (some ⟨g, 0, none⟩), .func (.func 61) #[] #[.pointer (some ⟨B, 0, none⟩)], .int .i64 x.1, undef, undef, undef, undef, undef, undef, undef, undef, undef, undef, undef, undef, undef, undef, undef, undef, undef, undef, undef, undef, undef, undef, undef, undef, undef, undef, undef, undef, undef, undef], defers := [] }) ?assign ?body ?done ?stop
  case assign =>
    intro l x W K hK
    gi_wp2
    exact hK
  case body =>
    rintro l pre x W ⟨⟨⟨⟨v, hv, hrow⟩, hk⟩, hsz⟩, hB⟩ hlt
    obtain ⟨A, c, rfl⟩ := row_form hrow
    have hc := hv.cell
    have hval := HIN.out x.1 x.2
    have hprops := rg_props (fun s => -1000000 ≤ s.f1 ∧ s.f1 ≤ 1000000) (fun v => -1000000 ≤ v ∧ v ≤ 1000000) (fun v h => h) (fun s v _ h => h) (valL pre) (fun v hv => by
      simp only [valL, List.mem_map] at hv
      obtain ⟨y, _, rfl⟩ := hv
      have := HIN.out y.1 y.2
      omega)
    rw [show (valL pre).length = pre.length by simp [valL]] at hprops
    obtain ⟨hp1, hp2⟩ := hprops
    have hsn : rg (valL (pre ++ [x])) = rgStep (rg (valL pre)) x.1 := by rw [valL_snoc]; exact rg_snoc _ _
    have HSN := Lib.hid hsn; clear hsn
    generalize rg (valL pre) = out at hv hrow hc hp1 hp2 HSN
    rcases snoc_cases out with rfl | ⟨ys, s, rfl⟩
    · have HV := Lib.hid hv; have HR := Lib.hid hrow; have HK := Lib.hid hk; have HBB := Lib.hid hB; have HSZ := Lib.hid hsz
      clear hv hrow hk hB hsz hp1
      have HR2 : Hid (W.ownsRow W0.heap.size 71 2 (.slice A 0 c) 0 []) := HR
      have hc2 : W.cell? ⟨w.heap.size, 0, none⟩ = some (.slice A 0 c) := hc
      clear hc HR
      gi_wp2_with (gi_at_builtin; refine wpListIn_append_own _ rfl _ _ 22 rfl W0.heap.size 71 i0 _ 2 16 Tryd.underlying22 hi hz0 hz1 hz2 rfl (by decide) _ _ _ rfl (HR2.out.alloc _) ⟨W.heap.size, 0, none⟩ 1 1 [.int .i64 x.1, .int .i64 x.1] rfl rfl (cell_pair_new _ _ _ _) (by simp [Value.oneCell']) (by simp only [maxLen]; omega) (by omega) (by have := HSZ.out; simp; omega) ?_; intro v' w1 hown' hgrow _; obtain ⟨g', cap', rfl⟩ := ownsRow_succ hown'; obtain ⟨q1, q2, q3, q4, q5, q6, q7⟩ := out_put (bs := [0, B, gs, gp']) HV.out HR2.out HSZ.out hn1 (Nat.le_refl _) HBS.out hown' hgrow; have hc1 := q1.cell; have hf1 := q1.frozen)
      exact ⟨q4, q6, ⟨⟨⟨_, q2, by rw [HSN.out, rgStep_nil]; exact q3⟩, keepsB_trans HK.out q6⟩, q7⟩, HBB.out.trans q5⟩
    · have hs1 := hp1 s (by simp)
      have hrow1 : W.ownsRow W0.heap.size 71 2 (.slice A (ys ++ [s]).length c) (ys.length + 1) (flat71 (ys ++ [s])) := by rw [List.length_append] at hrow ⊢; exact hrow
      obtain ⟨g1, cap, hA⟩ := ownsRow_succ hrow1
      rw [hA] at hv hrow1 hc
      have hcell : W.cell? ⟨g1, ys.length * 2 + 1, none⟩ = some (.int .i64 s.f1) := (hrow1.cellAt _ (by omega)).trans (flat71_last ys s)
      have hfz := hrow1.frozenAt (ys.length * 2 + 1)
      have hyl : ys.length + 1 ≤ 65536 := by rw [List.length_append] at hp2; simp only [List.length_cons, List.length_nil] at hp2; omega
      have hput := out_last (bs := [0, B, gs, gp']) hv hrow1 hn1 HBS1.out (ys.length * 2 + 1) (.int .i64 x.1)
      rw [flat71_set] at hput
      have HV := Lib.hid hv; have HR2 := Lib.hid hrow1; have HK := Lib.hid hk; have HBB := Lib.hid hB; have HSZ := Lib.hid hsz; have HPUT := Lib.hid hput
      clear hv hrow hrow1 hk hB hsz hp1 hp2 hput hA
      generalize hm : ys.length = m at *
      have HM := Lib.hid hm; clear hm
      by_cases hx : s.f1 + 1 = x.1
      · gi_wp2_with fail
        obtain ⟨q2, q3, q4, q5, q6⟩ := HPUT.out
        exact ⟨q4, q6, ⟨⟨⟨_, q2, by rw [HSN.out, rgStep_hit ys s _ hx, show (ys ++ [(⟨s.f0, x.1⟩ : S71)]).length = m + 1 by rw [List.length_append, HM.out]; rfl]; exact q3⟩, keepsB_trans HK.out q6⟩, Nat.le_trans HSZ.out q4.size⟩, HBB.out.trans q5⟩
      · have hx2 : (s.f1 + 1 == x.1) = false := by rw [beq_eq_false_iff_ne]; exact hx
        gi_wp2_with (gi_at_builtin; refine wpListIn_append_own _ rfl _ _ 22 rfl W0.heap.size 71 i0 _ 2 16 Tryd.underlying22 hi hz0 hz1 hz2 rfl (by decide) _ _ _ rfl (HR2.out.alloc _) ⟨W.heap.size, 0, none⟩ 1 1 [.int .i64 x.1, .int .i64 x.1] rfl rfl (cell_pair_new _ _ _ _) (by simp [Value.oneCell']) (by simp only [maxLen]; omega) (by omega) (by have := HSZ.out; simp; omega) ?_; intro v' w1 hown' hgrow _; obtain ⟨g', cap', rfl⟩ := ownsRow_succ hown'; obtain ⟨q1, q2, q3, q4, q5, q6, q7⟩ := out_put (bs := [0, B, gs, gp']) HV.out HR2.out HSZ.out hn1 (Nat.le_refl _) HBS.out hown' hgrow; have hc1 := q1.cell; have hf1 := q1.frozen)
        exact ⟨q4, q6, ⟨⟨⟨_, q2, by rw [HSN.out, rgStep_miss ys s _ hx, show (ys ++ [s] ++ [(⟨x.1, x.1⟩ : S71)]).length = m + 1 + 1 by rw [List.length_append, List.length_append, HM.out]; rfl, flat71_snoc]; exact q3⟩, keepsB_trans HK.out q6⟩, q7⟩, HBB.out.trans q5⟩
  case done =>
    rintro D xs W hD hS ⟨⟨⟨⟨v, hv, hrow⟩, hk⟩, hsz⟩, hB⟩ hK
    have hxs : valL xs = vals M f r := hS
    rw [hxs] at hrow
    obtain ⟨A, c, rfl⟩ := row_form hrow
    have hc := hv.cell
    have hlen : (rg (vals M f r)).length ≤ 65536 := by
      have h1 := (rg_props (fun _ => True) (fun _ => True) (fun _ _ => trivial) (fun _ _ _ _ => trivial) (vals M f r) (fun _ _ => trivial)).2
      have h2 := valsTo_len M f r.toNat
      unfold vals at h1 ⊢
      omega
    have HS2 := Lib.hid hrow; have HB3 := Lib.hid hB; have HK1 := Lib.hid hK
    clear hS hrow hB hk hst
    by_cases hbig : 4096 < (rg (vals M f r)).length
    · have hb1 : decide (4096 < ((rg (vals M f r)).length : Int)) = true := decide_eq_true (by omega)
      gi_wp2_with fail
      go_wp2_with fail
      refine ⟨by simp, .inl ⟨_, _, rfl, run_takeDeferred hK, ?_⟩⟩
      refine ⟨_, by simp [results, Tryd.results13, go_sem]; rfl, ?_⟩
      exact ⟨.inl ⟨hbig, rfl⟩, HB3.out.trans (belowK_b (w := w) (Nat.le_refl _) W D _ _ (by omega) hK rfl rfl)⟩
    · have hb1 : decide (4096 < ((rg (vals M f r)).length : Int)) = false := decide_eq_false (by omega)
      gi_wp2_with fail
      go_wp2_with fail
      refine ⟨by simp, .inl ⟨_, _, rfl, run_takeDeferred hK, ?_⟩⟩
      refine ⟨_, by simp [results, Tryd.results13, go_sem]; rfl, ?_⟩
      exact ⟨.inr ⟨by omega, _, rfl, own_weaken (ownsRow_putObj HS2.out _ hK rfl) hn1⟩, HB3.out.trans (belowK_b (w := w) (Nat.le_refl _) W D _ _ (by omega) hK rfl rfl)⟩
  case stop =>
    rintro D c pre W _ _ h _
    exact h.elim

end Go.Proofs.YtfkbkcdiajjljaaDoor.PBitsSteps
