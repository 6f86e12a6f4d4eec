/- Parts of the laws of bits: functions of the program, each with the proof of what it answers; the conditions are those of each theorem. -/
import Derived.Test.YtfkbkcdiajjljaaDoorPBitsStepsx1
import Derived.Lib.Hide
import Derived.Laws.Externs
import Derived.WalkKit
import Derived.Deep.QuietTactic
import Derived.BigQuiet
import Derived.StillTailTactics
import Derived.Laws.MakeOwn
import Derived.RangeFuncRecord
namespace Go.Proofs.YtfkbkcdiajjljaaDoor.PBitsSteps
open Go.RowKit Go.Proofs.YtfkbkcdiajjljaaDoorW.PrintWords Go.Proofs.YtfkbkcdiajjljaaDoorW.PrintLast Go.Proofs.YtfkbkcdiajjljaaDoorW.PrintMore
set_option linter.unusedVariables false
set_option linter.unusedSimpArgs false
/-! ### bits.Set: a block of three cells (the first value, the room, the pages) -/
def setB (f r : Int) (A : Option Addr) (n c : Nat) : Obj := .cells #[.int .i64 f, .int .i64 r, .slice A n c] 75 (0, 0)
def setP (g : Nat) : Value := .pointer (some ⟨g, 0, none⟩)
theorem setB_first {w : World} {g : Nat} {f r : Int} {A : Option Addr} {n c : Nat} (h : w.heap[g]? = some (setB f r A n c)) : w.cell? ⟨g, 0, none⟩ = some (.int .i64 f) := (blk_cell h 0).trans rfl
theorem setB_room {w : World} {g : Nat} {f r : Int} {A : Option Addr} {n c : Nat} (h : w.heap[g]? = some (setB f r A n c)) : w.cell? ⟨g, 1, none⟩ = some (.int .i64 r) := (blk_cell h 1).trans rfl
theorem setB_pages {w : World} {g : Nat} {f r : Int} {A : Option Addr} {n c : Nat} (h : w.heap[g]? = some (setB f r A n c)) : w.cell? ⟨g, 2, none⟩ = some (.slice A n c) := (blk_cell h 2).trans rfl
set_option maxHeartbeats 4000000 in
theorem bits_First.calls (g : Nat) (f r : Int) (A : Option Addr) (n c : Nat) (w : World) (h : w.heap[g]? = some (setB f r A n c)) :
    Calls Tryd.prog 10 #[setP g] w fun e w' => e = .returned (.int .i64 f) ∧ Drawn0 w w' := by
  have c0 := setB_first h; have c1 := setB_room h; have c2 := setB_pages h
  unfold setP
  go_enter Tryd.func10, Tryd.ntmps10
  go_wp2_with fail
  go_ret
  exact ⟨rfl, Drawn0.refl _⟩
set_option maxHeartbeats 4000000 in
theorem bits_Room.calls (g : Nat) (f r : Int) (A : Option Addr) (n c : Nat) (w : World) (h : w.heap[g]? = some (setB f r A n c)) :
    Calls Tryd.prog 11 #[setP g] w fun e w' => e = .returned (.int .i64 r) ∧ Drawn0 w w' := by
  have c0 := setB_first h; have c1 := setB_room h; have c2 := setB_pages h
  unfold setP
  go_enter Tryd.func11, Tryd.ntmps11
  go_wp2_with fail
  go_ret
  exact ⟨rfl, Drawn0.refl _⟩
def setFits (f r v : Int) : Bool := decide (f ≤ v) && decide (v < wrap64 (f + r))
set_option maxHeartbeats 4000000 in
theorem bits_fits.calls (g : Nat) (f r : Int) (A : Option Addr) (n c : Nat) (v : Int) (w : World) (h : w.heap[g]? = some (setB f r A n c)) :
    Calls Tryd.prog 41 #[setP g, .int .i64 v] w fun e w' => e = .returned (.bool (setFits f r v)) ∧ Drawn0 w w' := by
  have c0 := setB_first h; have c1 := setB_room h; have c2 := setB_pages h
  unfold setP
  by_cases h1 : f ≤ v
  · by_cases h2 : v < wrap64 (f + r)
    · have e : setFits f r v = true := by unfold setFits; rw [decide_eq_true h1, decide_eq_true h2]; rfl
      rw [e]
      go_enter Tryd.func41, Tryd.ntmps41
      go_wp2_with fail
      go_quiet (fail)
      go_wp2_with fail
      go_ret
      exact ⟨by first | rfl | (rw [decide_eq_false (Int.not_lt.mpr h2)]; rfl), ⟨⟨_, rfl⟩⟩⟩
    · have e : setFits f r v = false := by unfold setFits; rw [decide_eq_false h2, Bool.and_false]
      rw [e]
      go_enter Tryd.func41, Tryd.ntmps41
      go_wp2_with fail
      go_quiet (fail)
      go_wp2_with fail
      go_ret
      exact ⟨by first | rfl | (rw [decide_eq_false (Int.not_lt.mpr h2)]; rfl), ⟨⟨_, rfl⟩⟩⟩
  · have e : setFits f r v = false := by unfold setFits; rw [decide_eq_false h1, Bool.false_and]
    have h2 := h1
    have h1b := decide_eq_false h1
    have h1c := eq_false h1
    have h1d : v < f := by omega
    rw [e]
    go_enter Tryd.func41, Tryd.ntmps41
    go_wp2_with fail
    go_quiet (fail)
    go_wp2_with fail
    go_ret
    exact ⟨by first | rfl | (rw [decide_eq_false (Int.not_lt.mpr h2)]; rfl), ⟨⟨_, rfl⟩⟩⟩
/-- The pages' words lie one behind the other. -/
def PagesAt (w : World) (A : Option Addr) (n : Nat) (ws : Nat → Int) : Prop := ∃ ad, A = some ad ∧ ∀ i, i < 16 * n → w.cell? (ad.add i) = some (.int .u64 (ws i)) ∧ w.frozen? (ad.add i) = false
theorem addr_add_add (ad : Addr) (i j : Nat) : (ad.add i).add j = ad.add (i + j) := by
  by_cases hi : i = 0 <;> by_cases hj : j = 0 <;> simp [Addr.add, hi, hj, Nat.add_assoc]
set_option maxHeartbeats 4000000 in
theorem bits_word.same (g : Nat) (f r : Int) (A : Option Addr) (n c : Nat) (ws : Nat → Int) (x : Int) (w : World) (h : w.heap[g]? = some (setB f r A n c)) (hp : PagesAt w A n ws) (hx : 0 ≤ x) (hxn : x < 1024 * n) (hn : n < 1000000) :
    Calls Tryd.prog 42 #[setP g, .int .i64 x] w fun e w' => (∃ ad, A = some ad ∧ e = .returned (.pointer (some (ad.add (x / 64).toNat)))) ∧ w' = w := by
  have c0 := setB_first h; have c1 := setB_room h; have c2 := setB_pages h
  obtain ⟨ad, rfl, hcell⟩ := hp
  have HC := Lib.hid hcell
  clear hcell
  have e1 : wrap64 (x.tdiv 64) = x / 64 := by rw [Int.tdiv_eq_ediv_of_nonneg hx]; exact IntWalk.wrap64_in _ (by omega)
  have e2 : wrap64 ((wrap64 (x.tdiv 64)).tdiv 16) = x / 1024 := by rw [e1, Int.tdiv_eq_ediv_of_nonneg (by omega), Int.ediv_ediv_of_nonneg (by decide)]; exact IntWalk.wrap64_in _ (by omega)
  have e3 : wrap64 ((wrap64 (x.tdiv 64)).tmod 16) = x / 64 % 16 := by rw [e1, Int.tmod_eq_emod_of_nonneg (by omega)]; exact IntWalk.wrap64_in _ (by omega)
  have hA : 0 ≤ wrap64 ((wrap64 (x.tdiv 64)).tdiv 16) ∧ wrap64 ((wrap64 (x.tdiv 64)).tdiv 16) < (n : Int) := by rw [e2]; omega
  have hB : 0 ≤ wrap64 ((wrap64 (x.tdiv 64)).tmod 16) ∧ wrap64 ((wrap64 (x.tdiv 64)).tmod 16) < 16 := by rw [e3]; omega
  have E2 := Lib.hid e2; have E3 := Lib.hid e3
  clear e1 e2 e3
  unfold setP
  go_enter Tryd.func42, Tryd.ntmps42
  go_wp2_with fail
  go_ret
  refine ⟨⟨ad, rfl, ?_⟩, rfl⟩
  have e : (ad.add ((x / 64 / 16).toNat * 16)).add (x / 64 % 16).toNat = ad.add (x / 64).toNat := by
    rw [addr_add_add]
    congr 1
    omega
  exact congrArg (fun p => Ending.returned (Value.pointer (some p))) e
theorem bits_word.calls (g : Nat) (f r : Int) (A : Option Addr) (n c : Nat) (ws : Nat → Int) (x : Int) (w : World) (h : w.heap[g]? = some (setB f r A n c)) (hp : PagesAt w A n ws) (hx : 0 ≤ x) (hxn : x < 1024 * n) (hn : n < 1000000) :
    Calls Tryd.prog 42 #[setP g, .int .i64 x] w fun e w' => (∃ ad, A = some ad ∧ e = .returned (.pointer (some (ad.add (x / 64).toNat)))) ∧ Drawn0 w w' :=
  (bits_word.same g f r A n c ws x w h hp hx hxn hn).mono fun _ _ ⟨he, hw⟩ => ⟨he, hw ▸ Drawn0.refl _⟩

theorem quiet_drawn {P : Program} {f : FuncId} {args : Array Value} {w : World} {n : Nat} {v : Value}
    (h : Calls P f args (w.drewN n) fun e w' => e = .returned v ∧ Drawn0 (w.drewN n) w') : Calls P f args (w.drewN n) fun e w'' => e = .returned v ∧ ∃ m, w'' = w.drewN m :=
  Calls.quiet_of (h.mono fun _ _ ⟨he, hd⟩ => ⟨he, hd.1⟩)
def bitOf (x : Int) : Int := shl .u64 1 (Int.tmod x 64)
def setHas (f r : Int) (ws : Nat → Int) (v : Int) : Bool := setFits f r v && (bits .and .u64 (ws ((v - f) / 64).toNat) (bitOf (v - f)) != 0)
theorem setB_drawn {w : World} {g : Nat} {o : Obj} (h : w.heap[g]? = some o) (m : Nat) : (w.drewN m).heap[g]? = some o := (Drawn0.below ⟨⟨m, rfl⟩⟩).block g (by
  rcases Nat.lt_or_ge g w.heap.size with h1 | h1
  · exact h1
  · rw [Array.getElem?_eq_none h1] at h; cases h) |>.trans h
theorem PagesAt_drawn {w : World} {A : Option Addr} {n : Nat} {ws : Nat → Int} (h : PagesAt w A n ws) (m : Nat) : PagesAt (w.drewN m) A n ws := h
set_option maxHeartbeats 8000000 in
theorem bits_Has.calls (g : Nat) (f r : Int) (ad : Addr) (n c : Nat) (ws : Nat → Int) (v : Int) (w : World) (h : w.heap[g]? = some (setB f r (some ad) n c)) (hp : PagesAt w (some ad) n ws) (hn : n < 1000000) (hr : r ≤ 1024 * n) (hf : -1000000 ≤ f ∧ f ≤ 1000000) (hr0 : 0 ≤ r) :
    Calls Tryd.prog 12 #[setP g, .int .i64 v] w fun e w' => e = .returned (.bool (setHas f r ws v)) ∧ Drawn0 w w' := by
  have c0 := setB_first h
  have H := Lib.hid h; have HP := Lib.hid hp
  clear h hp
  by_cases hfit : setFits f r v = true
  · have hb : f ≤ v ∧ v < f + r := by
      unfold setFits at hfit
      rw [IntWalk.wrap64_in (f + r) (by omega)] at hfit
      simpa using hfit
    have ew : wrap64 (v - f) = v - f := IntWalk.wrap64_in _ (by omega)
    have ebit : bits_bit.f (v - f) = some (bitOf (v - f)) := by
      unfold bits_bit.f bitOf
      rw [if_pos (by rw [Int.tmod_eq_emod_of_nonneg (by omega)]; omega)]
    have hw : ∀ m, Calls Tryd.prog 42 #[setP g, .int .i64 (v - f)] (w.drewN m) fun e w'' => e = .returned (.pointer (some (ad.add ((v - f) / 64).toNat))) ∧ ∃ k, w'' = w.drewN k := fun m =>
      quiet_drawn ((bits_word.calls g f r (some ad) n c ws (v - f) _ (setB_drawn H.out m) (PagesAt_drawn HP.out m) (by omega) (by omega) hn).mono (by
        rintro e w' ⟨⟨ad', e1, e2⟩, hd⟩
        injection e1 with e1
        subst e1
        exact ⟨e2, hd⟩))
    obtain ⟨ad0, e0, hcell⟩ := HP.out
    injection e0 with e0
    subst e0
    have c3 := (hcell ((v - f) / 64).toNat (by omega)).1
    have e : setHas f r ws v = (bits .and .u64 (ws ((v - f) / 64).toNat) (bitOf (v - f)) != 0) := by unfold setHas; rw [hfit, Bool.true_and]
    rw [e]
    have HF := Lib.hid hfit
    clear hfit e hcell
    have hcf : ∀ m, Calls Tryd.prog 41 #[setP g, .int .i64 v] (w.drewN m) fun e w'' => e = .returned (.bool true) ∧ ∃ k, w'' = w.drewN k := fun m =>
      quiet_drawn ((bits_fits.calls g f r (some ad) n c v _ (setB_drawn H.out m)).mono (by rw [HF.out]; exact fun _ _ h => h))
    have hcb : ∀ m, Calls Tryd.prog 44 #[.int .i64 (v - f)] (w.drewN m) fun e w'' => e = .returned (.int .u64 (bitOf (v - f))) ∧ ∃ k, w'' = w.drewN k := fun m =>
      quiet_drawn (bits_bit.calls (v - f) (bitOf (v - f)) _ ebit)
    have HW := Lib.hid hw; have HCF := Lib.hid hcf; have HCB := Lib.hid hcb
    clear hw hcf hcb ebit
    unfold setP at *
    go_enter Tryd.func12, Tryd.ntmps12
    go_wp2_with fail
    go_quiet (first | exact HCF.out _ | exact HW.out _ | exact HCB.out _)
    go_wp2_with fail
    go_ret
    exact ⟨rfl, ⟨⟨_, rfl⟩⟩⟩
  · have hfalse : setFits f r v = false := by simpa using hfit
    have e : setHas f r ws v = false := by unfold setHas; rw [hfalse, Bool.false_and]
    rw [e]
    have hcf : ∀ m, Calls Tryd.prog 41 #[setP g, .int .i64 v] (w.drewN m) fun e w'' => e = .returned (.bool false) ∧ ∃ k, w'' = w.drewN k := fun m =>
      quiet_drawn ((bits_fits.calls g f r (some ad) n c v _ (setB_drawn H.out m)).mono (by rw [hfalse]; exact fun _ _ h => h))
    have HCF := Lib.hid hcf
    clear hcf e hfit hfalse
    unfold setP at *
    go_enter Tryd.func12, Tryd.ntmps12
    go_wp2_with fail
    go_quiet (exact HCF.out _)
    go_wp2_with fail
    go_ret
    exact ⟨rfl, ⟨⟨_, rfl⟩⟩⟩

theorem bits_bit.same (x : Int) (w : World) (hx : 0 ≤ x) :
    Calls Tryd.prog 44 #[.int .i64 x] w fun e w' => e = .returned (.int .u64 (bitOf x)) ∧ w' = w := by
  have h : 0 ≤ Int.tmod x 64 := by rw [Int.tmod_eq_emod_of_nonneg hx]; omega
  have e : bitOf x = IntKind.u64.wrap (2 ^ (x % 64).toNat) := by
    unfold bitOf shl
    rw [Int.tmod_eq_emod_of_nonneg hx, Int.one_mul, Nat.min_eq_left (by show _ ≤ 64; omega)]
  rw [e]
  clear e
  go_enter Tryd.func44, Tryd.ntmps44
  go_wp2_with fail
  go_ret
  exact ⟨rfl, rfl⟩
set_option maxHeartbeats 8000000 in
theorem bits_Add.calls (g : Nat) (f r : Int) (ad : Addr) (n c : Nat) (ws : Nat → Int) (v : Int) (w : World) (h : w.heap[g]? = some (setB f r (some ad) n c)) (hp : PagesAt w (some ad) n ws) (hn : n < 1000000) (hr : r ≤ 1024 * n) (hf : -1000000 ≤ f ∧ f ≤ 1000000) (hr0 : 0 ≤ r) (hfit : setFits f r v = true) :
    Calls Tryd.prog 21 #[setP g, .int .i64 v] w fun e w' => e = .returned (.tuple #[.bool (!setHas f r ws v), .int .i64 0]) ∧ ∃ m, w' = (w.drewN m).setCell (ad.add ((v - f) / 64).toNat) (.int .u64 (bits .or .u64 (ws ((v - f) / 64).toNat) (bitOf (v - f)))) := by
  have hb : f ≤ v ∧ v < f + r := by
    have hfit' := hfit
    unfold setFits at hfit'
    rw [IntWalk.wrap64_in (f + r) (by omega)] at hfit'
    simpa using hfit'
  have ew : wrap64 (v - f) = v - f := IntWalk.wrap64_in _ (by omega)
  have H := Lib.hid h; have HP := Lib.hid hp; have HF := Lib.hid hfit
  have hi : ((v - f) / 64).toNat < 16 * n := by omega
  clear h hp hfit
  have U : setP g = .pointer (some ⟨g, 0, none⟩) := rfl
  rw [U]
  go_enter Tryd.func21, Tryd.ntmps21
  go_wp2_with fail
  rw [← U]
  refine (bits_fits.calls g f r (some ad) n c v _ H.out).mono ?_
  rw [HF.out]
  rintro e w1 ⟨rfl, ⟨⟨m1, rfl⟩⟩⟩
  go_wp2_with fail
  rw [← U]
  refine (bits_Has.calls g f r ad n c ws v _ (setB_drawn H.out _) (PagesAt_drawn HP.out _) hn hr hf hr0).mono ?_
  rintro e w2 ⟨rfl, ⟨⟨m2, rfl⟩⟩⟩
  go_wp2_with fail
  have HW := Lib.hid (setB_drawn H.out (m1 + m2)); have HWP := Lib.hid (PagesAt_drawn HP.out (m1 + m2))
  have c0 := setB_first HW.out
  obtain ⟨ad0, e0, hcell⟩ := HWP.out
  injection e0 with e0
  subst e0
  have c3 := (hcell ((v - f) / 64).toNat hi).1; have c3f := (hcell ((v - f) / 64).toNat hi).2
  have EW := Lib.hid ew
  have HWD := Lib.hid (show ∃ k, w.drewN (m1 + m2) = w.drewN k from ⟨_, rfl⟩)
  clear hcell ew
  generalize w.drewN (m1 + m2) = W at HW HWP c0 c3 c3f HWD ⊢
  have ew2 : IntKind.i64.wrap (v - f) = v - f := (IntWalk.i64_left _).trans EW.out
  have hcw : Calls Tryd.prog 42 #[.pointer (some ⟨g, 0, none⟩), .int .i64 (IntKind.i64.wrap (v - f))] W.drew fun e w'' => e = .returned (.pointer (some (ad.add ((v - f) / 64).toNat))) ∧ w'' = W.drew := by
    rw [ew2]
    refine (bits_word.same g f r (some ad) n c ws (v - f) W.drew HW.out HWP.out (by omega) (by omega) hn).mono ?_
    rintro e w' ⟨⟨ad', e1, e2⟩, hd⟩
    injection e1 with e1
    subst e1
    exact ⟨e2, hd⟩
  have hcb : Calls Tryd.prog 44 #[.int .i64 (IntKind.i64.wrap (v - f))] W.drew fun e w'' => e = .returned (.int .u64 (bitOf (v - f))) ∧ w'' = W.drew := by
    rw [ew2]
    exact bits_bit.same (v - f) W.drew (by omega)
  have HCW := Lib.hid hcw; have HCB := Lib.hid hcb
  clear hcw hcb ew2
  go_still_tail 19, (by kernel_rfl)
  still_call HCW.out
  repeat still_step
  still_call HCB.out
  repeat still_step
  refine wpStill_nil ?_
  change wpList _ _ _ _ _ W.drew
  have c4 : W.drew.cell? (ad.add ((v - f) / 64).toNat) = some (Value.int IntKind.u64 (ws ((v - f) / 64).toNat)) := c3
  obtain ⟨kw, hkw⟩ := HWD.out
  have HWE := Lib.hid (show ∃ k, W.drew = w.drewN k from ⟨kw + 1, by rw [hkw]; rfl⟩)
  have c5 : W.drew.frozen? (ad.add ((v - f) / 64).toNat) = false := c3f
  generalize W.drew = w2 at c4 c5 HWE ⊢
  clear hkw
  go_wp2_with fail
  go_ret2
  obtain ⟨k, hk⟩ := HWE.out
  exact ⟨rfl, k, by rw [hk]⟩

set_option maxHeartbeats 8000000 in
theorem bits_Add.out (g : Nat) (f r : Int) (A : Option Addr) (n c : Nat) (v : Int) (w : World) (h : w.heap[g]? = some (setB f r A n c)) (hfit : setFits f r v = false) :
    Calls Tryd.prog 21 #[setP g, .int .i64 v] w fun e w' => e = .returned (.tuple #[.bool false, .int .i64 20]) ∧ Drawn0 w w' := by
  have H := Lib.hid h; have HF := Lib.hid hfit
  clear h hfit
  have U : setP g = .pointer (some ⟨g, 0, none⟩) := rfl
  rw [U]
  go_enter Tryd.func21, Tryd.ntmps21
  go_wp2_with fail
  rw [← U]
  refine (bits_fits.calls g f r A n c v _ H.out).mono ?_
  rw [HF.out]
  rintro e w1 ⟨rfl, ⟨⟨m1, rfl⟩⟩⟩
  go_wp2_with fail
  go_ret2
  exact ⟨rfl, ⟨⟨_, rfl⟩⟩⟩
set_option maxHeartbeats 8000000 in
theorem bits_Del.miss (g : Nat) (f r : Int) (ad : Addr) (n c : Nat) (ws : Nat → Int) (v : Int) (w : World) (h : w.heap[g]? = some (setB f r (some ad) n c)) (hp : PagesAt w (some ad) n ws) (hn : n < 1000000) (hr : r ≤ 1024 * n) (hf : -1000000 ≤ f ∧ f ≤ 1000000) (hr0 : 0 ≤ r) (hhas : setHas f r ws v = false) :
    Calls Tryd.prog 23 #[setP g, .int .i64 v] w fun e w' => e = .returned (.tuple #[.bool false, .int .i64 0]) ∧ Drawn0 w w' := by
  have H := Lib.hid h; have HP := Lib.hid hp; have HF := Lib.hid hhas
  clear h hp hhas
  have U : setP g = .pointer (some ⟨g, 0, none⟩) := rfl
  rw [U]
  go_enter Tryd.func23, Tryd.ntmps23
  go_wp2_with fail
  rw [← U]
  refine (bits_Has.calls g f r ad n c ws v _ H.out HP.out hn hr hf hr0).mono ?_
  rw [HF.out]
  rintro e w2 ⟨rfl, ⟨⟨m2, rfl⟩⟩⟩
  go_wp2_with fail
  go_ret2
  exact ⟨rfl, ⟨⟨_, rfl⟩⟩⟩

set_option maxHeartbeats 8000000 in
theorem bits_Del.hit (g : Nat) (f r : Int) (ad : Addr) (n c : Nat) (ws : Nat → Int) (v : Int) (w : World) (h : w.heap[g]? = some (setB f r (some ad) n c)) (hp : PagesAt w (some ad) n ws) (hn : n < 1000000) (hr : r ≤ 1024 * n) (hf : -1000000 ≤ f ∧ f ≤ 1000000) (hr0 : 0 ≤ r) (hfit : setFits f r v = true) (hhas : setHas f r ws v = true) :
    Calls Tryd.prog 23 #[setP g, .int .i64 v] w fun e w' => e = .returned (.tuple #[.bool true, .int .i64 0]) ∧ ∃ m, w' = (w.drewN m).setCell (ad.add ((v - f) / 64).toNat) (.int .u64 (bits .andNot .u64 (ws ((v - f) / 64).toNat) (bitOf (v - f)))) := by
  have hb : f ≤ v ∧ v < f + r := by
    have hfit' := hfit
    unfold setFits at hfit'
    rw [IntWalk.wrap64_in (f + r) (by omega)] at hfit'
    simpa using hfit'
  have ew : wrap64 (v - f) = v - f := IntWalk.wrap64_in _ (by omega)
  have H := Lib.hid h; have HP := Lib.hid hp; have HF := Lib.hid hfit; have HHAS := Lib.hid hhas
  have hi : ((v - f) / 64).toNat < 16 * n := by omega
  clear h hp hfit hhas
  have U : setP g = .pointer (some ⟨g, 0, none⟩) := rfl
  rw [U]
  go_enter Tryd.func23, Tryd.ntmps23
  go_wp2_with fail
  rw [← U]
  refine (bits_Has.calls g f r ad n c ws v _ H.out HP.out hn hr hf hr0).mono ?_
  rw [HHAS.out]
  rintro e w2 ⟨rfl, ⟨⟨m2, rfl⟩⟩⟩
  go_wp2_with fail
  have HW := Lib.hid (setB_drawn H.out m2); have HWP := Lib.hid (PagesAt_drawn HP.out m2)
  have c0 := setB_first HW.out
  obtain ⟨ad0, e0, hcell⟩ := HWP.out
  injection e0 with e0
  subst e0
  have c3 := (hcell ((v - f) / 64).toNat hi).1; have c3f := (hcell ((v - f) / 64).toNat hi).2
  have EW := Lib.hid ew
  have HWD := Lib.hid (show ∃ k, w.drewN m2 = w.drewN k from ⟨_, rfl⟩)
  clear hcell ew
  generalize w.drewN m2 = W at HW HWP c0 c3 c3f HWD ⊢
  have ew2 : IntKind.i64.wrap (v - f) = v - f := (IntWalk.i64_left _).trans EW.out
  have hcw : Calls Tryd.prog 42 #[.pointer (some ⟨g, 0, none⟩), .int .i64 (IntKind.i64.wrap (v - f))] W.drew fun e w'' => e = .returned (.pointer (some (ad.add ((v - f) / 64).toNat))) ∧ w'' = W.drew := by
    rw [ew2]
    refine (bits_word.same g f r (some ad) n c ws (v - f) W.drew HW.out HWP.out (by omega) (by omega) hn).mono ?_
    rintro e w' ⟨⟨ad', e1, e2⟩, hd⟩
    injection e1 with e1
    subst e1
    exact ⟨e2, hd⟩
  have hcb : Calls Tryd.prog 44 #[.int .i64 (IntKind.i64.wrap (v - f))] W.drew fun e w'' => e = .returned (.int .u64 (bitOf (v - f))) ∧ w'' = W.drew := by
    rw [ew2]
    exact bits_bit.same (v - f) W.drew (by omega)
  have HCW := Lib.hid hcw; have HCB := Lib.hid hcb
  clear hcw hcb ew2
  go_still_tail 19, (by kernel_rfl)
  still_call HCW.out
  repeat still_step
  still_call HCB.out
  repeat still_step
  refine wpStill_nil ?_
  change wpList _ _ _ _ _ W.drew
  have c4 : W.drew.cell? (ad.add ((v - f) / 64).toNat) = some (Value.int IntKind.u64 (ws ((v - f) / 64).toNat)) := c3
  obtain ⟨kw, hkw⟩ := HWD.out
  have HWE := Lib.hid (show ∃ k, W.drew = w.drewN k from ⟨kw + 1, by rw [hkw]; rfl⟩)
  have c5 : W.drew.frozen? (ad.add ((v - f) / 64).toNat) = false := c3f
  generalize W.drew = w2 at c4 c5 HWE ⊢
  clear hkw
  go_wp2_with fail
  go_ret2
  obtain ⟨k, hk⟩ := HWE.out
  exact ⟨rfl, k, by rw [hk]⟩

theorem pagesInfo : ∃ i z, Tryd.prog.info? 86 = some i ∧ i.zero = some z ∧ i.size = 16 ∧ i.bytes = 128 ∧ z.cells = Array.replicate 16 (Value.int .u64 0) := by
  refine ⟨_, _, rfl, rfl, rfl, rfl, ?_⟩
  rfl
def zeroPages (k : Nat) : Obj := .cells (Array.replicate (16 * k) (Value.int .u64 0)) 86 (0, 0)
set_option maxHeartbeats 8000000 in
theorem bits_New.made (lo hi : Int) (w : World) (h1 : -1000000 ≤ lo) (h2 : hi ≤ 1000000) (h3 : lo ≤ hi) (h4 : hi - lo < 65536) :
    Calls Tryd.prog 17 #[.int .i64 lo, .int .i64 hi] w fun e w' => e = .returned (.tuple #[setP (w.heap.size + 1), .int .i64 0]) ∧ w' = (w.alloc (.cells (madeCells (Array.replicate 16 (Value.int .u64 0)) (((hi - lo + 1 + 1024 - 1) / 1024).toNat * 16)) 86)).alloc (.cells #[.int .i64 lo, .int .i64 (hi - lo + 1), .slice (some ⟨w.heap.size, 0, none⟩) ((hi - lo + 1 + 1024 - 1) / 1024).toNat ((hi - lo + 1 + 1024 - 1) / 1024).toNat] 75) := by
  have e1 : wrap64 (hi - lo) = hi - lo := IntWalk.wrap64_in _ (by omega)
  have b1 := decide_eq_false (show ¬ lo < -1000000 by omega)
  have b2 := decide_eq_false (show ¬ hi > 1000000 by omega)
  have b3 := decide_eq_false (show ¬ lo > hi by omega)
  have b4 := decide_eq_false (show ¬ 65536 ≤ hi - lo by omega)
  obtain ⟨i, z, hi1, hz, hs, hby, hzc⟩ := pagesInfo
  have hmk := run_make (P := Tryd.prog) w 73 86 i z Tryd.underlying73 hi1 hz .i64 .i64 ((hi - lo + 1 + 1024 - 1) / 1024) ((hi - lo + 1 + 1024 - 1) / 1024) (by omega) (by omega) (by rw [hby]; omega) (by omega)
  rw [hzc, hs] at hmk
  have HM := Lib.hid hmk
  clear hmk hi1 hz hs hby hzc
  go_enter Tryd.func17, Tryd.ntmps17
  go_wp2_with fail
  rw [HM.out]
  go_wp2_with fail
  go_ret2
  exact ⟨rfl, rfl⟩

set_option maxHeartbeats 8000000 in
theorem bits_New.full (lo hi : Int) (w : World) (h1 : -1000000 ≤ lo) (h2 : hi ≤ 1000000) (h3 : lo ≤ hi) (h4 : 65536 ≤ hi - lo) :
    Calls Tryd.prog 17 #[.int .i64 lo, .int .i64 hi] w fun e w' => e = .returned (.tuple #[.pointer none, .int .i64 4]) ∧ w' = w := by
  have e1 : wrap64 (hi - lo) = hi - lo := IntWalk.wrap64_in _ (by omega)
  have b1 := decide_eq_false (show ¬ lo < -1000000 by omega)
  have b2 := decide_eq_false (show ¬ hi > 1000000 by omega)
  have b3 := decide_eq_false (show ¬ lo > hi by omega)
  have b4 := decide_eq_true h4
  go_enter Tryd.func17, Tryd.ntmps17
  go_wp2_with fail
  go_ret2
  exact ⟨rfl, rfl⟩

set_option maxHeartbeats 8000000 in
theorem bits_New.bad (lo hi : Int) (w : World) (h : lo < -1000000 ∨ hi > 1000000 ∨ lo > hi) :
    Calls Tryd.prog 17 #[.int .i64 lo, .int .i64 hi] w fun e w' => e = .returned (.tuple #[.pointer none, .int .i64 20]) ∧ w' = w := by
  by_cases c1 : lo < -1000000
  · go_enter Tryd.func17, Tryd.ntmps17
    go_wp2_with fail
    go_ret2
    exact ⟨rfl, rfl⟩
  · have b1 := decide_eq_false c1
    by_cases c2 : hi > 1000000
    · go_enter Tryd.func17, Tryd.ntmps17
      go_wp2_with fail
      go_ret2
      exact ⟨rfl, rfl⟩
    · have b2 := decide_eq_false c2
      have c3 : lo > hi := by omega
      go_enter Tryd.func17, Tryd.ntmps17
      go_wp2_with fail
      go_ret2
      exact ⟨rfl, rfl⟩

theorem made_get (k i : Nat) (h : i < 16 * k) : (madeCells (Array.replicate 16 (Value.int .u64 0)) (k * 16))[i]? = some (Value.int .u64 0) := by
  have h2 : i < (madeCells (Array.replicate 16 (Value.int .u64 0)) (k * 16)).size := by rw [size_madeCells]; omega
  rw [Array.getElem?_eq_getElem h2]
  simp [madeCells, Nat.mod_lt]

theorem add_zero_off (b i : Nat) : (Addr.add ⟨b, 0, none⟩ i) = ⟨b, i, none⟩ := by
  by_cases h : i = 0 <;> simp [Addr.add, h]
theorem made_pages (w : World) (k : Nat) (o : Obj) : PagesAt ((w.alloc (.cells (madeCells (Array.replicate 16 (Value.int .u64 0)) (k * 16)) 86)).alloc o) (some ⟨w.heap.size, 0, none⟩) k (fun _ => 0) := by
  have h : ((w.alloc (.cells (madeCells (Array.replicate 16 (Value.int .u64 0)) (k * 16)) 86)).alloc o).heap[w.heap.size]? = some (.cells (madeCells (Array.replicate 16 (Value.int .u64 0)) (k * 16)) 86 (0, 0)) :=
    (Below.heap_alloc _ o w.heap.size (by rw [World.size_alloc]; omega)).trans (World.alloc_heap_new _ _)
  refine ⟨_, rfl, fun i hi => ?_⟩
  rw [add_zero_off]
  exact ⟨(blk_cell h i).trans (made_get k i hi), blk_frozen h i⟩

end Go.Proofs.YtfkbkcdiajjljaaDoor.PBitsSteps
