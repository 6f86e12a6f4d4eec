/- Parts of the laws of lex: functions of the program, each with the proof of what it answers; the conditions are those of each theorem. -/
import Derived.Test.YtgpdahgpopmjiaaDoorLa
namespace Go.Proofs.YtgpdahgpopmjiaaDoor.PL
open Go.RowKit Go.Proofs.YtgpdahgpopmjiaaDoorW.PrintWords Go.Proofs.YtgpdahgpopmjiaaDoorW.PrintLast Go.Proofs.YtgpdahgpopmjiaaDoorW.PrintMore
set_option linter.unusedVariables false
set_option linter.unusedSimpArgs false
/-! ### bytes -/
theorem all256 (P : UInt8 → Prop) (h : ∀ n : Fin 256, P (UInt8.ofNat n.val)) (c : UInt8) : P c := by
  have := h ⟨c.toNat, c.toNat_lt⟩
  simpa using this
theorem refLetter_f (c : UInt8) : jigsawref15_letter.f (c.toNat : Int) = some (letterB c) := all256 (fun c => jigsawref15_letter.f (c.toNat : Int) = some (letterB c)) (by decide +kernel) c
theorem refDigit_f (c : UInt8) : jigsawref15_digit.f (c.toNat : Int) = some (digitB c) := all256 (fun c => jigsawref15_digit.f (c.toNat : Int) = some (digitB c)) (by decide +kernel) c
theorem letter_bool (c : UInt8) : letterB c = ((decide ((Go.bits .or .u8 (c.toNat : Int) 32) ≥ 97) && decide ((Go.bits .or .u8 (c.toNat : Int) 32) ≤ 122)) || ((c.toNat : Int) == 95)) := all256 (fun c => letterB c = ((decide ((Go.bits .or .u8 (c.toNat : Int) 32) ≥ 97) && decide ((Go.bits .or .u8 (c.toNat : Int) 32) ≤ 122)) || ((c.toNat : Int) == 95))) (by decide +kernel) c
theorem digit_bool (c : UInt8) : digitB c = (decide ((c.toNat : Int) ≥ 48) && decide ((c.toNat : Int) ≤ 57)) := all256 (fun c => digitB c = (decide ((c.toNat : Int) ≥ 48) && decide ((c.toNat : Int) ≤ 57))) (by decide +kernel) c
set_option maxHeartbeats 4000000 in
theorem letter_calls (c : UInt8) (w : World) : Calls Tryd.prog 24 #[.int .u8 (c.toNat : Nat)] w fun e w' => e = .returned (.bool (letterB c)) ∧ w' = w := by
  rw [letter_bool c]
  generalize hx : Go.bits .or .u8 (c.toNat : Int) 32 = x
  have HX := Lib.hid hx
  by_cases h1 : x ≥ 97
  · by_cases h2 : x ≤ 122
    · have b1 := decide_eq_true h1; have b2 := decide_eq_true h2
      rw [b1, b2]
      go_enter Tryd.func24, Tryd.ntmps24
      go_wp2_with fail
      go_ret
      exact ⟨rfl, rfl⟩
    · have b1 := decide_eq_true h1; have b2 := decide_eq_false h2
      rw [b1, b2]
      clear h2
      go_enter Tryd.func24, Tryd.ntmps24
      go_wp2_with fail
      go_ret
      exact ⟨rfl, rfl⟩
  · have b1 := decide_eq_false h1
    rw [b1]
    clear h1
    go_enter Tryd.func24, Tryd.ntmps24
    go_wp2_with fail
    go_ret
    exact ⟨rfl, rfl⟩
set_option maxHeartbeats 4000000 in
theorem digit_calls (c : UInt8) (w : World) : Calls Tryd.prog 37 #[.int .u8 (c.toNat : Nat)] w fun e w' => e = .returned (.bool (digitB c)) ∧ w' = w := by
  rw [digit_bool c]
  by_cases h1 : (c.toNat : Int) ≥ 48
  · have b1 := decide_eq_true h1
    rw [b1]
    go_enter Tryd.func37, Tryd.ntmps37
    go_wp2_with fail
    go_ret
    exact ⟨rfl, rfl⟩
  · have b1 := decide_eq_false h1
    rw [b1]
    clear h1
    go_enter Tryd.func37, Tryd.ntmps37
    go_wp2_with fail
    go_ret
    exact ⟨rfl, rfl⟩
set_option maxHeartbeats 4000000 in
theorem wordByte_calls (c : UInt8) (w : World) : Calls Tryd.prog 26 #[.int .u8 (c.toNat : Nat)] w fun e w' => e = .returned (.bool (wordB c)) ∧ w' = w := by
  have HL := Lib.hid (letter_calls c w); have HD := Lib.hid (digit_calls c w)
  unfold wordB
  generalize digitB c = db at *
  cases hl : letterB c with
  | true =>
    rw [hl] at HL
    go_enter Tryd.func26, Tryd.ntmps26
    go_wp2_with fail
    refine HL.out.mono ?_
    rintro e w1 ⟨rfl, rfl⟩
    go_wp2_with fail
    go_ret
    exact ⟨rfl, rfl⟩
  | false =>
    rw [hl] at HL
    go_enter Tryd.func26, Tryd.ntmps26
    go_wp2_with fail
    refine HL.out.mono ?_
    rintro e w1 ⟨rfl, rfl⟩
    go_wp2_with fail
    refine HD.out.mono ?_
    rintro e w1 ⟨rfl, rfl⟩
    go_wp2_with fail
    go_ret
    exact ⟨rfl, rfl⟩
theorem blank_ix (c : UInt8) : decide ((0 : Int) ≤ Lib.indexByte [32, 9, 10, 13] c) = blankB c := all256 (fun c => decide ((0 : Int) ≤ Lib.indexByte [32, 9, 10, 13] c) = blankB c) (by decide +kernel) c
set_option maxHeartbeats 4000000 in
theorem skip1_calls (c : UInt8) (w : World) : Calls Tryd.prog 39 #[.int .u8 (c.toNat : Nat)] w fun e w' => e = .returned (.bool (blankB c)) ∧ w' = w := by
  have hb := blank_ix c
  have HB := Lib.hid hb
  have hc := Tryd.strings_IndexByte ⟨#[32, 9, 10, 13]⟩ (c.toNat : Int)
  have HC := Lib.hid hc
  clear hb hc
  go_enter Tryd.func39, Tryd.ntmps39
  go_wp2_with fail
  refine (HC.out w).mono ?_
  rintro e w1 ⟨rfl, rfl⟩
  go_wp2_with fail
  go_ret
  refine ⟨?_, rfl⟩
  rw [← HB.out]
  rfl
set_option maxHeartbeats 4000000 in
theorem skip2_calls (c : UInt8) (w : World) : Calls Tryd.prog 41 #[.int .u8 (c.toNat : Nat)] w fun e w' => e = .returned (.bool (c != 10)) ∧ w' = w := by
  have hb : ((c.toNat : Int) != 10) = (c != 10) := all256 (fun c => ((c.toNat : Int) != 10) = (c != 10)) (by decide +kernel) c
  have HB := Lib.hid hb
  clear hb
  go_enter Tryd.func41, Tryd.ntmps41
  go_wp2_with fail
  go_ret
  refine ⟨?_, rfl⟩
  rw [← HB.out]
  rfl
set_option maxHeartbeats 4000000 in
theorem one1_calls (c : UInt8) (w : World) : Calls Tryd.prog 43 #[.int .u8 (c.toNat : Nat)] w fun e w' => e = .returned (.bool (strB c)) ∧ w' = w := by
  have hb : (((c.toNat : Int) != 34) && ((c.toNat : Int) != 10)) = strB c := all256 (fun c => (((c.toNat : Int) != 34) && ((c.toNat : Int) != 10)) = strB c) (by decide +kernel) c
  have HB := Lib.hid hb
  clear hb
  rw [← HB.out]
  cases h1 : ((c.toNat : Int) != 34) with
  | true =>
    go_enter Tryd.func43, Tryd.ntmps43
    go_wp2_with fail
    go_ret
    exact ⟨rfl, rfl⟩
  | false =>
    go_enter Tryd.func43, Tryd.ntmps43
    go_wp2_with fail
    go_ret
    exact ⟨rfl, rfl⟩

end Go.Proofs.YtgpdahgpopmjiaaDoor.PL
