/- Parts of the laws of bits: functions of the program, each with the proof of what it answers; the conditions are those of each theorem. -/
import Derived.Test.YtfkbkcdiajjljaaDoorBs
namespace Go.Proofs.YtfkbkcdiajjljaaDoor.PBitsSteps
open Go.RowKit Go.Proofs.YtfkbkcdiajjljaaDoorW.PrintWords Go.Proofs.YtfkbkcdiajjljaaDoorW.PrintLast Go.Proofs.YtfkbkcdiajjljaaDoorW.PrintMore
set_option linter.unusedVariables false
set_option linter.unusedSimpArgs false
theorem i64_and_nat (a b : Nat) (ha : a < 9223372036854775808) (hb : b < 9223372036854775808) : Go.bits .and .i64 (a : Int) (b : Int) = ((a &&& b : Nat) : Int) := by
  have hx : a &&& b ≤ a := Nat.and_le_left
  show IntKind.i64.wrap ((BitVec.ofInt 64 (a : Int) &&& BitVec.ofInt 64 (b : Int)).toNat : Int) = _
  rw [BitVec.toNat_and, ofInt_u64 a (by omega), ofInt_u64 b (by omega)]
  exact (IntWalk.i64_left _).trans (IntWalk.wrap64_in ((a &&& b : Nat) : Int) (by omega))
theorem and_i64_127 (x : Nat) (h : x < 9223372036854775808) : bits .and .i64 (x : Int) 127 = ((x % 128 : Nat) : Int) := by
  have e := i64_and_nat x 127 h (by decide)
  rw [show ((127 : Nat) : Int) = 127 from rfl] at e
  rw [e, show (127 : Nat) = 2 ^ 7 - 1 from rfl, Nat.and_two_pow_sub_one_eq_mod]
set_option maxHeartbeats 4000000 in
theorem ones64 (n : Nat) (hn : n < 18446744073709551616) (w : World) :
    Calls Tryd.prog 62 #[.int .u64 n] w fun e w' => e = .returned (.int .i64 (popN 64 n : Nat)) ∧ w' = w := by
  obtain ⟨a1, ha1⟩ : ∃ a1, a1 = (n / 2) &&& 6148914691236517205 := ⟨_, rfl⟩
  obtain ⟨b1, hb1⟩ : ∃ b1, b1 = n &&& 6148914691236517205 := ⟨_, rfl⟩
  obtain ⟨x1, hx1⟩ : ∃ x1, x1 = a1 + b1 := ⟨_, rfl⟩
  obtain ⟨a2, ha2⟩ : ∃ a2, a2 = (x1 / 4) &&& 3689348814741910323 := ⟨_, rfl⟩
  obtain ⟨b2, hb2⟩ : ∃ b2, b2 = x1 &&& 3689348814741910323 := ⟨_, rfl⟩
  obtain ⟨x2, hx2⟩ : ∃ x2, x2 = a2 + b2 := ⟨_, rfl⟩
  obtain ⟨y, hy⟩ : ∃ y, y = x2 / 16 + x2 := ⟨_, rfl⟩
  obtain ⟨x3, hx3⟩ : ∃ x3, x3 = y &&& 1085102592571150095 := ⟨_, rfl⟩
  obtain ⟨x4, hx4⟩ : ∃ x4, x4 = x3 + x3 / 256 := ⟨_, rfl⟩
  obtain ⟨x5, hx5⟩ : ∃ x5, x5 = x4 + x4 / 65536 := ⟨_, rfl⟩
  obtain ⟨x6, hx6⟩ : ∃ x6, x6 = x5 + x5 / 4294967296 := ⟨_, rfl⟩
  obtain ⟨p1, p2, p3⟩ := pop_steps n hn x1 x2 x3 (by rw [hx1, ha1, hb1]) (by rw [hx2, ha2, hb2]) (by rw [hx3, hy])
  have hp := pops_sum n hn x4 x5 x6 (by rw [hx4, p1]) hx5 hx6
  have HP := Lib.hid hp.1
  have hx6' := hp.2
  clear hp p1
  have q1 : bits .and .u64 ((n : Int) / 2) 6148914691236517205 = a1 := by rw [ha1]; exact u64_and_nat (n / 2) 6148914691236517205 (by omega) (by decide)
  have q2 : bits .and .u64 (n : Int) 6148914691236517205 = b1 := by rw [hb1]; exact u64_and_nat n 6148914691236517205 hn (by decide)
  have q3 : IntKind.u64.wrap ((a1 : Int) + b1) = x1 := by rw [IntKind.wrap_u64]; clear q1 q2; omega
  have q4 : bits .and .u64 ((x1 : Int) / 4) 3689348814741910323 = a2 := by rw [ha2]; exact u64_and_nat (x1 / 4) 3689348814741910323 (by clear q1 q2 q3; omega) (by decide)
  have q5 : bits .and .u64 (x1 : Int) 3689348814741910323 = b2 := by rw [hb2]; exact u64_and_nat x1 3689348814741910323 p2 (by decide)
  have hx2' : x2 < 18446744073709551616 := Nat.lt_of_le_of_lt p3 (by decide)
  have q6 : IntKind.u64.wrap ((a2 : Int) + b2) = x2 := by rw [IntKind.wrap_u64]; clear q1 q2 q3 q4 q5; omega
  have hy1 : y < 18446744073709551616 := by clear q1 q2 q3 q4 q5 q6 hx3; omega
  have q7 : IntKind.u64.wrap ((x2 : Int) / 16 + x2) = y := by rw [IntKind.wrap_u64]; clear q1 q2 q3 q4 q5 q6 hx3; omega
  have q8 : bits .and .u64 (y : Int) 1085102592571150095 = x3 := by rw [hx3]; exact u64_and_nat y 1085102592571150095 hy1 (by decide)
  have q9 : IntKind.u64.wrap ((x3 : Int) + (x3 : Int) / 256) = x4 := by rw [IntKind.wrap_u64]; clear q1 q2 q3 q4 q5 q6 q7 q8 hx3; omega
  have q10 : IntKind.u64.wrap ((x4 : Int) + (x4 : Int) / 65536) = x5 := by rw [IntKind.wrap_u64]; clear q1 q2 q3 q4 q5 q6 q7 q8 q9 hx3; omega
  have q11 : IntKind.u64.wrap ((x5 : Int) + (x5 : Int) / 4294967296) = x6 := by rw [IntKind.wrap_u64]; clear q1 q2 q3 q4 q5 q6 q7 q8 q9 q10 hx3; omega
  have q12 : bits .and .i64 (x6 : Int) 127 = (popN 64 n : Nat) := by rw [and_i64_127 x6 hx6', HP.out]
  have q13 : wrap64 (x6 : Int) = x6 := IntWalk.wrap64_in _ (by clear q1 q2 q3 q4 q5 q6 q7 q8 q9 q10 q11 q12 hx3; omega)
  generalize popN 64 n = P at *
  clear HP hy ha1 hb1 hx1 ha2 hb2 hx2 hx3 hx4 hx5 hx6
  have Q1 := Lib.hid q1; have Q2 := Lib.hid q2; have Q3 := Lib.hid q3; have Q4 := Lib.hid q4; have Q5 := Lib.hid q5; have Q6 := Lib.hid q6; have Q7 := Lib.hid q7; have Q8 := Lib.hid q8; have Q9 := Lib.hid q9; have Q10 := Lib.hid q10; have Q11 := Lib.hid q11; have Q12 := Lib.hid q12; have Q13 := Lib.hid q13
  clear q1 q2 q3 q4 q5 q6 q7 q8 q9 q10 q11 q12 q13 p2 p3 hx2' hy1 hx6' hn
  go_enter Tryd.func62, Tryd.ntmps62
  go_wp2_with fail
  go_ret
  refine ⟨?_, rfl⟩
  refine congrArg Ending.returned (congrArg (Value.int IntKind.i64) ?_)
  rw [Q1.out, Q2.out, Q3.out, Q4.out, Q5.out, Q6.out, Q7.out, Q8.out, Q9.out, Q10.out, Q11.out, Q13.out]
  exact Q12.out

end Go.Proofs.YtfkbkcdiajjljaaDoor.PBitsSteps
