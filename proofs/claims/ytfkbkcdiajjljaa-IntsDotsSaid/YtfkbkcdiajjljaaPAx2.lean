/- The functions that these laws reach, each as a Lean function, with the proof that the Go code comes to what it answers: for every input for which it answers. Text by a program for this claim. -/
import Derived.Test.YtfkbkcdiajjljaaPAx0
import Derived.Test.YtfkbkcdiajjljaaPAx1
import Derived.Laws.MathBits
import Derived.Lib.Strings
import Derived.Lib.Slices
import Derived.Lib.Small
import Derived.Lib.Walk
import Derived.Lib.BitFns
import Derived.Lib.RabinKarpLaws
import Derived.Lib.Hide
import Derived.RangeFuncNested
import Derived.RangeFuncBound
import Derived.RangeFuncCalls
import Derived.RangeFuncLeaves
import Derived.Shelf.Abstract
import Derived.Shelf.RegionOpen
import Derived.OwnWalkIn
import Derived.TacticsInMore
import Derived.LoopNIn
import Derived.LoopIn
namespace Go.Proofs.Ytfkbkcdiajjljaa.PA
open Go.RowKit Go.Proofs.YtfkbkcdiajjljaaW.PrintWords Go.Proofs.YtfkbkcdiajjljaaW.PrintLast Go.Proofs.YtfkbkcdiajjljaaW.PrintMore
attribute [local go_sem] max2_int min2_int max_two min_two max_three min_three max_four min_four   -- for this text's walks alone
set_option linter.unusedVariables false
set_option linter.unusedSimpArgs false

-- MAKING
/-! ### whole numbers of 64 bits: reckoned, or beyond -/
def fits (x : Int) : Prop := -9223372036854775808 ≤ x ∧ x ≤ 9223372036854775807
instance (x : Int) : Decidable (fits x) := inferInstanceAs (Decidable (_ ∧ _))
def reck (x : Int) : Int × Int := if fits x then (x, 0) else (0, 10)

theorem mul_parts (x1 x0 y1 y0 : Int) : (x1 * 4294967296 + x0) * (y1 * 4294967296 + y0) = (x1 * y1) * 18446744073709551616 + (x1 * y0 + x0 * y1) * 4294967296 + x0 * y0 := by
  simp only [Int.add_mul, Int.mul_add]
  have e1 : x1 * 4294967296 * (y1 * 4294967296) = (x1 * y1) * 18446744073709551616 := by
    rw [Int.mul_assoc, Int.mul_left_comm 4294967296 y1, ← Int.mul_assoc]; rfl
  have e2 : x1 * 4294967296 * y0 = (x1 * y0) * 4294967296 := by rw [Int.mul_assoc, Int.mul_comm 4294967296, ← Int.mul_assoc]
  have e3 : x0 * (y1 * 4294967296) = (x0 * y1) * 4294967296 := by rw [← Int.mul_assoc]
  rw [e1, e2, e3]
  omega

theorem mul_le_of (a b : Int) (ha : 0 ≤ a) (hb : 0 ≤ b) (ha' : a ≤ 4294967295) (hb' : b ≤ 4294967295) : 0 ≤ a * b ∧ a * b ≤ 18446744065119617025 := by
  refine ⟨Int.mul_nonneg ha hb, ?_⟩
  have := Int.mul_le_mul ha' hb' hb (by omega)
  omega

theorem bits_Mul64.spec (x y : Int) (hx : 0 ≤ x ∧ x < 18446744073709551616) (hy : 0 ≤ y ∧ y < 18446744073709551616) :
    bits_Mul64.f x y = some (x * y / 18446744073709551616, x * y % 18446744073709551616) := by
  unfold bits_Mul64.f
  rw [and_low32 x hx.1 hx.2, and_low32 y hy.1 hy.2]
  have hxe : x = x / 4294967296 * 4294967296 + x % 4294967296 := by omega
  have hye : y = y / 4294967296 * 4294967296 + y % 4294967296 := by omega
  have hxy : x * y = (x / 4294967296 * (y / 4294967296)) * 18446744073709551616 + (x / 4294967296 * (y % 4294967296) + x % 4294967296 * (y / 4294967296)) * 4294967296 + x % 4294967296 * (y % 4294967296) := by
    have := mul_parts (x / 4294967296) (x % 4294967296) (y / 4294967296) (y % 4294967296)
    rw [← hxe, ← hye] at this
    exact this
  have b1 := mul_le_of (x / 4294967296) (y / 4294967296) (by omega) (by omega) (by omega) (by omega)
  have b2 := mul_le_of (x / 4294967296) (y % 4294967296) (by omega) (by omega) (by omega) (by omega)
  have b3 := mul_le_of (x % 4294967296) (y / 4294967296) (by omega) (by omega) (by omega) (by omega)
  have b4 := mul_le_of (x % 4294967296) (y % 4294967296) (by omega) (by omega) (by omega) (by omega)
  have hxyn : 0 ≤ x * y := Int.mul_nonneg hx.1 hy.1
  generalize x * y = p at *
  generalize x / 4294967296 * (y / 4294967296) = p11 at *
  generalize x / 4294967296 * (y % 4294967296) = p10 at *
  generalize x % 4294967296 * (y / 4294967296) = p01 at *
  generalize x % 4294967296 * (y % 4294967296) = p00 at *
  clear hxe hye hx hy
  rw [IntWalk.u64_in p11 (by omega), IntWalk.u64_in p10 (by omega), IntWalk.u64_in p00 (by omega), IntWalk.u64_in p01 (by omega)]
  rw [IntWalk.u64_in (p10 + p00 / 4294967296) (by omega)]
  rw [and_low32 _ (by omega) (by omega)]
  rw [IntWalk.u64_in (p11 + (p10 + p00 / 4294967296) / 4294967296) (by omega), IntWalk.u64_in ((p10 + p00 / 4294967296) % 4294967296 + p01) (by omega)]
  rw [IntWalk.u64_in _ (by omega)]
  rw [IntKind.wrap_u64]
  refine congrArg some (Prod.ext ?_ ?_)
  · show _ = p / 18446744073709551616
    omega
  · rfl

theorem ints_size.spec (a : Int) (ha : fits a) : ints_size.f a = some (a.natAbs : Int) := by
  unfold fits at ha
  unfold ints_size.f
  simp only [IntKind.wrap_u64]
  by_cases h : a < 0
  · rw [if_pos h]; congr 1; omega
  · rw [if_neg h]; congr 1; omega

theorem ints_signed.spec (k : Nat) (n : Int) (m : Bool) (h0 : 0 ≤ n) (h1 : n < 18446744073709551616) :
    ints_signed.f (k + 1) n m = some (reck (if m = true then -n else n)) := by
  unfold ints_signed.f reck fits
  cases m
  · simp only [Bool.false_eq_true, if_false, ints_signed.j0, wrap64]
    by_cases h : n ≤ 9223372036854775807
    · rw [if_pos h, if_pos (by omega)]; congr 2; omega
    · rw [if_neg h, if_neg (by omega)]
  · simp only [if_true, ints_signed.j0, wrap64, decide_eq_true_eq]
    by_cases h : n ≤ 9223372036854775808
    · rw [if_pos h, if_pos (by omega)]; congr 2; omega
    · rw [if_neg h, if_neg (by omega)]

theorem sign_mul (a b : Int) : (if ((decide (a < 0)) != (decide (b < 0))) = true then -((a.natAbs : Int) * (b.natAbs : Int)) else (a.natAbs : Int) * (b.natAbs : Int)) = a * b := by
  by_cases ha : a < 0 <;> by_cases hb : b < 0
  · rw [decide_eq_true ha, decide_eq_true hb]
    rw [show (a.natAbs : Int) = -a from by omega, show (b.natAbs : Int) = -b from by omega]
    simp [Int.neg_mul_neg]
  · rw [decide_eq_true ha, decide_eq_false hb]
    rw [show (a.natAbs : Int) = -a from by omega, show (b.natAbs : Int) = b from by omega]
    simp [Int.neg_mul]
  · rw [decide_eq_false ha, decide_eq_true hb]
    rw [show (a.natAbs : Int) = a from by omega, show (b.natAbs : Int) = -b from by omega]
    simp [Int.mul_neg]
  · rw [decide_eq_false ha, decide_eq_false hb]
    rw [show (a.natAbs : Int) = a from by omega, show (b.natAbs : Int) = b from by omega]
    simp

theorem natAbs_range (a : Int) (ha : fits a) : (0 : Int) ≤ (a.natAbs : Int) ∧ (a.natAbs : Int) < 18446744073709551616 := by unfold fits at ha; omega

theorem ints_Mul.spec (k : Nat) (a b : Int) (ha : fits a) (hb : fits b) : ints_Mul.f (k + 1) a b = some (reck (a * b)) := by
  unfold ints_Mul.f
  rw [ints_size.spec a ha, ints_size.spec b hb]
  simp only [Option.bind_some]
  rw [bits_Mul64.spec _ _ (natAbs_range a ha) (natAbs_range b hb)]
  simp only [Option.bind_some]
  have hs := sign_mul a b
  have hp : (0 : Int) ≤ (a.natAbs : Int) * (b.natAbs : Int) := Int.mul_nonneg (by omega) (by omega)
  generalize (a.natAbs : Int) * (b.natAbs : Int) = p at *
  by_cases h : p / 18446744073709551616 > 0
  · rw [if_pos h]
    unfold reck
    rw [if_neg]
    rw [← hs]
    unfold fits
    split <;> omega
  · rw [if_neg h]
    have e : p % 18446744073709551616 = p := by omega
    rw [e, ints_signed.spec k p _ hp (by omega), hs]
    rfl
theorem len_byte (b : Int) (h0 : 0 ≤ b) (h1 : b ≤ 255) (hb : b.toNat < Lib.len8tab.size) : (((Lib.len8tab[b.toNat]'hb).toNat : Nat) : Int) = (Lib.bitLen b.toNat : Int) := by
  have e := Lib.len8_of b h0 h1
  unfold Lib.len8 at e
  rw [← e]
  simp [hb]
set_option maxRecDepth 100000 in
set_option maxHeartbeats 4000000 in
theorem len64 (x : Int) (w : World) (h0 : 0 ≤ x) (h1 : x ≤ 18446744073709551615) :
    Calls Try.prog 50 #[.int .u64 x] w fun e w' => e = .returned (.int .i64 (Lib.bitLen x.toNat)) ∧ w = w' := by
  have hsz := Lib.len8tab_size
  go_enter Try.func50, Try.ntmps50
  go_wp2
  all_goals (go_ret; refine ⟨congrArg Ending.returned (congrArg (Value.int IntKind.i64) ?_), rfl⟩)
  · rw [len_byte (x / 4294967296 / 65536 / 256) (by omega) (by omega)]
    have l := Lib.bitLen_le8' (x / 4294967296 / 65536 / 256) (by omega) (by omega)
    have s := Lib.bitLen_shift56 x.toNat (by omega) (by omega)
    rw [show (x / 4294967296 / 65536 / 256).toNat = x.toNat / 72057594037927936 by omega] at l ⊢
    unfold wrap64
    omega
  · rw [len_byte (x / 4294967296 / 65536) (by omega) (by omega)]
    have l := Lib.bitLen_le8' (x / 4294967296 / 65536) (by omega) (by omega)
    have s := Lib.bitLen_shift48 x.toNat (by omega) (by omega)
    rw [show (x / 4294967296 / 65536).toNat = x.toNat / 281474976710656 by omega] at l ⊢
    unfold wrap64
    omega
  · rw [len_byte (x / 4294967296 / 256) (by omega) (by omega)]
    have l := Lib.bitLen_le8' (x / 4294967296 / 256) (by omega) (by omega)
    have s := Lib.bitLen_shift40 x.toNat (by omega) (by omega)
    rw [show (x / 4294967296 / 256).toNat = x.toNat / 1099511627776 by omega] at l ⊢
    unfold wrap64
    omega
  · rw [len_byte (x / 4294967296) (by omega) (by omega)]
    have l := Lib.bitLen_le8' (x / 4294967296) (by omega) (by omega)
    have s := Lib.bitLen_shift32 x.toNat (by omega) (by omega)
    rw [show (x / 4294967296).toNat = x.toNat / 4294967296 by omega] at l ⊢
    unfold wrap64
    omega
  · rw [len_byte (x / 65536 / 256) (by omega) (by omega)]
    have l := Lib.bitLen_le8' (x / 65536 / 256) (by omega) (by omega)
    have s := Lib.bitLen_shift24 x.toNat (by omega) (by omega)
    rw [show (x / 65536 / 256).toNat = x.toNat / 16777216 by omega] at l ⊢
    unfold wrap64
    omega
  · rw [len_byte (x / 65536) (by omega) (by omega)]
    have l := Lib.bitLen_le8' (x / 65536) (by omega) (by omega)
    have s := Lib.bitLen_shift16 x.toNat (by omega) (by omega)
    rw [show (x / 65536).toNat = x.toNat / 65536 by omega] at l ⊢
    unfold wrap64
    omega
  · rw [len_byte (x / 256) (by omega) (by omega)]
    have l := Lib.bitLen_le8' (x / 256) (by omega) (by omega)
    have s := Lib.bitLen_shift8 x.toNat (by omega) (by omega)
    rw [show (x / 256).toNat = x.toNat / 256 by omega] at l ⊢
    unfold wrap64
    omega
  · rw [len_byte x (by omega) (by omega)]
    have l := Lib.bitLen_le8' x (by omega) (by omega)
    unfold wrap64
    omega
attribute [local go_sem] Oper.semAt_some

/-- The bits of a number, the highest first: the first k of len. -/
def bitAt (v len j : Nat) : Bool := decide (v / 2 ^ (len - 1 - j) % 2 = 1)
def bitsUpto (v len k : Nat) : List Bool := (List.range k).map (bitAt v len)
theorem bitsUpto_succ (v len k : Nat) : bitsUpto v len (k + 1) = bitsUpto v len k ++ [bitAt v len k] := by simp [bitsUpto, List.range_succ]
/-- what a round must keep: the number's variable -/
def keepsCell (B : Nat) (W W' : World) : Prop := W'.cell? ⟨B, 0, none⟩ = W.cell? ⟨B, 0, none⟩

theorem bitAt_eq (v len k : Nat) (hv : v < 9223372036854775808) : (bits BinOp.and IntKind.i64 ((v : Int) / 2 ^ (len - 1 - k)) 1 == 1) = bitAt v len k := by
  have e : ((v : Int) / 2 ^ (len - 1 - k)) = ((v / 2 ^ (len - 1 - k) : Nat) : Int) := by norm_cast
  have hlt : v / 2 ^ (len - 1 - k) < 9223372036854775808 := Nat.lt_of_le_of_lt (Nat.div_le_self _ _) hv
  rw [e, and_one _ hlt]
  unfold bitAt
  generalize v / 2 ^ (len - 1 - k) = x at *
  rw [Bool.eq_iff_iff]
  simp
  omega
theorem bitLenAux_le (f x : Nat) : Lib.bitLenAux f x ≤ f := by
  induction f generalizing x with
  | zero => simp [Lib.bitLenAux]
  | succ f ih => simp only [Lib.bitLenAux]; split; omega; have := ih (x / 2); omega
theorem bitLen_le (x : Nat) : Lib.bitLen x ≤ 64 := bitLenAux_le 64 x
theorem bitLenAux_lt (f x : Nat) (h : x < 2 ^ f) : x < 2 ^ Lib.bitLenAux f x := by
  induction f generalizing x with
  | zero => simpa [Lib.bitLenAux] using h
  | succ f ih =>
    simp only [Lib.bitLenAux]
    split
    · omega
    · have := ih (x / 2) (by rw [Nat.pow_succ] at h; omega)
      rw [Nat.add_comm, Nat.pow_succ]
      omega
theorem bitLen_lt (x : Nat) (h : x < 18446744073709551616) : x < 2 ^ Lib.bitLen x := bitLenAux_lt 64 x h
open Go.Shelf in
set_option maxHeartbeats 1000000 in
theorem digits_stops (n : Nat) (hn : 1 ≤ n) (B : Nat) (v : Nat) (hv : v < 9223372036854775808) (w : World) (hc : w.cell? ⟨B, 0, none⟩ = some (.int .i64 v)) :
    SeqStopsK Fence.wide n Try.prog 49 #[.pointer (some ⟨B, 0, none⟩)] (fun b : Bool => #[.bool b]) (keepsCell B)
      (fun xs => xs = bitsUpto v (Lib.bitLen v) (Lib.bitLen v)) (fun pre => ∃ k, k < Lib.bitLen v ∧ pre = bitsUpto v (Lib.bitLen v) (k + 1)) (Lib.bitLen v) w := fun l J Jx W hW hJ hJx hY h0 => by
  refine callsIn_of_wp Try.func49 rfl trivial ?_ rfl
  simp only [Try.ntmps49, List.size_toArray, List.length_cons, List.length_nil, Nat.reduceAdd, Nat.reduceSub, Array.replicate_succ, Array.replicate_zero, List.push_toArray, List.append_toArray, List.nil_append, List.cons_append]
  have hcW : W.cell? ⟨B, 0, none⟩ = some (.int .i64 v) := (hW.cell (p := ⟨B, 0, none⟩) (World.block_lt_of_cell? w _ hc)).trans hc
  have hl64 := bitLen_le v
  gi_wp2_with (refine ⟨trivial, ?_⟩; refine (callsIn_wide.2 (len64 _ _ (by omega) (by omega))).mono ?_; rintro e w' ⟨rfl, rfl⟩)
  gi_loopw [3] (fun i wr => ∃ k : Nat, k ≤ Lib.bitLen v ∧ i = .int .i64 ((Lib.bitLen v : Int) - 1 - k) ∧ J (bitsUpto v (Lib.bitLen v) k) wr ∧ wr.cell? ⟨B, 0, none⟩ = some (.int .i64 v))
    (fun i _ => (intOf i + 1).toNat)
  case atStart => exact ⟨0, by omega, by go_num, h0, hcW⟩
  case round => 
    obtain ⟨k, hk, rfl, hJk, hck⟩ := hrel
    by_cases hlt : k < Lib.bitLen v
    · obtain ⟨fn, tmps, assign, body, hy, hR⟩ := hY _ (bitAt v (Lib.bitLen v) k) wr hJk (by simpa [bitsUpto] using hlt)
      rw [← bitAt_eq v (Lib.bitLen v) k hv] at hy
      gi_wp2
      refine hR.mono ?_
      rintro e W' (⟨rfl, hJ', hk'⟩ | ⟨rfl, hJx'⟩)
      · have hc' : W'.cell? ⟨B, 0, none⟩ = some (.int .i64 v) := Eq.trans hk' hck
        gi_wp2
        go_roundw
        case rel => exact ⟨k + 1, by omega, by go_num, by rw [bitsUpto_succ]; exact hJ', hc'⟩
        case measure => simp [intOf]; omega
      · gi_wp2
        refine bodyPost_ret (results_none rfl _ _ _) rfl ?_
        exact ⟨⟨_, rfl⟩, .inr ⟨_, ⟨k, hlt, (bitsUpto_succ _ _ _).symm⟩, hJx'⟩⟩
    · obtain rfl : k = Lib.bitLen v := by omega
      gi_wp2
      go_end0
      exact ⟨⟨_, rfl⟩, .inl ⟨_, rfl, hJk⟩⟩
set_option maxRecDepth 100000 in
theorem digits_calls (b : Int) (w : World) : Calls Try.prog 44 #[.int .i64 b] w fun e w' => e = .returned (.func (.func 49) #[] #[.pointer (some ⟨w.heap.size, 0, none⟩)]) ∧ w.alloc (.cells #[.int .i64 b] 2) = w' := by
  have hmf : ∀ (fn : Fn) (first cap : Array Value) (w : World), (Instr.makeFunc fn first cap).run Try.prog w = .ok (.func fn first cap) w := fun _ _ _ _ => rfl
  go_enter Try.func44, Try.ntmps44
  go_wp2
  go_ret
  exact ⟨rfl, rfl⟩

/-- the number of bits that came, the highest first -/
def valOf (l : List Bool) : Nat := l.foldl (fun p b => 2 * p + (if b then 1 else 0)) 0
theorem valOf_snoc (l : List Bool) (b : Bool) : valOf (l ++ [b]) = 2 * valOf l + (if b then 1 else 0) := by simp [valOf]
theorem valOf_upto (v len : Nat) (h : v < 2 ^ len) : ∀ k, k ≤ len → valOf (bitsUpto v len k) = v / 2 ^ (len - k)
  | 0, _ => by simp [bitsUpto, valOf]; exact (Nat.div_eq_of_lt h).symm
  | k + 1, hk => by
    rw [bitsUpto_succ, valOf_snoc, valOf_upto v len h k (by omega)]
    have e : 2 ^ (len - k) = 2 ^ (len - (k + 1)) * 2 := by rw [← Nat.pow_succ]; congr 1; omega
    have e2 : len - 1 - k = len - (k + 1) := by omega
    unfold bitAt
    rw [e, ← Nat.div_div_eq_div_mul, e2]
    generalize v / 2 ^ (len - (k + 1)) = x
    by_cases h1 : x % 2 = 1
    · simp [h1]; omega
    · simp [h1]; omega

theorem pow_abs_le {a : Int} (ha : 2 ≤ a.natAbs) {p q : Nat} (h : p ≤ q) : a.natAbs ^ p ≤ a.natAbs ^ q := Nat.pow_le_pow_right (by omega) h
theorem pow_natAbs (a : Int) (p : Nat) : (a ^ p).natAbs = a.natAbs ^ p := Int.natAbs_pow a p
/-- what is beyond stays beyond -/
theorem beyond_up {a : Int} (ha : 2 ≤ a.natAbs) {p q : Nat} (hpq : p ≤ q) (h : ¬ fits (a ^ p)) : ¬ fits (a ^ q) := by
  by_cases e : p = q
  · subst e; exact h
  · have h1 : a.natAbs ^ (p + 1) ≤ a.natAbs ^ q := pow_abs_le ha (by omega)
    have h2 : 2 * a.natAbs ^ p ≤ a.natAbs ^ (p + 1) := by rw [Nat.pow_succ, Nat.mul_comm]; exact Nat.mul_le_mul_left _ ha
    rw [← pow_natAbs a p] at h2
    rw [← pow_natAbs a q] at h1
    unfold fits at *
    omega

/-- the powers that are told at once -/
def smallS (a b : Int) : Option (Int × Int) :=
  if b = 0 then some (1, 0) else if a = 1 then some (1, 0) else if a = -1 then (if b % 2 = 0 then some (1, 0) else some (-1, 0))
  else if a = 0 then (if b < 0 then some (0, 11) else some (0, 0)) else if b < 0 then some (0, 0) else none
def powS (a b : Int) : Int × Int := match smallS a b with | some r => r | none => reck (a ^ b.toNat)
theorem ints_small.spec (a b : Int) : ints_small.f 3 a b = some (match smallS a b with | some (n, e) => (n, e, true) | none => (0, 0, false)) := by
  have ht : (Int.tmod b 2 == 0) = decide (b % 2 = 0) := by
    rw [Bool.eq_iff_iff]; simp only [beq_iff_eq, decide_eq_true_eq]; rw [← Int.dvd_iff_tmod_eq_zero, Int.dvd_iff_emod_eq_zero]
  unfold ints_small.f smallS
  by_cases h1 : b = 0
  · simp [h1, ints_small.j0]
  · by_cases h2 : a = 1
    · simp [h1, h2, ints_small.j0]
    · by_cases h3 : a = -1
      · rw [if_neg h1, if_neg h2, if_pos h3, if_neg h1, if_neg h2, if_pos h3, ht]
        by_cases h4 : b % 2 = 0 <;> simp [h3, h4, ints_small.j0]
      · by_cases h4 : a = 0
        · by_cases h5 : b < 0 <;> simp [h1, h4, h5, ints_small.j0, ints_small.j1]
        · by_cases h5 : b < 0 <;> simp [h1, h2, h3, h4, h5, ints_small.j0, ints_small.j1]
theorem smallS_none {a b : Int} (h : smallS a b = none) : 2 ≤ a.natAbs ∧ 0 < b := by
  unfold smallS at h
  by_cases h1 : b = 0
  · simp [h1] at h
  · by_cases h2 : a = 1
    · simp [h1, h2] at h
    · by_cases h3 : a = -1
      · by_cases h4 : b % 2 = 0 <;> simp [h1, h3, h4] at h
      · by_cases h4 : a = 0
        · by_cases h5 : b < 0 <;> simp [h1, h4, h5] at h
        · by_cases h5 : b < 0
          · simp [h1, h2, h3, h4, h5] at h
          · omega

def ints_Pow.f (a0 a1 : Int) : Option (Int × Int) := if fits a0 ∧ fits a1 then some (powS a0 a1) else none

set_option maxRecDepth 100000 in
set_option maxHeartbeats 2000000 in
theorem pow_small (a b n e : Int) (w : World) (h : smallS a b = some (n, e)) :
    Calls Try.prog 17 #[.int .i64 a, .int .i64 b] w fun e' w' => e' = .returned (.tuple #[.int .i64 n, .int .i64 e]) ∧ Below w.heap.size w w' := by
  have hs := ints_small.spec a b
  rw [h] at hs
  have Hs := Lib.hid hs; clear hs h
  go_enter Try.func17, Try.ntmps17
  go_wp2_with fail
  go_step3
  go_wp2_with fail
  refine (ints_small.calls 3 _ _ _ _ _ _ Hs.out).mono ?_
  rintro e w' ⟨rfl, ⟨nd, rfl⟩⟩
  go_wp2_with fail
  rw [Exit.noGoto_ret]
  go_ret2
  exact ⟨rfl, by first | exact pw_below_drewN ((Below.refl _ _).alloc (Nat.le_refl _) _) _ | exact (Below.refl _ _).alloc (Nat.le_refl _) _⟩

theorem keepsOthers_drewN (W : World) (n : Nat) : KeepsOthers W (W.drewN n) := ⟨Nat.le_refl _, fun _ _ h _ => h⟩
/-- two variables are written, one behind the other -/
theorem after_two (W : World) (s d : Nat) (x y z v e : Value)
    (g0 : W.cell? ⟨s, 0, none⟩ = some z) (g1 : W.cell? ⟨s + 1, 0, none⟩ = some x) (g2 : W.cell? ⟨s + 1 + 1, 0, none⟩ = some y)
    (k1 : W.frozen? ⟨s + 1, 0, none⟩ = false) (k2 : W.frozen? ⟨s + 1 + 1, 0, none⟩ = false) :
    ∀ W', ((W.drewN d).setCell ⟨s + 1, 0, none⟩ v).setCell ⟨s + 1 + 1, 0, none⟩ e = W' →
      W'.cell? ⟨s, 0, none⟩ = some z ∧ W'.cell? ⟨s + 1, 0, none⟩ = some v ∧ W'.cell? ⟨s + 1 + 1, 0, none⟩ = some e ∧ keepsCell (s + 1 + 1 + 1) W W' ∧
      W'.frozen? ⟨s + 1, 0, none⟩ = false ∧ W'.frozen? ⟨s + 1 + 1, 0, none⟩ = false ∧ KeepsOthers W W' ∧ ∀ w0, s ≤ w0.heap.size → Below s w0 W → Below s w0 W' := by
  rintro W' rfl
  refine ⟨?_, ?_, ?_, ?_, ?_, ?_, ?_, ?_⟩
  · simp [go_sem, g0]
  · simp [go_sem, g1]
  · simp [go_sem, g2]
  · unfold keepsCell; simp [go_sem]
  · simp [go_sem, k1]
  · simp [go_sem, k2]
  · exact ((keepsOthers_drewN W d).trans (KeepsOthers.setCell _ _ _)).trans (KeepsOthers.setCell _ _ _)
  · intro w0 h0 hB
    exact ((pw_below_drewN hB d).setCell (p := ⟨s + 1, 0, none⟩) (by simp) _).setCell (p := ⟨s + 1 + 1, 0, none⟩) (by simp; omega) _
set_option maxRecDepth 100000 in
set_option maxHeartbeats 2000000 in
theorem pow_big (a b : Int) (w : World) (ha : fits a) (hb : fits b) (h : smallS a b = none) :
    Calls Try.prog 17 #[.int .i64 a, .int .i64 b] w fun e' w' => e' = .returned (.tuple #[.int .i64 (reck (a ^ b.toNat)).1, .int .i64 (reck (a ^ b.toNat)).2]) ∧ Below w.heap.size w w' := by
  have hs := ints_small.spec a b
  rw [h] at hs
  have Hs := Lib.hid hs; clear hs
  have hbig := smallS_none h
  have Hb := Lib.hid hbig; clear hbig h
  refine (callsIn_wide (n := 5)).1 ?_
  refine callsIn_of_wp_marks Try.func17 rfl trivial ?_ rfl
  simp only [Try.ntmps17, List.size_toArray, List.length_cons, List.length_nil, Nat.reduceAdd, Nat.reduceSub, Array.replicate_succ, Array.replicate_zero, List.push_toArray, List.append_toArray, List.nil_append, List.cons_append]
  refine wpIn_wide.2 ?_
  go_wp2_with fail
  go_step3
  go_wp2_with fail
  refine (ints_small.calls 3 _ _ _ _ _ _ Hs.out).mono ?_
  rintro e w' ⟨rfl, ⟨nd, rfl⟩⟩
  go_wp2_with fail
  go_step3
  go_wp2_with fail
  refine (digits_calls b _).mono ?_
  rintro e w' ⟨rfl, rfl⟩
  go_wp2_with fail
  have hbelow : Below w.heap.size w (((((w.alloc (Obj.cells #[Value.int IntKind.i64 a] 2)).drewN nd).alloc (Obj.cells #[Value.int IntKind.i64 1] 2)).alloc (Obj.cells #[Value.int IntKind.i64 0] 22)).alloc (Obj.cells #[Value.int IntKind.i64 b] 2)) :=
    below_alloc (below_alloc (below_alloc (pw_below_drewN (below_alloc (Below.refl _ _) _) _) _) _) _
  generalize hW : World.alloc _ (Obj.cells #[Value.int IntKind.i64 b] 2) = W0 at hbelow
  have hsz : W0.heap.size = w.heap.size + 4 := by rw [← hW]; (first | (simp; done) | (go_simp; done) | (simp [go_sem]; done))
  have c0 : W0.cell? ⟨w.heap.size, 0, none⟩ = some (.int .i64 a) := by rw [← hW]; (first | (simp; done) | (go_simp; done) | (simp [go_sem]; done))
  have c1 : W0.cell? ⟨w.heap.size + 1, 0, none⟩ = some (.int .i64 1) := by rw [← hW]; (first | (simp; done) | (go_simp; done) | (simp [go_sem]; done))
  have c2 : W0.cell? ⟨w.heap.size + 1 + 1, 0, none⟩ = some (.int .i64 0) := by rw [← hW]; (first | (simp; done) | (go_simp; done) | (simp [go_sem]; done))
  have c3 : W0.cell? ⟨w.heap.size + 1 + 1 + 1, 0, none⟩ = some (.int .i64 b) := by rw [← hW]; (first | (simp; done) | (go_simp; done) | (simp [go_sem]; done))
  have f1 : W0.frozen? ⟨w.heap.size + 1, 0, none⟩ = false := by rw [← hW]; (first | (simp; done) | (go_simp; done) | (simp [go_sem]; done))
  have f2 : W0.frozen? ⟨w.heap.size + 1 + 1, 0, none⟩ = false := by rw [← hW]; (first | (simp; done) | (go_simp; done) | (simp [go_sem]; done))
  clear hW
  obtain ⟨bn, rfl⟩ : ∃ bn : Nat, b = bn := ⟨b.toNat, by have := Hb.out; omega⟩
  have hbn : bn < 9223372036854775808 := by unfold fits at hb; omega
  have hlen := bitLen_lt bn (by omega)
  refine (wpIn_wide (n := 5)).1 ?_
  refine wpIn_rangeFunc_ownF rfl (by decide) (gf := 49) (lb := #[.pointer (some ⟨w.heap.size + 1 + 1 + 1, 0, none⟩)]) rfl trivial (enters_of Try.func49 (by kernel_rfl) rfl)
    (digits_stops (5 - 1) (by decide) (w.heap.size + 1 + 1 + 1) bn hbn W0 c3) (fun h k => Eq.trans k h)
    (fun W l o o' hl ho hoc _ => by
      show (W.putObj l o').cell? _ = W.cell? _
      exact World.cell?_of_block (World.putObj_heap_other (by show w.heap.size + 1 + 1 + 1 ≠ l; omega)))
    (Below.refl _ _) (fun _ => rfl)
    (fun pre W => ((W.cell? ⟨w.heap.size, 0, none⟩ = some (.int .i64 a) ∧ (fits (a ^ valOf pre) ∧ W.cell? ⟨w.heap.size + 1, 0, none⟩ = some (.int .i64 (a ^ valOf pre))) ∧ W.cell? ⟨w.heap.size + 1 + 1, 0, none⟩ = some (.int .i64 0)
      ∧ W.frozen? ⟨w.heap.size + 1, 0, none⟩ = false ∧ W.frozen? ⟨w.heap.size + 1 + 1, 0, none⟩ = false) ∧ Below w.heap.size w W))
    (fun c pre W => (c = .exit 0 ∧ (∃ q, q ≤ valOf pre ∧ ¬ fits (a ^ q)) ∧ W.cell? ⟨w.heap.size + 1 + 1, 0, none⟩ = some (.int .i64 10)) ∧ Below w.heap.size w W)
    (OwnFrom.and (Own.from (fun s A B row hs hg hr => ⟨cell_kept hs.1 hg hr, ⟨hs.2.1.1, cell_kept hs.2.1.2 hg hr⟩, cell_kept hs.2.2.1 hg hr, (frozen_kept hs.2.1.2 hg hr).trans hs.2.2.2.1, (frozen_kept hs.2.2.1 hg hr).trans hs.2.2.2.2⟩) _) (ownFrom_below (Nat.le_refl _) (by omega)))
    (fun c => OwnFrom.and (Own.from (fun s A B row hs hg hr => ⟨hs.1, hs.2.1, cell_kept hs.2.2 hg hr⟩) _) (ownFrom_below (Nat.le_refl _) (by omega)))
    ⟨⟨c0, ⟨by have e : a ^ valOf [] = 1 := Int.pow_zero a; rw [e]; unfold fits; decide, by have e : a ^ valOf [] = 1 := Int.pow_zero a; rw [e]; exact c1⟩, c2, f1, f2⟩, hbelow⟩
    (fun x => { tmps := #[.int .i64 a, .int .i64 bn, .pointer (some ⟨w.heap.size, 0, none⟩), undef, .int .i64 0, .int .i64 0, .int .i64 0, .int .i64 0, .bool false, .pointer (some ⟨w.heap.size + 1, 0, none⟩), .pointer (some ⟨w.heap.size + 1 + 1, 0, none⟩), .bool x, .tuple #[.int .i64 0, .int .i64 0, .bool false], .int .i64 a, .int .i64 bn, .tuple #[.int .i64 0, .int .i64 0, .bool false], .int .i64 0, .int .i64 0, .bool false, .bool false, undef, undef, .int .i64 bn, .func (.func 49) #[] #[.pointer (some ⟨w.heap.size + 1 + 1 + 1, 0, none⟩)], .bool x, undef, undef, undef, undef, undef, undef, undef, undef, undef, undef, undef, undef, undef, undef, undef, undef, undef, undef, undef, undef, undef], defers := [] }) ?assign ?body ?done ?stop
  case assign =>
    intro l x W K hK
    gi_wp2
    exact hK
  case body =>
    rintro l pre x W ⟨⟨g0, ⟨hfit, g1⟩, g2, k1, k2⟩, hB⟩ hlt
    have hsq : a ^ valOf pre * a ^ valOf pre = a ^ (2 * valOf pre) := by rw [← Int.pow_add]; congr 1; omega
    have m1 := ints_Mul.spec 0 _ _ hfit hfit
    rw [hsq] at m1
    have Hsn := Lib.hid (valOf_snoc pre x)
    have Hsq := Lib.hid hsq; clear hsq
    have Hfit := Lib.hid hfit; clear hfit
    generalize hn0 : a ^ valOf pre = n0 at *
    generalize hn2 : a ^ (2 * valOf pre) = n2 at *
    have Hn0 := Lib.hid hn0; clear hn0
    have Hn2 := Lib.hid hn2; clear hn2
    by_cases hf2 : fits n2
    · unfold reck at m1
      rw [if_pos hf2] at m1
      have M1 := Lib.hid m1; clear m1
      gi_wp2_with fail
      refine ⟨trivial, (CallsIn.inRound l (callsIn_wide.2 (ints_Mul.calls 1 _ _ _ _ _ M1.out))).mono ?_⟩
      rintro e w' ⟨rfl, ⟨nd2, rfl⟩⟩
      have ht := after_two W w.heap.size nd2 _ _ _ (.int .i64 n2) (.int .i64 0) g0 g1 g2 k1 k2
      cases x with
      | false =>
        gi_wp2_with fail
        obtain ⟨u0, u1, u2, u3, v1, v2, ko, hb2⟩ := ht _ rfl
        have e : valOf (pre ++ [false]) = 2 * valOf pre := by rw [Hsn.out]; simp
        exact ⟨ko, u3, ⟨u0, ⟨by rw [e, Hn2.out]; exact hf2, by rw [e, Hn2.out]; exact u1⟩, u2, v1, v2⟩, hb2 _ (Nat.le_refl _) hB⟩
      | true =>
        have m2 := ints_Mul.spec 0 n2 a hf2 ha
        have e3 : n2 * a = a ^ (2 * valOf pre + 1) := by rw [← Hn2.out, Int.pow_succ]
        rw [e3] at m2
        have E3 := Lib.hid e3; clear e3
        gi_wp2_with fail
        generalize hW1 : World.setCell _ ⟨w.heap.size + 1 + 1, 0, none⟩ (.int .i64 0) = W1
        obtain ⟨u0, u1, u2, u3, v1, v2, ko, hb2⟩ := ht _ hW1
        clear hW1 ht
        have hsn : valOf (pre ++ [true]) = 2 * valOf pre + 1 := by rw [Hsn.out]; simp
        have Hsn' := Lib.hid hsn; clear hsn
        have hb3 := hb2 _ (Nat.le_refl _) hB
        clear hb2
        generalize hn3 : a ^ (2 * valOf pre + 1) = n3 at *
        have Hn3 := Lib.hid hn3; clear hn3
        by_cases hf3 : fits n3
        · unfold reck at m2
          rw [if_pos hf3] at m2
          have M2 := Lib.hid m2; clear m2
          refine ⟨trivial, (CallsIn.inRound l (callsIn_wide.2 (ints_Mul.calls 1 _ _ _ _ _ M2.out))).mono ?_⟩
          rintro e w' ⟨rfl, ⟨nd3, rfl⟩⟩
          have ht := after_two W1 w.heap.size nd3 _ _ _ (.int .i64 n3) (.int .i64 0) u0 u1 u2 v1 v2
          gi_wp2_with fail
          obtain ⟨x0, x1, x2, x3, y1, y2, ko2, hb4⟩ := ht _ rfl
          exact ⟨ko.trans ko2, Eq.trans x3 u3, ⟨x0, ⟨by rw [Hsn'.out, Hn3.out]; exact hf3, by rw [Hsn'.out, Hn3.out]; exact x1⟩, x2, y1, y2⟩, hb4 _ (Nat.le_refl _) hb3⟩
        · unfold reck at m2
          rw [if_neg hf3] at m2
          have M2 := Lib.hid m2; clear m2
          refine ⟨trivial, (CallsIn.inRound l (callsIn_wide.2 (ints_Mul.calls 1 _ _ _ _ _ M2.out))).mono ?_⟩
          rintro e w' ⟨rfl, ⟨nd3, rfl⟩⟩
          have ht := after_two W1 w.heap.size nd3 _ _ _ (.int .i64 0) (.int .i64 10) u0 u1 u2 v1 v2
          gi_wp2_with fail
          obtain ⟨x0, x1, x2, x3, y1, y2, ko2, hb4⟩ := ht _ rfl
          exact ⟨ko.trans ko2, ⟨rfl, ⟨_, Nat.le_of_eq Hsn'.out.symm, by rw [Hn3.out]; exact hf3⟩, x2⟩, hb4 _ (Nat.le_refl _) hb3⟩
    · unfold reck at m1
      rw [if_neg hf2] at m1
      have M1 := Lib.hid m1; clear m1
      gi_wp2_with fail
      refine ⟨trivial, (CallsIn.inRound l (callsIn_wide.2 (ints_Mul.calls 1 _ _ _ _ _ M1.out))).mono ?_⟩
      rintro e w' ⟨rfl, ⟨nd2, rfl⟩⟩
      have ht := after_two W w.heap.size nd2 _ _ _ (.int .i64 0) (.int .i64 10) g0 g1 g2 k1 k2
      gi_wp2_with fail
      obtain ⟨u0, u1, u2, u3, v1, v2, ko, hb2⟩ := ht _ rfl
      exact ⟨ko, ⟨rfl, ⟨2 * valOf pre, by rw [Hsn.out]; omega, by rw [Hn2.out]; exact hf2⟩, u2⟩, hb2 _ (Nat.le_refl _) hB⟩
  case done =>
    rintro D xs W hD rfl ⟨⟨_, ⟨hfit, g1⟩, g2, _, _⟩, hB⟩ hK
    rw [valOf_upto bn _ hlen _ (Nat.le_refl _), Nat.sub_self, Nat.pow_zero, Nat.div_one] at hfit g1
    have Hfit := Lib.hid hfit; clear hfit
    gi_wp2
    go_wp2
    rw [Exit.noGoto_ret]
    refine ⟨by simp, .inl ⟨_, _, rfl, run_takeDeferred hK, ?_⟩⟩
    have hr : reck (a ^ bn) = (a ^ bn, 0) := by unfold reck; rw [if_pos Hfit.out]
    refine ⟨_, by simp [results, Try.results17, go_sem]; rfl, ?_⟩
    exact ⟨by show _ = Ending.returned (.tuple #[.int .i64 (reck (a ^ bn)).1, .int .i64 (reck (a ^ bn)).2]); rw [hr], hB.trans (belowK_b (w := w) (Nat.le_refl _) W D _ _ (by omega) hK rfl rfl)⟩
  case stop =>
    rintro D c pre W hD ⟨k, hk, rfl⟩ ⟨⟨rfl, ⟨q, hq, hnf⟩, g2⟩, hB⟩ hK
    rw [valOf_upto bn _ hlen _ (by omega)] at hq
    have hnf2 : ¬ fits (a ^ bn) := beyond_up Hb.out.1 (Nat.le_trans hq (Nat.div_le_self _ _)) hnf
    have Hnf := Lib.hid hnf2; clear hnf hnf2 hq
    gi_wp2
    go_wp2
    go_quiet (fail)
    go_wp2
    rw [Exit.noGoto_ret]
    have hK2 : (W.drewN nq).heap[D]? = some (.deferred (some [])) := hK
    refine ⟨by simp, .inl ⟨_, _, rfl, run_takeDeferred hK2, ?_⟩⟩
    have hr : reck (a ^ bn) = (0, 10) := by unfold reck; rw [if_neg Hnf.out]
    refine ⟨_, by simp [results, Try.results17, go_sem]; rfl, ?_⟩
    exact ⟨by show _ = Ending.returned (.tuple #[.int .i64 (reck (a ^ bn)).1, .int .i64 (reck (a ^ bn)).2]); rw [hr], (pw_below_drewN hB _).trans (belowK_b (w := w) (Nat.le_refl _) _ D _ _ (by omega) hK2 rfl rfl)⟩

theorem ints_Pow.calls (a0 : Int) (a1 : Int) (r1 : Int) (r2 : Int) (w : World) (h : ints_Pow.f a0 a1 = some (r1, r2)) :
    Calls Try.prog 17 #[.int .i64 a0, .int .i64 a1] w fun e w' => e = .returned (.tuple #[.int .i64 r1, .int .i64 r2]) ∧ Below w.heap.size w w' := by
  unfold ints_Pow.f at h
  by_cases hf : fits a0 ∧ fits a1
  · rw [if_pos hf] at h
    have h := Option.some.inj h
    unfold powS at h
    cases hs : smallS a0 a1 with
    | some r =>
      rw [hs] at h
      obtain ⟨n, e⟩ := r
      simp only [Prod.mk.injEq] at h
      obtain ⟨rfl, rfl⟩ := h
      exact pow_small a0 a1 _ _ w hs
    | none =>
      rw [hs] at h
      have := pow_big a0 a1 w hf.1 hf.2 hs
      simp only at h
      rw [h] at this
      exact this
  · rw [if_neg hf] at h
    cases h

end Go.Proofs.Ytfkbkcdiajjljaa.PA
