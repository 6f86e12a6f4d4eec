/- Parts of the laws of bits: functions of the program, each with the proof of what it answers; the conditions are those of each theorem. -/
import Derived.Test.YtfkbkcdiajjljaaDoorBr
namespace Go.Proofs.YtfkbkcdiajjljaaDoor.PBitsSteps
open Go.RowKit Go.Proofs.YtfkbkcdiajjljaaDoorW.PrintWords Go.Proofs.YtfkbkcdiajjljaaDoorW.PrintLast Go.Proofs.YtfkbkcdiajjljaaDoorW.PrintMore
set_option linter.unusedVariables false
set_option linter.unusedSimpArgs false
/-! ### how many bits -/
def popN : Nat → Nat → Nat
  | 0, _ => 0
  | k + 1, x => x % 2 + popN k (x / 2)
theorem popN_add (k : Nat) : ∀ (j x : Nat), popN (j + k) x = popN j x + popN k (x / 2 ^ j)
  | 0, x => by simp [popN]
  | j + 1, x => by
    rw [show j + 1 + k = (j + k) + 1 by omega, popN, popN, popN_add k j (x / 2), Nat.div_div_eq_div_mul, Nat.pow_succ, Nat.mul_comm 2]
    omega
theorem popN_mod (j : Nat) : ∀ (m x : Nat), j ≤ m → popN j (x % 2 ^ m) = popN j x := by
  induction j with
  | zero => exact fun _ _ _ => rfl
  | succ j ih =>
    intro m x h
    obtain ⟨m', rfl⟩ : ∃ m', m = m' + 1 := ⟨m - 1, by omega⟩
    rw [popN, popN]
    have e1 : x % 2 ^ (m' + 1) % 2 = x % 2 := by
      rw [Nat.pow_succ]
      exact Nat.mod_mod_of_dvd x (Nat.dvd_mul_left 2 (2 ^ m'))
    have e2 : x % 2 ^ (m' + 1) / 2 = x / 2 % 2 ^ m' := by
      rw [Nat.pow_succ, Nat.mul_comm, Nat.mod_mul_right_div_self]
    rw [e1, e2, ih m' (x / 2) (by omega)]
theorem and_bytes (b m X M : Nat) (hb : b < 256) (hm : m < 256) : (b + 256 * X) &&& (m + 256 * M) = (b &&& m) + 256 * (X &&& M) := by
  have h1 : ((b + 256 * X) &&& (m + 256 * M)) % 2 ^ 8 = ((b + 256 * X) % 2 ^ 8) &&& ((m + 256 * M) % 2 ^ 8) := Nat.and_mod_two_pow
  have h2 : ((b + 256 * X) &&& (m + 256 * M)) / 2 ^ 8 = ((b + 256 * X) / 2 ^ 8) &&& ((m + 256 * M) / 2 ^ 8) := Nat.and_div_two_pow
  rw [show (b + 256 * X) % 2 ^ 8 = b by omega, show (m + 256 * M) % 2 ^ 8 = m by omega] at h1
  rw [show (b + 256 * X) / 2 ^ 8 = X by omega, show (m + 256 * M) / 2 ^ 8 = M by omega] at h2
  generalize (b + 256 * X) &&& (m + 256 * M) = A at *
  generalize b &&& m = p at *
  generalize X &&& M = q at *
  omega
def val : List Nat → Nat
  | [] => 0
  | b :: t => b + 256 * val t
def rep (m : Nat) (l : List Nat) : Nat := val (l.map fun _ => m)
def s1 (b : Nat) : Nat := ((b / 2) &&& 85) + (b &&& 85)
def s2 (b : Nat) : Nat := ((b / 4) &&& 51) + (b &&& 51)
def s3 (b : Nat) : Nat := (b / 16 + b) &&& 15
theorem byte1 : ∀ b, b < 128 → ∀ t, t < 2 → (b + 128 * t) &&& 85 = b &&& 85 := by decide
theorem byte2 : ∀ b, b < 64 → ∀ t, t < 4 → (b + 64 * t) &&& 51 = b &&& 51 := by decide
theorem step1 : ∀ l : List Nat, (∀ b ∈ l, b < 256) → ((val l / 2) &&& rep 85 l) + (val l &&& rep 85 l) = val (l.map s1)
  | [], _ => by simp [val, rep]
  | b :: t, h => by
    have hb := h b (by simp)
    have ih := step1 t (fun x hx => h x (by simp [hx]))
    have e1 : (b + 256 * val t) / 2 = (b / 2 + 128 * (val t % 2)) + 256 * (val t / 2) := by omega
    have e2 : val (b :: t) = b + 256 * val t := rfl
    have e3 : rep 85 (b :: t) = 85 + 256 * rep 85 t := rfl
    have e4 : val ((b :: t).map s1) = s1 b + 256 * val (t.map s1) := rfl
    rw [e2, e3, e4, e1, and_bytes _ _ _ _ (by omega) (by decide), and_bytes _ _ _ _ hb (by decide), byte1 (b / 2) (by omega) (val t % 2) (by omega), ← ih]
    unfold s1
    omega
theorem step2 : ∀ l : List Nat, (∀ b ∈ l, b < 256) → ((val l / 4) &&& rep 51 l) + (val l &&& rep 51 l) = val (l.map s2)
  | [], _ => by simp [val, rep]
  | b :: t, h => by
    have hb := h b (by simp)
    have ih := step2 t (fun x hx => h x (by simp [hx]))
    have e1 : (b + 256 * val t) / 4 = (b / 4 + 64 * (val t % 4)) + 256 * (val t / 4) := by omega
    have e2 : val (b :: t) = b + 256 * val t := rfl
    have e3 : rep 51 (b :: t) = 51 + 256 * rep 51 t := rfl
    have e4 : val ((b :: t).map s2) = s2 b + 256 * val (t.map s2) := rfl
    rw [e2, e3, e4, e1, and_bytes _ _ _ _ (by omega) (by decide), and_bytes _ _ _ _ hb (by decide), byte2 (b / 4) (by omega) (val t % 4) (by omega), ← ih]
    unfold s2
    omega
def low (b : Nat) : Prop := b % 16 ≤ 4 ∧ b / 16 ≤ 4
theorem byte3 : ∀ h, h < 5 → ∀ lo, lo < 5 → ∀ t, t < 5 → (h + 16 * t + (16 * h + lo)) &&& 15 = (h + (16 * h + lo)) &&& 15 := by decide
theorem val_low : ∀ l : List Nat, (∀ b ∈ l, low b) → val l % 16 ≤ 4
  | [], _ => by simp [val]
  | b :: t, h => by
    have hb := h b (by simp)
    unfold low at hb
    have e2 : val (b :: t) = b + 256 * val t := rfl
    omega
theorem step3 : ∀ l : List Nat, (∀ b ∈ l, low b) → (val l / 16 + val l) &&& rep 15 l = val (l.map s3)
  | [], _ => by simp [val, rep]
  | b :: t, h => by
    have hb := h b (by simp)
    have hl := val_low t (fun x hx => h x (by simp [hx]))
    have ih := step3 t (fun x hx => h x (by simp [hx]))
    unfold low at hb
    have e1 : (b + 256 * val t) / 16 + (b + 256 * val t) = (b / 16 + 16 * (val t % 16) + (16 * (b / 16) + b % 16)) + 256 * (val t / 16 + val t) := by omega
    have e2 : val (b :: t) = b + 256 * val t := rfl
    have e3 : rep 15 (b :: t) = 15 + 256 * rep 15 t := rfl
    have e4 : val ((b :: t).map s3) = s3 b + 256 * val (t.map s3) := rfl
    have e5 : s3 b = (b / 16 + (16 * (b / 16) + b % 16)) &&& 15 := by
      unfold s3
      congr 1
      omega
    rw [e2, e3, e4, e1, and_bytes _ _ _ _ (by omega) (by decide), byte3 (b / 16) (by omega) (b % 16) (by omega) (val t % 16) (by omega), ← ih, e5]
theorem byte_pop : ∀ b, b < 256 → s1 b < 256 ∧ (s2 (s1 b)) % 16 ≤ 4 ∧ s2 (s1 b) / 16 ≤ 4 ∧ s3 (s2 (s1 b)) = popN 8 b ∧ popN 8 b ≤ 8 := by decide +kernel
theorem val_le (m : Nat) : ∀ l : List Nat, (∀ b ∈ l, b ≤ m) → val l ≤ rep m l
  | [], _ => Nat.le_refl _
  | b :: t, h => by
    have ih := val_le m t (fun x hx => h x (by simp [hx]))
    have hb := h b (by simp)
    have e2 : val (b :: t) = b + 256 * val t := rfl
    have e3 : rep m (b :: t) = m + 256 * rep m t := rfl
    omega
/-- the eight bytes of a word -/
def bytes8 (x : Nat) : List Nat := [x % 256, x / 256 % 256, x / 65536 % 256, x / 16777216 % 256, x / 4294967296 % 256, x / 1099511627776 % 256, x / 281474976710656 % 256, x / 72057594037927936]
theorem bytes8_val (x : Nat) (hx : x < 18446744073709551616) : val (bytes8 x) = x ∧ ∀ b ∈ bytes8 x, b < 256 := by
  refine ⟨?_, fun b hb => ?_⟩
  · simp only [bytes8, val]
    omega
  · simp only [bytes8, List.mem_cons, List.not_mem_nil, or_false] at hb
    omega
def pops (x : Nat) : Nat := val ((bytes8 x).map (popN 8))
theorem pop_steps (x : Nat) (hx : x < 18446744073709551616) (x1 x2 x3 : Nat) (h1 : x1 = ((x / 2) &&& 6148914691236517205) + (x &&& 6148914691236517205)) (h2 : x2 = ((x1 / 4) &&& 3689348814741910323) + (x1 &&& 3689348814741910323)) (h3 : x3 = (x2 / 16 + x2) &&& 1085102592571150095) :
    x3 = pops x ∧ x1 < 18446744073709551616 ∧ x2 ≤ 4919131752989213764 := by
  obtain ⟨hv, hb⟩ := bytes8_val x hx
  have m1 : rep 85 (bytes8 x) = 6148914691236517205 := by simp [rep, bytes8, val]
  have e1 := step1 _ hb
  rw [hv, m1, ← h1] at e1
  have hb1 : ∀ b ∈ (bytes8 x).map s1, b < 256 := by
    intro b hb'
    rw [List.mem_map] at hb'
    obtain ⟨a, ha, rfl⟩ := hb'
    exact (byte_pop a (hb a ha)).1
  have m2 : rep 51 ((bytes8 x).map s1) = 3689348814741910323 := by simp [rep, bytes8, val]
  have e2 := step2 _ hb1
  rw [← e1, m2, ← h2] at e2
  have hb2 : ∀ b ∈ ((bytes8 x).map s1).map s2, low b := by
    intro b hb'
    rw [List.mem_map] at hb'
    obtain ⟨a, ha, rfl⟩ := hb'
    rw [List.mem_map] at ha
    obtain ⟨c, hc, rfl⟩ := ha
    exact ⟨(byte_pop c (hb c hc)).2.1, (byte_pop c (hb c hc)).2.2.1⟩
  have m3 : rep 15 (((bytes8 x).map s1).map s2) = 1085102592571150095 := by simp [rep, bytes8, val]
  have e3 := step3 _ hb2
  rw [← e2, m3, ← h3] at e3
  refine ⟨?_, ?_, ?_⟩
  · rw [e3, List.map_map, List.map_map]
    exact congrArg val (List.map_congr_left (fun b hb' => (byte_pop b (hb b hb')).2.2.2.1))
  · rw [e1]
    have := val_le 255 _ (fun b hb' => by have := hb1 b hb'; omega)
    rw [show rep 255 ((bytes8 x).map s1) = 18446744073709551615 by simp [rep, bytes8, val]] at this
    exact Nat.lt_of_le_of_lt this (by decide)
  · rw [e2]
    have := val_le 68 _ (fun b hb' => by have := hb2 b hb'; unfold low at this; omega)
    rw [show rep 68 (((bytes8 x).map s1).map s2) = 4919131752989213764 by simp [rep, bytes8, val]] at this
    exact this
theorem div_low (L H k : Nat) (h : L < k) : (L + k * H) / k = H := by
  rw [Nat.add_mul_div_left _ _ (by omega), Nat.div_eq_of_lt h, Nat.zero_add]
theorem id4 (c0 c1 c2 c3 c4 c5 c6 c7 : Nat) : (c0 + 256 * (c1 + 256 * (c2 + 256 * (c3 + 256 * (c4 + 256 * (c5 + 256 * (c6 + 256 * (c7 + 256 * 0)))))))) + (c1 + 256 * (c2 + 256 * (c3 + 256 * (c4 + 256 * (c5 + 256 * (c6 + 256 * (c7 + 256 * 0))))))) = ((c0 + c1) + 256 * (c1 + c2)) + 65536 * ((c2 + c3) + 256 * ((c3 + c4) + 256 * ((c4 + c5) + 256 * ((c5 + c6) + 256 * ((c6 + c7) + 256 * c7))))) := by omega
theorem id5 (c0 c1 c2 c3 c4 c5 c6 c7 : Nat) : (((c0 + c1) + 256 * (c1 + c2)) + 65536 * ((c2 + c3) + 256 * ((c3 + c4) + 256 * ((c4 + c5) + 256 * ((c5 + c6) + 256 * ((c6 + c7) + 256 * c7)))))) + ((c2 + c3) + 256 * ((c3 + c4) + 256 * ((c4 + c5) + 256 * ((c5 + c6) + 256 * ((c6 + c7) + 256 * c7))))) = ((c0 + c1 + c2 + c3) + 256 * ((c1 + c2 + c3 + c4) + 256 * ((c2 + c3 + c4 + c5) + 256 * (c3 + c4 + c5 + c6)))) + 4294967296 * ((c4 + c5 + c6 + c7) + 256 * ((c5 + c6 + c7) + 256 * ((c6 + c7) + 256 * c7))) := by omega
theorem id6 (c0 c1 c2 c3 c4 c5 c6 c7 : Nat) : (((c0 + c1 + c2 + c3) + 256 * ((c1 + c2 + c3 + c4) + 256 * ((c2 + c3 + c4 + c5) + 256 * (c3 + c4 + c5 + c6)))) + 4294967296 * ((c4 + c5 + c6 + c7) + 256 * ((c5 + c6 + c7) + 256 * ((c6 + c7) + 256 * c7)))) + ((c4 + c5 + c6 + c7) + 256 * ((c5 + c6 + c7) + 256 * ((c6 + c7) + 256 * c7))) = (c0 + c1 + c2 + c3 + c4 + c5 + c6 + c7) + 128 * (2 * ((c1 + c2 + c3 + c4) + 256 * ((c2 + c3 + c4 + c5) + 256 * (c3 + c4 + c5 + c6)) + ((c5 + c6 + c7) + 256 * ((c6 + c7) + 256 * c7)) + 16777216 * ((c4 + c5 + c6 + c7) + 256 * ((c5 + c6 + c7) + 256 * ((c6 + c7) + 256 * c7))))) := by omega
theorem lo4 (c0 c1 c2 c3 c4 c5 c6 c7 : Nat) (h : c0 ≤ 8 ∧ c1 ≤ 8 ∧ c2 ≤ 8) : ((c0 + c1) + 256 * (c1 + c2)) < 65536 := by omega
theorem lo5 (c0 c1 c2 c3 c4 c5 c6 c7 : Nat) (h : c0 ≤ 8 ∧ c1 ≤ 8 ∧ c2 ≤ 8 ∧ c3 ≤ 8 ∧ c4 ≤ 8 ∧ c5 ≤ 8 ∧ c6 ≤ 8 ∧ c7 ≤ 8) : ((c0 + c1 + c2 + c3) + 256 * ((c1 + c2 + c3 + c4) + 256 * ((c2 + c3 + c4 + c5) + 256 * (c3 + c4 + c5 + c6)))) < 4294967296 := by omega
theorem lo6 (c0 c1 c2 c3 c4 c5 c6 c7 : Nat) (h : c0 ≤ 8 ∧ c1 ≤ 8 ∧ c2 ≤ 8 ∧ c3 ≤ 8 ∧ c4 ≤ 8 ∧ c5 ≤ 8 ∧ c6 ≤ 8 ∧ c7 ≤ 8) : (c0 + c1 + c2 + c3 + c4 + c5 + c6 + c7) < 128 ∧ (c0 + c1 + c2 + c3 + c4 + c5 + c6 + c7) + 128 * (2 * ((c1 + c2 + c3 + c4) + 256 * ((c2 + c3 + c4 + c5) + 256 * (c3 + c4 + c5 + c6)) + ((c5 + c6 + c7) + 256 * ((c6 + c7) + 256 * c7)) + 16777216 * ((c4 + c5 + c6 + c7) + 256 * ((c5 + c6 + c7) + 256 * ((c6 + c7) + 256 * c7))))) < 9223372036854775808 := by omega
theorem pop_sum (c0 c1 c2 c3 c4 c5 c6 c7 : Nat) (h : c0 ≤ 8 ∧ c1 ≤ 8 ∧ c2 ≤ 8 ∧ c3 ≤ 8 ∧ c4 ≤ 8 ∧ c5 ≤ 8 ∧ c6 ≤ 8 ∧ c7 ≤ 8) (x3 x4 x5 x6 : Nat) (h3 : x3 = c0 + 256 * (c1 + 256 * (c2 + 256 * (c3 + 256 * (c4 + 256 * (c5 + 256 * (c6 + 256 * (c7 + 256 * 0)))))))) (h4 : x4 = x3 + x3 / 256) (h5 : x5 = x4 + x4 / 65536) (h6 : x6 = x5 + x5 / 4294967296) :
    x6 % 128 = c0 + c1 + c2 + c3 + c4 + c5 + c6 + c7 ∧ x6 < 9223372036854775808 := by
  have d3 : x3 / 256 = c1 + 256 * (c2 + 256 * (c3 + 256 * (c4 + 256 * (c5 + 256 * (c6 + 256 * (c7 + 256 * 0)))))) := h3 ▸ div_low c0 (c1 + 256 * (c2 + 256 * (c3 + 256 * (c4 + 256 * (c5 + 256 * (c6 + 256 * (c7 + 256 * 0))))))) 256 (Nat.lt_of_le_of_lt h.1 (by decide))
  have e4 : x4 = ((c0 + c1) + 256 * (c1 + c2)) + 65536 * ((c2 + c3) + 256 * ((c3 + c4) + 256 * ((c4 + c5) + 256 * ((c5 + c6) + 256 * ((c6 + c7) + 256 * c7))))) := by rw [h4, d3, h3]; exact id4 c0 c1 c2 c3 c4 c5 c6 c7
  have d4 : x4 / 65536 = ((c2 + c3) + 256 * ((c3 + c4) + 256 * ((c4 + c5) + 256 * ((c5 + c6) + 256 * ((c6 + c7) + 256 * c7))))) := by rw [e4]; exact div_low _ _ _ (lo4 c0 c1 c2 c3 c4 c5 c6 c7 ⟨h.1, h.2.1, h.2.2.1⟩)
  have e5 : x5 = ((c0 + c1 + c2 + c3) + 256 * ((c1 + c2 + c3 + c4) + 256 * ((c2 + c3 + c4 + c5) + 256 * (c3 + c4 + c5 + c6)))) + 4294967296 * ((c4 + c5 + c6 + c7) + 256 * ((c5 + c6 + c7) + 256 * ((c6 + c7) + 256 * c7))) := by rw [h5, d4, e4]; exact id5 c0 c1 c2 c3 c4 c5 c6 c7
  have d5 : x5 / 4294967296 = ((c4 + c5 + c6 + c7) + 256 * ((c5 + c6 + c7) + 256 * ((c6 + c7) + 256 * c7))) := by rw [e5]; exact div_low _ _ _ (lo5 c0 c1 c2 c3 c4 c5 c6 c7 h)
  have e6 : x6 = (c0 + c1 + c2 + c3 + c4 + c5 + c6 + c7) + 128 * (2 * ((c1 + c2 + c3 + c4) + 256 * ((c2 + c3 + c4 + c5) + 256 * (c3 + c4 + c5 + c6)) + ((c5 + c6 + c7) + 256 * ((c6 + c7) + 256 * c7)) + 16777216 * ((c4 + c5 + c6 + c7) + 256 * ((c5 + c6 + c7) + 256 * ((c6 + c7) + 256 * c7))))) := by rw [h6, d5, e5]; exact id6 c0 c1 c2 c3 c4 c5 c6 c7
  obtain ⟨l1, l2⟩ := lo6 c0 c1 c2 c3 c4 c5 c6 c7 h
  exact ⟨by rw [e6, Nat.add_mul_mod_self_left, Nat.mod_eq_of_lt l1], by rw [e6]; exact l2⟩
theorem pops_sum (x : Nat) (hx : x < 18446744073709551616) (x4 x5 x6 : Nat) (h4 : x4 = pops x + pops x / 256) (h5 : x5 = x4 + x4 / 65536) (h6 : x6 = x5 + x5 / 4294967296) : x6 % 128 = popN 64 x ∧ x6 < 9223372036854775808 := by
  have hb : ∀ y, popN 8 (y % 256) ≤ 8 := fun y => (byte_pop _ (Nat.mod_lt _ (by decide))).2.2.2.2
  have hb7 : popN 8 (x / 72057594037927936) ≤ 8 := (byte_pop _ (by omega)).2.2.2.2
  have := pop_sum (popN 8 (x % 256)) (popN 8 (x / 256 % 256)) (popN 8 (x / 65536 % 256)) (popN 8 (x / 16777216 % 256)) (popN 8 (x / 4294967296 % 256)) (popN 8 (x / 1099511627776 % 256)) (popN 8 (x / 281474976710656 % 256)) (popN 8 (x / 72057594037927936)) ⟨hb _, hb _, hb _, hb _, hb _, hb _, hb _, hb7⟩ (pops x) x4 x5 x6 rfl h4 h5 h6
  refine ⟨?_, this.2⟩
  rw [this.1]
  have hm : ∀ y, popN 8 (y % 256) = popN 8 y := fun y => popN_mod 8 8 y (Nat.le_refl _)
  rw [hm, hm, hm, hm, hm, hm, hm]
  have a1 : popN 64 x = popN 8 x + popN 56 (x / 256) := popN_add 56 8 x
  have a2 : popN 56 (x / 256) = popN 8 (x / 256) + popN 48 (x / 65536) := by have := popN_add 48 8 (x / 256); rw [show x / 256 / 2 ^ 8 = x / 65536 by omega] at this; exact this
  have a3 : popN 48 (x / 65536) = popN 8 (x / 65536) + popN 40 (x / 16777216) := by have := popN_add 40 8 (x / 65536); rw [show x / 65536 / 2 ^ 8 = x / 16777216 by omega] at this; exact this
  have a4 : popN 40 (x / 16777216) = popN 8 (x / 16777216) + popN 32 (x / 4294967296) := by have := popN_add 32 8 (x / 16777216); rw [show x / 16777216 / 2 ^ 8 = x / 4294967296 by omega] at this; exact this
  have a5 : popN 32 (x / 4294967296) = popN 8 (x / 4294967296) + popN 24 (x / 1099511627776) := by have := popN_add 24 8 (x / 4294967296); rw [show x / 4294967296 / 2 ^ 8 = x / 1099511627776 by omega] at this; exact this
  have a6 : popN 24 (x / 1099511627776) = popN 8 (x / 1099511627776) + popN 16 (x / 281474976710656) := by have := popN_add 16 8 (x / 1099511627776); rw [show x / 1099511627776 / 2 ^ 8 = x / 281474976710656 by omega] at this; exact this
  have a7 : popN 16 (x / 281474976710656) = popN 8 (x / 281474976710656) + popN 8 (x / 72057594037927936) := by have := popN_add 8 8 (x / 281474976710656); rw [show x / 281474976710656 / 2 ^ 8 = x / 72057594037927936 by omega] at this; exact this
  rw [a1, a2, a3, a4, a5, a6, a7]
  simp only [Nat.add_assoc]

end Go.Proofs.YtfkbkcdiajjljaaDoor.PBitsSteps
