/- Parts of the laws of bits: functions of the program, each with the proof of what it answers; the conditions are those of each theorem. -/
import Derived.Test.YtfkbkcdiajjljaaDoorBa
import Derived.Laws.BitsAllLaws
namespace Go.Proofs.YtfkbkcdiajjljaaDoor.PBitsSteps
open Go.RowKit Go.Proofs.YtfkbkcdiajjljaaDoorW.PrintWords Go.Proofs.YtfkbkcdiajjljaaDoorW.PrintLast Go.Proofs.YtfkbkcdiajjljaaDoorW.PrintMore
set_option linter.unusedVariables false
set_option linter.unusedSimpArgs false
def tzTab : List Nat := [0, 1, 56, 2, 57, 49, 28, 3, 61, 58, 42, 50, 38, 29, 17, 4, 62, 47, 59, 36, 45, 43, 51, 22, 53, 39, 33, 30, 24, 18, 12, 5, 63, 55, 48, 27, 60, 41, 37, 16, 46, 35, 44, 21, 52, 32, 23, 11, 54, 26, 40, 15, 34, 20, 31, 10, 25, 14, 19, 9, 13, 8, 7, 6]
def TabLaid (w : World) : Prop := ∀ t : Nat, t < 64 → w.cell? ⟨0, t, none⟩ = some (.int .u8 (tzTab.getD t 0 : Nat))
def tzIx (x : Int) : Int := IntKind.u64.wrap (bits .and .u64 x (IntKind.u64.wrap (-x)) * 285870213051353865) / 288230376151711744
set_option maxHeartbeats 4000000 in
theorem tz64.calls (x : Int) (r : Nat) (w : World) (h0 : 0 < x) (hi0 : 0 ≤ tzIx x) (hi1 : tzIx x < 64) (hr : tzTab.getD (tzIx x).toNat 0 = r) (hL : TabLaid w) :
    Calls Tryd.prog 43 #[.int .u64 x] w fun e w' => e = .returned (.int .i64 (r : Nat)) ∧ w' = w := by
  have hc := hL (tzIx x).toNat (by omega)
  rw [hr] at hc
  have HL := Lib.hid hL
  clear hL
  have hne : (x == 0) = false := by rw [beq_eq_false_iff_ne]; omega
  have hr64 : r < 64 := by
    have : ∀ k, k < 64 → tzTab.getD k 0 < 64 := by decide
    rw [← hr]
    exact this _ (by omega)
  have hI : 0 ≤ IntKind.u64.wrap (bits .and .u64 x (IntKind.u64.wrap (-x)) * 285870213051353865) / 288230376151711744 ∧ IntKind.u64.wrap (bits .and .u64 x (IntKind.u64.wrap (-x)) * 285870213051353865) / 288230376151711744 < 64 := ⟨hi0, hi1⟩
  have hc2 : w.cell? ⟨0, (IntKind.u64.wrap (bits .and .u64 x (IntKind.u64.wrap (-x)) * 285870213051353865) / 288230376151711744).toNat, none⟩ = some (.int .u8 (r : Nat)) := hc
  have HR := Lib.hid hr64
  clear hr hc hi0 hi1 hr64
  go_enter Tryd.func43, Tryd.ntmps43
  go_wp2_with fail
  go_ret
  refine ⟨?_, rfl⟩
  have := HR.out
  have e := IntWalk.wrap64_in (r : Int) (by omega)

  exact congrArg (fun z => Ending.returned (Value.int .i64 z)) e
/-! the lowest bit -/
def tzN : Nat → Nat → Nat
  | 0, _ => 0
  | f + 1, x => if x % 2 = 1 then 0 else 1 + tzN f (x / 2)
theorem tzN_lt (f x : Nat) (h0 : 0 < x) (h : x < 2 ^ f) : tzN f x < f := by
  induction f generalizing x with
  | zero => simp at h; omega
  | succ f ih =>
    unfold tzN
    split
    · omega
    · have := ih (x / 2) (by omega) (by rw [Nat.pow_succ] at h; omega)
      omega
theorem tzN_bit (f x : Nat) (h0 : 0 < x) (h : x < 2 ^ f) : x.testBit (tzN f x) = true ∧ ∀ j, j < tzN f x → x.testBit j = false := by
  induction f generalizing x with
  | zero => simp at h; omega
  | succ f ih =>
    unfold tzN
    by_cases h1 : x % 2 = 1
    · rw [if_pos h1]
      exact ⟨by rw [Nat.testBit_zero]; simp [h1], fun j hj => by omega⟩
    · rw [if_neg h1]
      have := ih (x / 2) (by omega) (by rw [Nat.pow_succ] at h; omega)
      refine ⟨by rw [Nat.add_comm, Nat.testBit_succ]; exact this.1, fun j hj => ?_⟩
      cases j with
      | zero => rw [Nat.testBit_zero]; simp [h1]
      | succ j => rw [Nat.testBit_succ]; exact this.2 j (by omega)
theorem and_low (z f : Nat) (h : z < 2 ^ f) : z &&& (2 ^ f - (z + 1)) = 0 := by
  apply Nat.eq_of_testBit_eq
  intro i
  rw [Nat.testBit_and, Nat.testBit_two_pow_sub_succ h, Nat.zero_testBit]
  cases z.testBit i <;> simp
theorem tzN_and (f x : Nat) (h0 : 0 < x) (h : x < 2 ^ f) : x &&& (2 ^ f - x) = 2 ^ tzN f x := by
  induction f generalizing x with
  | zero => simp at h; omega
  | succ f ih =>
    have e1 : (x &&& (2 ^ (f + 1) - x)) / 2 = (x / 2) &&& ((2 ^ (f + 1) - x) / 2) := Nat.and_div_two
    have e2 : (x &&& (2 ^ (f + 1) - x)) % 2 = 1 ↔ x % 2 = 1 ∧ (2 ^ (f + 1) - x) % 2 = 1 := Nat.and_mod_two_eq_one
    rw [Nat.pow_succ] at h e1 e2 ⊢
    unfold tzN
    by_cases h1 : x % 2 = 1
    · rw [if_pos h1]
      have e3 : (2 ^ f * 2 - x) / 2 = 2 ^ f - (x / 2 + 1) := by omega
      rw [e3, and_low (x / 2) f (by omega)] at e1
      have e4 := e2.2 ⟨h1, by omega⟩
      omega
    · rw [if_neg h1]
      have e3 : (2 ^ f * 2 - x) / 2 = 2 ^ f - x / 2 := by omega
      rw [e3, ih (x / 2) (by omega) (by omega)] at e1
      have e4 : ¬ (x &&& (2 ^ f * 2 - x)) % 2 = 1 := fun h => h1 (e2.1 h).1
      rw [Nat.add_comm 1, Nat.pow_succ]
      omega
theorem tz_table : ∀ t, t < 64 → (2 ^ t * 285870213051353865 % 18446744073709551616) / 288230376151711744 < 64 ∧ tzTab.getD ((2 ^ t * 285870213051353865 % 18446744073709551616) / 288230376151711744) 0 = t := by decide
theorem tzIx_of (n : Nat) (h0 : 0 < n) (h : n < 18446744073709551616) : tzIx (n : Int) = (((2 ^ tzN 64 n * 285870213051353865 % 18446744073709551616) / 288230376151711744 : Nat) : Int) := by
  unfold tzIx
  have e1 : IntKind.u64.wrap (-(n : Int)) = ((2 ^ 64 - n : Nat) : Int) := by rw [IntKind.wrap_u64]; omega
  have e2 : bits .and .u64 (n : Int) (IntKind.u64.wrap (-(n : Int))) = ((2 ^ tzN 64 n : Nat) : Int) := by
    rw [e1, ← tzN_and 64 n h0 h]
    exact u64_and_nat n (2 ^ 64 - n) h (by omega)
  rw [e2, IntKind.wrap_u64]
  generalize 2 ^ tzN 64 n = m
  omega
theorem tz64.nat (n : Nat) (w : World) (h0 : 0 < n) (h : n < 18446744073709551616) (hL : TabLaid w) :
    Calls Tryd.prog 43 #[.int .u64 n] w fun e w' => e = .returned (.int .i64 (tzN 64 n : Nat)) ∧ w' = w := by
  have ht := tz_table (tzN 64 n) (tzN_lt 64 n h0 h)
  have e := tzIx_of n h0 h
  exact tz64.calls n (tzN 64 n) w (by omega) (by omega) (by omega) (by rw [e, Int.toNat_natCast]; exact ht.2) hL

/-! ### a set as the values it has -/
structure BitsOf (f r : Int) (n : Nat) (ws : Nat → Nat) (M : Int → Bool) : Prop where
  wf : ∀ i, i < 16 * n → ws i < 2 ^ 64
  room : (n : Int) = (r + 1023) / 1024 ∧ 0 < r ∧ r ≤ 65536 ∧ -1000000 ≤ f ∧ f + r ≤ 1000001
  bit : ∀ p, p < 1024 * n → (ws (p / 64)).testBit (p % 64) = M (f + p)
  inn : ∀ v, M v = true → f ≤ v ∧ v < f + r
def SetAt (w : World) (g gp : Nat) (f r : Int) (M : Int → Bool) : Prop :=
  ∃ n c ws cs, w.heap[g]? = some (setB f r (some ⟨gp, 0, none⟩) n c) ∧ w.heap[gp]? = some (.cells cs 86 (0, 0)) ∧ g ≠ gp ∧ (∀ i, i < 16 * n → cs[i]? = some (.int .u64 (ws i : Nat))) ∧ n ≤ c ∧ BitsOf f r n ws M
theorem SetAt.keep {w w' : World} {g gp : Nat} {f r : Int} {M : Int → Bool} (h : SetAt w g gp f r M) (h1 : w'.heap[g]? = w.heap[g]?) (h2 : w'.heap[gp]? = w.heap[gp]?) : SetAt w' g gp f r M := by
  obtain ⟨n, c, ws, cs, a, b, d⟩ := h
  exact ⟨n, c, ws, cs, h1.trans a, h2.trans b, d⟩
theorem SetAt.lt {w : World} {g gp : Nat} {f r : Int} {M : Int → Bool} (h : SetAt w g gp f r M) : g < w.heap.size ∧ gp < w.heap.size ∧ g ≠ gp := by
  obtain ⟨n, c, ws, cs, a, b, d, _⟩ := h
  exact ⟨blk_lt a, blk_lt b, d⟩
theorem SetAt.below {w w' : World} {g gp : Nat} {f r : Int} {M : Int → Bool} (h : SetAt w g gp f r M) (hb : Below w.heap.size w w') : SetAt w' g gp f r M :=
  h.keep (hb.block g h.lt.1) (hb.block gp h.lt.2.1)
theorem pages_at {w : World} {gp n : Nat} {ws : Nat → Nat} {cs : Array Value} (h : w.heap[gp]? = some (.cells cs 86 (0, 0))) (hc : ∀ i, i < 16 * n → cs[i]? = some (.int .u64 (ws i : Nat))) : PagesAt w (some ⟨gp, 0, none⟩) n (fun i => (ws i : Int)) := by
  refine ⟨_, rfl, fun i hi => ?_⟩
  rw [add_zero_off]
  exact ⟨(blk_cell h i).trans (hc i hi), blk_frozen h i⟩
theorem bitOf_nat (p : Nat) : bitOf (p : Int) = ((2 ^ (p % 64) : Nat) : Int) := by
  unfold bitOf shl
  rw [Int.tmod_eq_emod_of_nonneg (by omega), Int.one_mul, Nat.min_eq_left (by show _ ≤ 64; omega)]
  rw [show ((p : Int) % 64).toNat = p % 64 by omega, IntKind.wrap_u64]
  have : 2 ^ (p % 64) < 2 ^ 64 := Nat.pow_lt_pow_right (by decide) (by omega)
  rw [show (2 : Int) ^ (p % 64) = ((2 ^ (p % 64) : Nat) : Int) by norm_cast]
  generalize 2 ^ (p % 64) = q at *
  omega
theorem pow_lt_word (p : Nat) : 2 ^ (p % 64) < 18446744073709551616 := Nat.pow_lt_pow_right (n := 64) (a := 2) (by decide) (by omega)
theorem has_bit (a p : Nat) (ha : a < 2 ^ 64) : (bits .and .u64 (a : Int) (bitOf (p : Int)) != 0) = a.testBit (p % 64) := by
  rw [bitOf_nat, u64_and_nat a _ ha (pow_lt_word p)]
  generalize p % 64 = k
  cases h : a.testBit k
  · have : a &&& 2 ^ k = 0 := by
      apply Nat.eq_of_testBit_eq
      intro i
      rw [Nat.testBit_and, Nat.testBit_two_pow, Nat.zero_testBit]
      by_cases e : k = i
      · subst e; simp [h]
      · simp [e]
    rw [this]; rfl
  · have : (a &&& 2 ^ k).testBit k = true := by rw [Nat.testBit_and, Nat.testBit_two_pow, h]; simp
    have : a &&& 2 ^ k ≠ 0 := by
      intro e
      rw [e, Nat.zero_testBit] at this
      cases this
    rw [bne_iff_ne]
    omega
theorem BitsOf.fits {f r : Int} {n : Nat} {ws : Nat → Nat} {M : Int → Bool} (h : BitsOf f r n ws M) (v : Int) : setFits f r v = decide (f ≤ v ∧ v < f + r) := by
  have := h.room
  unfold setFits
  rw [IntWalk.wrap64_in (f + r) (by omega)]
  simp
theorem BitsOf.has {f r : Int} {n : Nat} {ws : Nat → Nat} {M : Int → Bool} (h : BitsOf f r n ws M) (v : Int) : setHas f r (fun i => (ws i : Int)) v = M v := by
  have hr := h.room
  unfold setHas
  rw [h.fits]
  by_cases hv : f ≤ v ∧ v < f + r
  · rw [decide_eq_true hv, Bool.true_and]
    obtain ⟨p, rfl⟩ : ∃ p : Nat, v = f + p := ⟨(v - f).toNat, by omega⟩
    rw [show f + (p : Int) - f = p by omega, show ((p : Int) / 64).toNat = p / 64 by omega, has_bit _ p (h.wf _ (by omega)), h.bit p (by omega)]
  · rw [decide_eq_false hv, Bool.false_and]
    cases hm : M v with
    | false => rfl
    | true => exact absurd (h.inn v hm) hv
theorem SetAt.has {w : World} {g gp : Nat} {f r : Int} {M : Int → Bool} (h : SetAt w g gp f r M) (v : Int) :
    Calls Tryd.prog 12 #[setP g, .int .i64 v] w fun e w' => e = .returned (.bool (M v)) ∧ Drawn0 w w' := by
  obtain ⟨n, c, ws, cs, h1, h2, h3, h4, h5, h6⟩ := h
  have hr := h6.room
  have := bits_Has.calls g f r ⟨gp, 0, none⟩ n c (fun i => (ws i : Int)) v w h1 (pages_at h2 h4) (by omega) (by omega) (by omega) (by omega)
  rw [h6.has v] at this
  exact this
/-! a bit is put in, or taken out -/
theorem or_bit (a p : Nat) (ha : a < 2 ^ 64) : bits .or .u64 (a : Int) (bitOf (p : Int)) = ((a ||| 2 ^ (p % 64) : Nat) : Int) := by
  rw [bitOf_nat, u64_or_nat a _ ha (pow_lt_word p)]
theorem andNot_bit (a p : Nat) (ha : a < 2 ^ 64) : bits .andNot .u64 (a : Int) (bitOf (p : Int)) = ((a &&& (18446744073709551615 - 2 ^ (p % 64)) : Nat) : Int) := by
  rw [bitOf_nat, u64_andNot_nat a _ ha (pow_lt_word p)]
theorem testBit_or_pow (a k j : Nat) : (a ||| 2 ^ k).testBit j = (a.testBit j || decide (k = j)) := by rw [Nat.testBit_or, Nat.testBit_two_pow]
theorem testBit_andNot_pow (a k j : Nat) (hk : k < 64) (hj : j < 64) : (a &&& (18446744073709551615 - 2 ^ k)).testBit j = (a.testBit j && !decide (k = j)) := by
  have hp : 2 ^ k < 2 ^ 64 := Nat.pow_lt_pow_right (by decide) hk
  rw [Nat.testBit_and, show 18446744073709551615 - 2 ^ k = 2 ^ 64 - (2 ^ k + 1) by omega, Nat.testBit_two_pow_sub_succ hp, Nat.testBit_two_pow, decide_eq_true hj, Bool.true_and]
theorem BitsOf.put {f r : Int} {n : Nat} {ws : Nat → Nat} {M : Int → Bool} (h : BitsOf f r n ws M) (q : Nat) (hq : (q : Int) < r) :
    BitsOf f r n (fun i => if i = q / 64 then ws (q / 64) ||| 2 ^ (q % 64) else ws i) (fun x => x == f + q || M x) where
  wf i hi := by
    show (if _ then _ else _) < _
    split
    · exact Nat.or_lt_two_pow (h.wf _ (by omega)) (pow_lt_word q)
    · exact h.wf i hi
  room := h.room
  bit p hp := by
    have hb := h.bit p hp
    show (if _ then _ else _ : Nat).testBit _ = _
    by_cases e : p / 64 = q / 64
    · rw [if_pos e, testBit_or_pow, ← e, hb, Bool.or_comm]
      congr 1
      rw [Bool.eq_iff_iff]
      simp only [decide_eq_true_eq, beq_iff_eq]
      omega
    · rw [if_neg e, hb]
      have : (f + (p : Int) == f + q) = false := by rw [beq_eq_false_iff_ne]; omega
      rw [this, Bool.false_or]
  inn v hv := by
    rw [Bool.or_eq_true, beq_iff_eq] at hv
    rcases hv with rfl | hv
    · omega
    · exact h.inn v hv
theorem BitsOf.drop {f r : Int} {n : Nat} {ws : Nat → Nat} {M : Int → Bool} (h : BitsOf f r n ws M) (q : Nat) (hq : (q : Int) < r) :
    BitsOf f r n (fun i => if i = q / 64 then ws (q / 64) &&& (18446744073709551615 - 2 ^ (q % 64)) else ws i) (fun x => M x && !(x == f + q)) where
  wf i hi := by
    have hr := h.room
    show (if _ then _ else _) < _
    split
    · exact Nat.lt_of_le_of_lt Nat.and_le_left (h.wf _ (by omega))
    · exact h.wf i hi
  room := h.room
  bit p hp := by
    have hb := h.bit p hp
    show (if _ then _ else _ : Nat).testBit _ = _
    by_cases e : p / 64 = q / 64
    · rw [if_pos e, testBit_andNot_pow _ _ _ (by omega) (by omega), ← e, hb]
      congr 2
      rw [Bool.eq_iff_iff]
      simp only [decide_eq_true_eq, beq_iff_eq]
      omega
    · rw [if_neg e, hb]
      have : (f + (p : Int) == f + q) = false := by rw [beq_eq_false_iff_ne]; omega
      rw [this, Bool.not_false, Bool.and_true]
  inn v hv := by
    rw [Bool.and_eq_true] at hv
    exact h.inn v hv.1
theorem set_cells {w : World} {gp n : Nat} {ws : Nat → Nat} {cs : Array Value} (m : Nat) (h : w.heap[gp]? = some (.cells cs 86 (0, 0))) (hc : ∀ i, i < 16 * n → cs[i]? = some (.int .u64 (ws i : Nat))) (k : Nat) (hk : k < 16 * n) (u : Nat) :
    ∃ cs', ((w.drewN m).setCell ((Addr.mk gp 0 none).add k) (.int .u64 (u : Nat))).heap[gp]? = some (.cells cs' 86 (0, 0)) ∧ ∀ i, i < 16 * n → cs'[i]? = some (.int .u64 ((if i = k then u else ws i : Nat) : Nat)) := by
  rw [add_zero_off]
  refine ⟨_, blk_put (setB_drawn h m) k _ rfl, fun i hi => ?_⟩
  rw [Array.getElem?_setIfInBounds]
  have hk2 : k < cs.size := (Array.getElem?_eq_some_iff.1 (hc k hk)).1
  by_cases e : k = i
  · subst e
    rw [if_pos rfl, if_pos hk2, if_pos rfl]
  · rw [if_neg e, if_neg (fun x => e x.symm), hc i hi]
theorem SetAt.add {w : World} {g gp : Nat} {f r : Int} {M : Int → Bool} (h : SetAt w g gp f r M) (v : Int) (hv : f ≤ v ∧ v < f + r) :
    Calls Tryd.prog 21 #[setP g, .int .i64 v] w fun e w' => e = .returned (.tuple #[.bool (!M v), .int .i64 0]) ∧ (∃ m i u, w' = (w.drewN m).setCell ⟨gp, i, none⟩ u) ∧ SetAt w' g gp f r (fun x => x == v || M x) := by
  obtain ⟨n, c, ws, cs, h1, h2, h3, h4, h5, h6⟩ := h
  have hr := h6.room
  have := bits_Add.calls g f r ⟨gp, 0, none⟩ n c (fun i => (ws i : Int)) v w h1 (pages_at h2 h4) (by omega) (by omega) (by omega) (by omega) (by rw [h6.fits]; exact decide_eq_true hv)
  rw [h6.has v] at this
  obtain ⟨p, rfl⟩ : ∃ p : Nat, v = f + p := ⟨(v - f).toNat, by omega⟩
  rw [show f + (p : Int) - f = p by omega, show ((p : Int) / 64).toNat = p / 64 by omega, or_bit _ p (h6.wf _ (by omega))] at this
  refine this.mono ?_
  rintro e w' ⟨rfl, m, rfl⟩
  obtain ⟨cs', k1, k2⟩ := set_cells m h2 h4 (p / 64) (by omega) (ws (p / 64) ||| 2 ^ (p % 64))
  refine ⟨rfl, ⟨m, p / 64, _, by rw [add_zero_off]⟩, n, c, _, cs', ?_, k1, h3, k2, h5, h6.put p (by omega)⟩
  rw [add_zero_off]
  exact (Below.heap_setCell _ _ _ g h3).trans (setB_drawn h1 m)
theorem SetAt.add_out {w : World} {g gp : Nat} {f r : Int} {M : Int → Bool} (h : SetAt w g gp f r M) (v : Int) (hv : ¬ (f ≤ v ∧ v < f + r)) :
    Calls Tryd.prog 21 #[setP g, .int .i64 v] w fun e w' => e = .returned (.tuple #[.bool false, .int .i64 20]) ∧ Drawn0 w w' := by
  obtain ⟨n, c, ws, cs, h1, h2, h3, h4, h5, h6⟩ := h
  exact bits_Add.out g f r _ n c v w h1 (by rw [h6.fits]; exact decide_eq_false hv)
theorem SetAt.del {w : World} {g gp : Nat} {f r : Int} {M : Int → Bool} (h : SetAt w g gp f r M) (v : Int) :
    Calls Tryd.prog 23 #[setP g, .int .i64 v] w fun e w' => e = .returned (.tuple #[.bool (M v), .int .i64 0]) ∧ (Drawn0 w w' ∨ ∃ m i u, w' = (w.drewN m).setCell ⟨gp, i, none⟩ u) ∧ SetAt w' g gp f r (fun x => M x && !(x == v)) := by
  have hs := h
  obtain ⟨n, c, ws, cs, h1, h2, h3, h4, h5, h6⟩ := h
  have hr := h6.room
  cases hm : M v with
  | false =>
    refine (bits_Del.miss g f r ⟨gp, 0, none⟩ n c (fun i => (ws i : Int)) v w h1 (pages_at h2 h4) (by omega) (by omega) (by omega) (by omega) (by rw [h6.has, hm])).mono ?_
    rintro e w' ⟨rfl, hd⟩
    have hM : (fun x => M x && !(x == v)) = M := by
      funext x
      by_cases e : x = v
      · subst e; simp [hm]
      · simp [e]
    exact ⟨rfl, .inl hd, by rw [hM]; exact hs.keep (hd.below.block g hs.lt.1) (hd.below.block gp hs.lt.2.1)⟩
  | true =>
    have hv := h6.inn v hm
    have := bits_Del.hit g f r ⟨gp, 0, none⟩ n c (fun i => (ws i : Int)) v w h1 (pages_at h2 h4) (by omega) (by omega) (by omega) (by omega) (by rw [h6.fits]; exact decide_eq_true hv) (by rw [h6.has, hm])
    obtain ⟨p, rfl⟩ : ∃ p : Nat, v = f + p := ⟨(v - f).toNat, by omega⟩
    rw [show f + (p : Int) - f = p by omega, show ((p : Int) / 64).toNat = p / 64 by omega, andNot_bit _ p (h6.wf _ (by omega))] at this
    refine this.mono ?_
    rintro e w' ⟨rfl, m, rfl⟩
    obtain ⟨cs', k1, k2⟩ := set_cells m h2 h4 (p / 64) (by omega) (ws (p / 64) &&& (18446744073709551615 - 2 ^ (p % 64)))
    refine ⟨rfl, .inr ⟨m, p / 64, _, by rw [add_zero_off]⟩, n, c, _, cs', ?_, k1, h3, k2, h5, h6.drop p (by omega)⟩
    rw [add_zero_off]
    exact (Below.heap_setCell _ _ _ g h3).trans (setB_drawn h1 m)

end Go.Proofs.YtfkbkcdiajjljaaDoor.PBitsSteps
