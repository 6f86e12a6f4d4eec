/- Parts of the laws of lex: functions of the program, each with the proof of what it answers; the conditions are those of each theorem. -/
import Derived.Test.YtgpdahgpopmjiaaDoorLq
namespace Go.Proofs.YtgpdahgpopmjiaaDoor.PL
open Go.RowKit Go.Proofs.YtgpdahgpopmjiaaDoorW.PrintWords Go.Proofs.YtgpdahgpopmjiaaDoorW.PrintLast Go.Proofs.YtgpdahgpopmjiaaDoorW.PrintMore
set_option linter.unusedVariables false
set_option linter.unusedSimpArgs false
/-! ### the reference, plainly -/
theorem bt_at (s : ByteArray) (k : Nat) (hk : k < s.size) : bt s (k : Int) = (s[k].toNat : Int) := by
  unfold bt
  rw [dif_pos (by simpa using hk)]
  rfl
theorem bt_is (s : ByteArray) (k : Nat) (hk : k < s.size) (n : Nat) (hn : n < 256) : bt s (k : Int) = (n : Int) ↔ s[k] = UInt8.ofNat n := by
  rw [bt_at s k hk]
  constructor
  · intro h
    have h' : s[k].toNat = n := by omega
    rw [← h']
    simp
  · intro h
    rw [h]
    have : (UInt8.ofNat n).toNat = n := by rw [UInt8.toNat_ofNat']; omega
    omega
theorem wrap_nat (k : Nat) (h : k ≤ 9223372036854775807) : wrap64 (k : Int) = (k : Nat) := IntWalk.wrap64_in _ (by omega)
theorem wrap_succ (k : Nat) (h : k < 9223372036854775807) : wrap64 ((k : Int) + 1) = ((k + 1 : Nat) : Int) := by rw [IntWalk.wrap64_in _ (by omega)]; omega
theorem wrap_succ2 (k : Nat) (h : k < 9223372036854775806) : wrap64 ((k : Int) + 2) = ((k + 2 : Nat) : Int) := by rw [IntWalk.wrap64_in _ (by omega)]; omega
/-! #### skip -/
theorem nx_step (s : ByteArray) (k : Nat) (hk : k < s.size) (h : blankB s[k] = true) : nx s k = nx s (k + 1) := by
  rw [nx_blank, runTo_hit _ s k hk h, ← nx_blank]
theorem ref_skip_ev (s : ByteArray) (hs : s.size ≤ 140737488351232) : ∀ (d k : Nat), k ≤ s.size → s.size - k = d →
    Ev (fun n => jigsawref15_skip.l0 n s (k : Nat)) (nx s k : Nat) ∧ Ev (fun n => jigsawref15_skip.l1 n s (k : Nat)) (nx s (runTo (fun c => c != 10) s k) : Nat)
  | 0, k, hk, hd => by
    obtain rfl : k = s.size := by omega
    have h0 : Ev (fun n => jigsawref15_skip.l0 n s (s.size : Nat)) (nx s s.size : Nat) := by
      rw [nx_end]
      refine Ev.step (f := fun _ => some ((s.size : Nat) : Int)) (fun n => ?_) (Ev.now _)
      simp only [jigsawref15_skip.l0]
      rw [if_neg (by omega)]
    refine ⟨h0, ?_⟩
    rw [runTo_end _ s s.size (Nat.le_refl _)]
    refine Ev.step (f := fun n => jigsawref15_skip.l0 n s (s.size : Nat)) (fun n => ?_) h0
    simp only [jigsawref15_skip.l1]
    rw [if_neg (by omega)]
  | d + 1, k, hk, hd => by
    have hlt : k < s.size := by omega
    obtain ⟨i0, i1⟩ := ref_skip_ev s hs d (k + 1) (by omega) (by omega)
    have hlI : (k : Int) < (s.size : Nat) := by omega
    have hw := wrap_succ k (by omega)
    have h32 := bt_is s k hlt 32 (by decide)
    have h9 := bt_is s k hlt 9 (by decide)
    have h10 := bt_is s k hlt 10 (by decide)
    have h13 := bt_is s k hlt 13 (by decide)
    have h37 := bt_is s k hlt 37 (by decide)
    generalize hb : bt s (k : Int) = b at *
    have hj : Ev (fun n => jigsawref15_skip.j1 n s (k : Nat) b true) (nx s (k + 1) : Nat) := by
      refine Ev.step (f := fun n => jigsawref15_skip.l0 n s ((k + 1 : Nat) : Int)) (fun n => ?_) i0
      simp only [jigsawref15_skip.j1]
      rw [if_pos trivial, hw]
    have h0 : Ev (fun n => jigsawref15_skip.l0 n s (k : Nat)) (nx s k : Nat) := by
      by_cases hbl : blankB s[k] = true
      · rw [nx_step s k hlt hbl]
        refine Ev.step (f := fun n => jigsawref15_skip.j1 n s (k : Nat) b true) (fun n => ?_) hj
        simp only [jigsawref15_skip.l0]
        rw [if_pos hlI, if_pos (by omega), hb]
        by_cases e1 : b = 32
        · rw [if_pos e1]
        · rw [if_neg e1]
          by_cases e2 : b = 9
          · rw [if_pos e2]
          · rw [if_neg e2]
            by_cases e3 : b = 10
            · rw [if_pos e3]
            · rw [if_neg e3]
              have e4 : b = 13 := by
                rw [show (13 : Int) = ((13 : Nat) : Int) from rfl, h13]
                unfold blankB at hbl
                simp only [Bool.or_eq_true, beq_iff_eq] at hbl
                rcases hbl with ((h | h) | h) | h
                · exact absurd (h32.2 h) e1
                · exact absurd (h9.2 h) e2
                · exact absurd (h10.2 h) e3
                · exact h
              rw [e4]
              rfl
      · have hbl' : blankB s[k] = false := by simpa using hbl
        have hn : ¬ b = 32 ∧ ¬ b = 9 ∧ ¬ b = 10 ∧ ¬ b = 13 := by
          unfold blankB at hbl'
          simp only [Bool.or_eq_false_iff, beq_eq_false_iff_ne] at hbl'
          exact ⟨fun e => hbl'.1.1.1 (h32.1 e), fun e => hbl'.1.1.2 (h9.1 e), fun e => hbl'.1.2 (h10.1 e), fun e => hbl'.2 (h13.1 e)⟩
        have hl0 : ∀ n, jigsawref15_skip.l0 (n + 1) s (k : Nat) = jigsawref15_skip.j1 n s (k : Nat) b false := fun n => by
          simp only [jigsawref15_skip.l0]
          rw [if_pos hlI, if_pos (by omega), hb, if_neg hn.1, if_neg hn.2.1, if_neg hn.2.2.1, beq_eq_false_iff_ne.2 hn.2.2.2]
        refine Ev.step (f := fun n => jigsawref15_skip.j1 n s (k : Nat) b false) hl0 ?_
        by_cases hc : b = 37
        · have hc' := h37.1 hc
          have hcm := (nx_comment s k hlt hc').1
          rw [runTo_hit _ s k hlt (by rw [hc']; decide)] at hcm
          rw [hcm]
          refine Ev.step (f := fun n => jigsawref15_skip.l1 n s (k : Nat)) (fun n => ?_) (Ev.step (f := fun n => jigsawref15_skip.l1 n s ((k + 1 : Nat) : Int)) (fun n => ?_) i1)
          · simp only [jigsawref15_skip.j1]
            rw [if_neg (by decide), if_pos hc]
          · simp only [jigsawref15_skip.l1]
            rw [if_pos hlI, if_pos (by omega), hb, if_neg hn.2.2.1, hw]
        · rw [nx_stay s k hlt hbl' (fun e => hc (h37.2 e))]
          refine Ev.step (f := fun _ => some ((k : Nat) : Int)) (fun n => ?_) (Ev.now _)
          simp only [jigsawref15_skip.j1]
          rw [if_neg (by decide), if_neg hc]
    refine ⟨h0, ?_⟩
    by_cases e3 : b = 10
    · rw [runTo_miss _ s k hlt (by rw [h10.1 e3]; decide)]
      refine Ev.step (f := fun n => jigsawref15_skip.l0 n s (k : Nat)) (fun n => ?_) h0
      simp only [jigsawref15_skip.l1]
      rw [if_pos hlI, if_pos (by omega), hb, if_pos e3]
    · rw [runTo_hit _ s k hlt (by simp only [bne_iff_ne]; exact fun e => e3 (h10.2 e))]
      refine Ev.step (f := fun n => jigsawref15_skip.l1 n s ((k + 1 : Nat) : Int)) (fun n => ?_) i1
      simp only [jigsawref15_skip.l1]
      rw [if_pos hlI, if_pos (by omega), hb, if_neg e3, hw]
theorem ref_skip (s : ByteArray) (hs : s.size ≤ 140737488351232) (k : Nat) (hk : k ≤ s.size) : Ev (fun n => jigsawref15_skip.f n s (k : Nat)) (nx s k : Nat) :=
  (ref_skip_ev s hs _ k hk rfl).1
/-! #### float -/
theorem startsDigit_drop (s : ByteArray) (k : Nat) (hk : k < s.size) : startsDigit ((ll s).drop k) = digitB s[k] := by
  rw [ll_drop s k hk]
  rfl
theorem drop_end (s : ByteArray) (k : Nat) (hk : s.size ≤ k) : (ll s).drop k = [] := List.drop_of_length_le (by rw [ll_len]; exact hk)
theorem digit_at (s : ByteArray) (k : Nat) (hk : k < s.size) : jigsawref15_digit.f (bt s (k : Int)) = some (digitB s[k]) := by
  rw [bt_at s k hk]
  exact refDigit_f _
theorem letter_at (s : ByteArray) (k : Nat) (hk : k < s.size) : jigsawref15_letter.f (bt s (k : Int)) = some (letterB s[k]) := by
  rw [bt_at s k hk]
  exact refLetter_f _
theorem ref_float_j1 (s : ByteArray) (hs : s.size ≤ 140737488351232) (k : Nat) (hk : k < s.size) (n : Nat) : jigsawref15_float.j1 (n + 1) s (k : Nat) false = some (startsDigit (afterSign ((ll s).drop (k + 1)))) := by
  have hw := wrap_succ k (by omega)
  have hw2 := wrap_succ (k + 1) (by omega)
  simp only [jigsawref15_float.j1]
  rw [if_neg (by decide), hw]
  by_cases h1 : k + 1 < s.size
  · rw [if_pos (by omega), if_pos (by omega), hw2]
    have h45 := bt_is s (k + 1) h1 45 (by decide)
    have h43 := bt_is s (k + 1) h1 43 (by decide)
    rw [ll_drop s (k + 1) h1, afterSign]
    by_cases e1 : bt s ((k + 1 : Nat) : Int) = 45
    · have hif : (s[k + 1] == 45 || s[k + 1] == 43) = true := by rw [h45.1 e1]; decide
      rw [hif, if_pos e1]
      by_cases h2 : k + 1 + 1 < s.size
      · rw [if_pos (by omega), if_pos (by omega), digit_at s _ h2]
        simp only [Option.bind_some, if_true]
        rw [startsDigit_drop s _ h2]
      · rw [if_neg (by omega)]
        simp only [if_true]
        rw [drop_end s _ (by omega)]
        rfl
    · rw [if_neg e1]
      by_cases e2 : bt s ((k + 1 : Nat) : Int) = 43
      · have hif : (s[k + 1] == 45 || s[k + 1] == 43) = true := by rw [h43.1 e2]; decide
        rw [hif, if_pos e2]
        by_cases h2 : k + 1 + 1 < s.size
        · rw [if_pos (by omega), if_pos (by omega), digit_at s _ h2]
          simp only [Option.bind_some, if_true]
          rw [startsDigit_drop s _ h2]
        · rw [if_neg (by omega)]
          simp only [if_true]
          rw [drop_end s _ (by omega)]
          rfl
      · have hif : (s[k + 1] == 45 || s[k + 1] == 43) = false := by
          simp only [Bool.or_eq_false_iff, beq_eq_false_iff_ne]
          exact ⟨fun h => e1 (h45.2 h), fun h => e2 (h43.2 h)⟩
        rw [hif, if_neg e2, digit_at s _ h1]
        rfl
  · rw [if_neg (by omega), drop_end s _ (by omega)]
    rfl
theorem ref_float (s : ByteArray) (hs : s.size ≤ 140737488351232) (k : Nat) (hk : k ≤ s.size) : Ev (fun n => jigsawref15_float.f n s (k : Nat)) (floatL ((ll s).drop k)) := by
  have hw := wrap_succ k (by omega)
  by_cases h0 : k < s.size
  · have h46 := bt_is s k h0 46 (by decide)
    have h101 := bt_is s k h0 101 (by decide)
    have h69 := bt_is s k h0 69 (by decide)
    rw [ll_drop s k h0, floatL]
    have hno : ¬ bt s (k : Int) = 46 → Ev (fun n => jigsawref15_float.j0 n s (k : Nat) false) (if s[k] == 101 || s[k] == 69 then startsDigit (afterSign ((ll s).drop (k + 1))) else false) := by
      intro e
      by_cases e1 : bt s (k : Int) = 101
      · rw [if_pos (by rw [h101.1 e1]; decide)]
        refine ⟨2, fun n hn => ?_⟩
        obtain ⟨m, rfl⟩ : ∃ m, n = m + 1 + 1 := ⟨n - 2, by omega⟩
        simp only [jigsawref15_float.j0]
        rw [if_neg (by decide), if_neg (by omega), if_pos (by omega), if_pos (by omega), if_pos e1]
        exact ref_float_j1 s hs k h0 m
      · by_cases e2 : bt s (k : Int) = 69
        · rw [if_pos (by rw [h69.1 e2]; decide)]
          refine ⟨2, fun n hn => ?_⟩
          obtain ⟨m, rfl⟩ : ∃ m, n = m + 1 + 1 := ⟨n - 2, by omega⟩
          simp only [jigsawref15_float.j0]
          rw [if_neg (by decide), if_neg (by omega), if_pos (by omega), if_pos (by omega), if_neg e1, bne_eq_false_iff_eq.2 e2]
          exact ref_float_j1 s hs k h0 m
        · rw [if_neg]
          · refine ⟨2, fun n hn => ?_⟩
            obtain ⟨m, rfl⟩ : ∃ m, n = m + 1 + 1 := ⟨n - 2, by omega⟩
            simp only [jigsawref15_float.j0]
            rw [if_neg (by decide), if_neg (by omega), if_pos (by omega), if_pos (by omega), if_neg e1, bne_iff_ne.2 e2]
            simp only [jigsawref15_float.j1]
            rw [if_pos trivial]
          · simp only [Bool.or_eq_true, beq_iff_eq]
            rintro (h | h)
            · exact e1 (h101.2 h)
            · exact e2 (h69.2 h)
    by_cases e : bt s (k : Int) = 46
    · rw [if_pos (by rw [h46.1 e]; decide)]
      have hf2 : Ev (fun n => jigsawref15_float.j0 n s (k : Nat) false) false := by
        refine ⟨2, fun n hn => ?_⟩
        obtain ⟨m, rfl⟩ : ∃ m, n = m + 1 + 1 := ⟨n - 2, by omega⟩
        simp only [jigsawref15_float.j0]
        rw [if_neg (by decide), if_neg (by omega), if_pos (by omega), if_pos (by omega), if_neg (by omega), bne_iff_ne.2 (by omega)]
        simp only [jigsawref15_float.j1]
        rw [if_pos trivial]
      by_cases h1 : k + 1 < s.size
      · rw [startsDigit_drop s _ h1]
        cases hd : digitB s[k + 1] with
        | true =>
          refine ⟨1, fun n hn => ?_⟩
          obtain ⟨m, rfl⟩ : ∃ m, n = m + 1 := ⟨n - 1, by omega⟩
          simp only [jigsawref15_float.f]
          rw [hw, if_pos (by omega), if_pos (by omega), if_pos (by omega), if_pos e, if_pos (by omega), digit_at s _ h1, hd]
          simp only [Option.bind_some, jigsawref15_float.j0]
          rw [if_pos trivial]
        | false =>
          refine Ev.congr (fun n => ?_) hf2
          simp only [jigsawref15_float.f]
          rw [hw, if_pos (by omega), if_pos (by omega), if_pos (by omega), if_pos e, if_pos (by omega), digit_at s _ h1, hd]
          rfl
      · rw [drop_end s _ (by omega)]
        refine Ev.congr (fun n => ?_) hf2
        simp only [jigsawref15_float.f]
        rw [hw, if_neg (by omega)]
    · rw [if_neg (by simp only [beq_iff_eq]; exact fun h => e (h46.2 h))]
      refine Ev.congr (fun n => ?_) (hno e)
      simp only [jigsawref15_float.f]
      rw [hw]
      by_cases h1 : k + 1 < s.size
      · rw [if_pos (by omega), if_pos (by omega), if_pos (by omega), if_neg e]
      · rw [if_neg (by omega)]
  · rw [drop_end s _ (by omega)]
    refine ⟨2, fun n hn => ?_⟩
    obtain ⟨m, rfl⟩ : ∃ m, n = m + 1 + 1 := ⟨n - 2, by omega⟩
    simp only [jigsawref15_float.f]
    rw [hw, if_neg (by omega)]
    simp only [jigsawref15_float.j0]
    rw [if_neg (by decide), if_pos (by omega)]
    simp only [jigsawref15_float.j1]
    rw [if_pos trivial]
    rfl

end Go.Proofs.YtgpdahgpopmjiaaDoor.PL
