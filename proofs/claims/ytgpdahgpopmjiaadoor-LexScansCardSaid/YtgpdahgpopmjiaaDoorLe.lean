/- Parts of the laws of lex: functions of the program, each with the proof of what it answers; the conditions are those of each theorem. -/
import Derived.Test.YtgpdahgpopmjiaaDoorLd
namespace Go.Proofs.YtgpdahgpopmjiaaDoor.PL
open Go.RowKit Go.Proofs.YtgpdahgpopmjiaaDoorW.PrintWords Go.Proofs.YtgpdahgpopmjiaaDoorW.PrintLast Go.Proofs.YtgpdahgpopmjiaaDoorW.PrintMore
set_option linter.unusedVariables false
set_option linter.unusedSimpArgs false
/-! ### Word -/
theorem word_run (s : ByteArray) (h0 : 0 < s.size) : wordL (ll s) = (letterB s[0] && (runTo wordB s 0 == s.size)) := by
  have hd := ll_drop s 0 h0
  rw [List.drop_zero] at hd
  have hw : ∀ c, letterB c = true → wordB c = true := fun c h => by unfold wordB; rw [h]; rfl
  rw [hd, wordL]
  cases hl : letterB s[0] with
  | false => rfl
  | true =>
    rw [Bool.true_and, Bool.true_and, runTo_hit _ s 0 h0 (hw _ hl)]
    have hlen : ((ll s).drop 1).length = s.size - 1 := by rw [List.length_drop, ll_len]
    rw [Bool.eq_iff_iff, beq_iff_eq]
    constructor
    · intro h
      unfold runTo
      rw [takeWhile_of_all wordB _ h, hlen]
      omega
    · intro h
      unfold runTo at h
      exact takeWhile_full wordB _ (by rw [hlen]; omega)
theorem toList_nil {s : ByteArray} (h : s.size = 0) : s.toList = [] := by
  rw [Go.ByteArray.toList_eq]
  rw [← List.length_eq_zero_iff]
  exact (ll_len s).trans h
theorem toList_ne {s : ByteArray} (h : 0 < s.size) : s.toList ≠ [] ∧ s.toList.isEmpty = false := by
  have h1 : s.toList ≠ [] := by
    rw [Go.ByteArray.toList_eq]
    intro e
    have h2 := congrArg List.length e
    rw [show s.data.toList.length = s.size from ll_len s, List.length_nil] at h2
    omega
  refine ⟨h1, ?_⟩
  cases h2 : s.toList with
  | nil => exact absurd h2 h1
  | cons => rfl
set_option maxHeartbeats 4000000 in
theorem word_calls (s : ByteArray) (hs : s.size ≤ 140737488351232) (w : World) :
    Calls Tryd.prog 12 #[.string s] w fun e w' => e = .returned (.bool (wordL (ll s))) ∧ w' = w := by
  rcases Nat.eq_zero_or_pos s.size with h0 | h0
  · have hn := toList_nil h0
    have hw : wordL (ll s) = false := by
      have : ll s = [] := by rw [← List.length_eq_zero_iff, ll_len]; exact h0
      rw [this]; rfl
    rw [hw]
    clear hw
    go_enter Tryd.func12, Tryd.ntmps12
    go_wp2_with fail
    go_ret
    exact ⟨rfl, rfl⟩
  · obtain ⟨hn, hni⟩ := toList_ne h0
    rw [word_run s h0]
    have hl := letter_calls s[0] w
    obtain ⟨lb, hlb⟩ : ∃ b, b = letterB s[0] := ⟨_, rfl⟩
    rw [← hlb] at hl ⊢
    have HL := Lib.hid hl
    clear hl hlb
    cases lb with
    | false =>
      go_enter Tryd.func12, Tryd.ntmps12
      go_wp2_with fail
      refine HL.out.mono ?_
      rintro e w1 ⟨rfl, rfl⟩
      go_wp2_with fail
      go_ret
      exact ⟨rfl, rfl⟩
    | true =>
      go_enter Tryd.func12, Tryd.ntmps12
      go_wp2_with fail
      refine HL.out.mono ?_
      rintro e w1 ⟨rfl, rfl⟩
      go_wp2_with fail
      refine (run_calls _ _ runP_word s 0 (by omega) hs _).mono ?_
      rintro e w1 ⟨rfl, rfl⟩
      obtain ⟨j, hj⟩ : ∃ j, j = runTo wordB s 0 := ⟨_, rfl⟩
      rw [← hj]
      have HJ := Lib.hid hj
      clear hj
      go_wp2_with fail
      go_ret
      refine ⟨?_, rfl⟩
      rw [Bool.true_and, ← HJ.out]
      show Ending.returned (.bool (((j : Nat) : Int) == ((s.size : Nat) : Int))) = _
      congr 2
      rw [Bool.eq_iff_iff, beq_iff_eq, beq_iff_eq]
      omega
/-! ### float -/
theorem ll_cut (s : ByteArray) (i j : Nat) : ll (s.extract i j) = ((ll s).drop i).take (j - i) := by
  unfold ll
  rw [ByteArray.data_extract, Array.toList_extract, List.extract_eq_take_drop]
theorem startsDigit_at (s : ByteArray) (h : 0 < s.size) : startsDigit (ll s) = digitB s[0] := by
  have := ll_drop s 0 h
  rw [List.drop_zero] at this
  rw [this]; rfl
theorem startsDigit_none (s : ByteArray) (h : s.size = 0) : startsDigit (ll s) = false := by
  have : ll s = [] := by rw [← List.length_eq_zero_iff, ll_len]; exact h
  rw [this]; rfl
theorem ll_first (s : ByteArray) (h : 0 < s.size) : ll s = s[0] :: (ll s).drop 1 := by
  have := ll_drop s 0 h
  rw [List.drop_zero] at this
  exact this
theorem bytes_of (l : List UInt8) : ll ⟨l.toArray⟩ = l := rfl
theorem size_of (l : List UInt8) : (⟨l.toArray⟩ : ByteArray).size = l.length := by
  rw [← ll_len]
theorem cut_dot (r : ByteArray) (w : World) : Calls Tryd.prog 62 #[.string r, .string ⟨#[46]⟩] w fun e w' => (∃ t : ByteArray, e = .returned (.tuple #[.string t, .bool (twice 46 (ll r))]) ∧ (twice 46 (ll r) = true → ll t = (ll r).drop 1)) ∧ w' = w := by
  refine (Tryd.strings_CutPrefix r ⟨#[46]⟩ w).mono ?_
  rintro e w' ⟨rfl, rfl⟩
  have hp : Lib.hasPrefix r.data.toList [46] = twice 46 (ll r) := by
    show Lib.hasPrefix (ll r) [46] = _
    cases ll r with
    | nil => rfl
    | cons c t =>
      show ([46] : List UInt8).isPrefixOf (c :: t) = (c == 46)
      rw [List.isPrefixOf]
      rw [show ([] : List UInt8).isPrefixOf t = true by cases t <;> rfl, Bool.and_true, Bool.eq_iff_iff, beq_iff_eq, beq_iff_eq]
      exact eq_comm
  refine ⟨⟨_, by show Ending.returned (.tuple #[.string _, .bool (Lib.hasPrefix r.data.toList [46])]) = _; rw [hp], fun h => ?_⟩, rfl⟩
  show Lib.trimPrefix (ll r) [46] = _
  unfold Lib.trimPrefix
  rw [show Lib.hasPrefix (ll r) [46] = _ from hp, if_pos h]
  rfl
theorem ebyte (c : UInt8) : (Go.bits .or .u8 (c.toNat : Int) 32 != 101) = !(c == 101 || c == 69) := all256 (fun c => (Go.bits .or .u8 (c.toNat : Int) 32 != 101) = !(c == 101 || c == 69)) (by decide +kernel) c
theorem byte_eq (c d : UInt8) : ((c.toNat : Int) == (d.toNat : Int)) = (c == d) := by
  rw [Bool.eq_iff_iff, beq_iff_eq, beq_iff_eq]
  constructor
  · intro h; exact UInt8.toNat_inj.1 (by omega)
  · rintro rfl; rfl
set_option maxHeartbeats 8000000 in
theorem float_calls (r : ByteArray) (hs : r.size ≤ 140737488351232) (w : World) :
    Calls Tryd.prog 52 #[.string r] w fun e w' => e = .returned (.bool (floatL (ll r))) ∧ w' = w := by
  have HD := Lib.hid (cut_dot r w)
  rcases Nat.eq_zero_or_pos r.size with h0 | h0
  · have hl : ll r = [] := by rw [← List.length_eq_zero_iff, ll_len]; exact h0
    have hn := toList_nil h0
    rw [hl] at HD ⊢
    have HL := Lib.hid hl
    clear hl
    go_enter Tryd.func52, Tryd.ntmps52
    go_wp2_with fail
    refine HD.out.mono ?_
    rintro e w1 ⟨⟨t, rfl, _⟩, rfl⟩
    have e1 : twice 46 [] = false := rfl
    rw [e1]
    go_wp2_with fail
    go_ret
    exact ⟨rfl, rfl⟩
  · obtain ⟨hn, hni⟩ := toList_ne h0
    have hl := ll_first r h0
    have hc0 : r[0] = (ll r)[0]'(by rw [ll_len]; exact h0) := rfl
    have hf : floatL (ll r) = if r[0] == 46 then startsDigit ((ll r).drop 1) else if r[0] == 101 || r[0] == 69 then startsDigit (afterSign ((ll r).drop 1)) else false := by
      conv => lhs; rw [hl]
      rfl
    have ht : twice 46 (ll r) = (r[0] == 46) := by
      conv => lhs; rw [hl]
      rfl
    rw [hf]
    rw [ht] at HD
    have heb := ebyte r[0]
    have HEB := Lib.hid heb
    have hbt : ((ll r).drop 1).length = r.size - 1 := by rw [List.length_drop, ll_len]
    have HBT := Lib.hid hbt
    clear hl hf ht heb hbt hc0
    cases hdot : (r[0] == 46) with
    | true =>
      rw [hdot] at HD
      rw [if_pos rfl]
      clear hdot
      go_enter Tryd.func52, Tryd.ntmps52
      go_wp2_with fail
      refine HD.out.mono ?_
      rintro e w1 ⟨⟨t, rfl, ht⟩, rfl⟩
      have ht := ht trivial
      have HT := Lib.hid ht
      clear ht
      have hts : t.size ≤ 140737488351232 := by rw [← ll_len, HT.out, HBT.out]; omega
      rcases Nat.eq_zero_or_pos t.size with ht0 | ht0
      · have htn := toList_nil ht0
        go_wp2_with fail
        go_ret
        refine ⟨?_, rfl⟩
        rw [← HT.out, startsDigit_none t ht0]
        rfl
      · obtain ⟨htn, htni⟩ := toList_ne ht0
        have HC := Lib.hid (digit_calls t[0] w1)
        go_wp2_with fail
        refine HC.out.mono ?_
        rintro e w2 ⟨rfl, rfl⟩
        go_wp2_with fail
        go_ret
        refine ⟨?_, rfl⟩
        rw [← HT.out, startsDigit_at t ht0]
        rfl
    | false =>
      rw [hdot] at HD
      rw [if_neg (by decide)]
      clear hdot
      cases he : (r[0] == 101 || r[0] == 69) with
      | false =>
        rw [if_neg (by decide)]
        rw [he] at HEB
        have heb := HEB.out
        rw [Bool.not_false] at heb
        clear he
        go_enter Tryd.func52, Tryd.ntmps52
        go_wp2_with fail
        refine HD.out.mono ?_
        rintro e w1 ⟨⟨t, rfl, _⟩, rfl⟩
        go_wp2_with fail
        go_ret
        exact ⟨rfl, rfl⟩
      | true =>
        rw [if_pos rfl]
        rw [he] at HEB
        have heb := HEB.out
        rw [Bool.not_true] at heb
        clear he
        have hlt : ll (r.extract 1 r.size) = (ll r).drop 1 := by rw [ll_cut, List.take_of_length_le (by rw [HBT.out]; exact Nat.le_refl _)]
        rw [← hlt]
        have hts : (r.extract 1 r.size).size = r.size - 1 := by rw [← ll_len, hlt, HBT.out]
        have HLT := Lib.hid hlt
        clear hlt
        rcases Nat.eq_zero_or_pos (r.size - 1) with ht0 | ht0
        · have htn := toList_nil (hts.trans ht0)
          have hlt0 : ll (r.extract 1 r.size) = [] := by rw [← List.length_eq_zero_iff, ll_len]; exact hts.trans ht0
          rw [hlt0]
          clear hlt0 hts
          go_enter Tryd.func52, Tryd.ntmps52
          go_wp2_with fail
          refine HD.out.mono ?_
          rintro e w1 ⟨⟨t', rfl, _⟩, rfl⟩
          go_wp2_with fail
          go_ret
          exact ⟨rfl, rfl⟩
        · obtain ⟨htn, htni⟩ := toList_ne (s := r.extract 1 r.size) (by rw [hts]; exact ht0)
          have hpos : 0 < (r.extract 1 r.size).size := by rw [hts]; exact ht0
          have hf1 := ll_first (r.extract 1 r.size) hpos
          obtain ⟨c, hcc⟩ : ∃ c, c = (r.extract 1 r.size)[0] := ⟨_, rfl⟩
          have h45 : (((r.extract 1 r.size)[0].toNat : Int) == 45) = (c == 45) := by rw [← hcc]; exact byte_eq c 45
          have h43 : (((r.extract 1 r.size)[0].toNat : Int) == 43) = (c == 43) := by rw [← hcc]; exact byte_eq c 43
          have hsg : afterSign (ll (r.extract 1 r.size)) = if c == 45 || c == 43 then (ll (r.extract 1 r.size)).drop 1 else ll (r.extract 1 r.size) := by
            conv => lhs; rw [hf1]
            rw [← hcc]
            conv => rhs; rw [hf1]
            rw [← hcc]
            rfl
          have HDG := Lib.hid (fun w => digit_calls (r.extract 1 r.size)[0] w)
          have hsd := startsDigit_at (r.extract 1 r.size) hpos
          have HSD := Lib.hid hsd
          have HCC := Lib.hid hcc
          have hlt2 : ll ((r.extract 1 r.size).extract 1 (r.size - 1)) = (ll (r.extract 1 r.size)).drop 1 := by rw [ll_cut, List.take_of_length_le (by rw [List.length_drop, ll_len, hts]; exact Nat.le_refl _)]
          have hts2 : ((r.extract 1 r.size).extract 1 (r.size - 1)).size = r.size - 1 - 1 := by rw [← ll_len, hlt2, List.length_drop, ll_len, hts]
          cases hs1 : (c == 45 || c == 43) with
          | false =>
            rw [hs1] at hsg
            rw [if_neg (by decide)] at hsg
            rw [Bool.or_eq_false_iff] at hs1
            rw [hs1.1] at h45
            rw [hs1.2] at h43
            have HSG := Lib.hid hsg
            clear hsg hs1 hf1 hcc hsd hlt2 hts2
            go_enter Tryd.func52, Tryd.ntmps52
            go_wp2_with fail
            refine HD.out.mono ?_
            rintro e w1 ⟨⟨t', rfl, _⟩, rfl⟩
            go_wp2_with fail
            refine (HDG.out _).mono ?_
            rintro e w2 ⟨rfl, rfl⟩
            go_wp2_with fail
            go_ret
            refine ⟨?_, rfl⟩
            rw [HSG.out, HSD.out]
            rfl
          | true =>
            rw [hs1] at hsg
            rw [if_pos rfl, ← hlt2] at hsg
            have HSG := Lib.hid hsg
            clear hsg hf1 hcc hsd hlt2
            have hor : ((c == 45) = true) ∨ ((c == 45) = false ∧ (c == 43) = true) := by
              cases h1 : (c == 45) with
              | true => exact .inl rfl
              | false => rw [h1, Bool.false_or] at hs1; exact .inr ⟨rfl, hs1⟩
            clear hs1
            rcases Nat.eq_zero_or_pos (r.size - 1 - 1) with hu0 | hu0
            · have hun := toList_nil (hts2.trans hu0)
              have HST := Lib.hid (startsDigit_none _ (hts2.trans hu0))
              rcases hor with h1 | ⟨h1, h2⟩
              · rw [h1] at h45
                clear hts2 h1
                go_enter Tryd.func52, Tryd.ntmps52
                go_wp2_with fail
                refine HD.out.mono ?_
                rintro e w1 ⟨⟨t', rfl, _⟩, rfl⟩
                go_wp2_with fail
                go_ret
                refine ⟨?_, rfl⟩
                rw [HSG.out, HST.out]
                rfl
              · rw [h1] at h45
                rw [h2] at h43
                clear hts2 h1 h2
                go_enter Tryd.func52, Tryd.ntmps52
                go_wp2_with fail
                refine HD.out.mono ?_
                rintro e w1 ⟨⟨t', rfl, _⟩, rfl⟩
                go_wp2_with fail
                go_ret
                refine ⟨?_, rfl⟩
                rw [HSG.out, HST.out]
                rfl
            · have hp2 : 0 < ((r.extract 1 r.size).extract 1 (r.size - 1)).size := by rw [hts2]; exact hu0
              obtain ⟨hun, huni⟩ := toList_ne hp2
              have HST := Lib.hid (startsDigit_at _ hp2)
              have HDH := Lib.hid (fun w => digit_calls ((r.extract 1 r.size).extract 1 (r.size - 1))[0] w)
              rcases hor with h1 | ⟨h1, h2⟩
              · rw [h1] at h45
                clear hts2 h1
                go_enter Tryd.func52, Tryd.ntmps52
                go_wp2_with fail
                refine HD.out.mono ?_
                rintro e w1 ⟨⟨t', rfl, _⟩, rfl⟩
                go_wp2_with fail
                refine (HDH.out _).mono ?_
                rintro e w2 ⟨rfl, rfl⟩
                go_wp2_with fail
                go_ret
                refine ⟨?_, rfl⟩
                rw [HSG.out, HST.out]
                rfl
              · rw [h1] at h45
                rw [h2] at h43
                clear hts2 h1 h2
                go_enter Tryd.func52, Tryd.ntmps52
                go_wp2_with fail
                refine HD.out.mono ?_
                rintro e w1 ⟨⟨t', rfl, _⟩, rfl⟩
                go_wp2_with fail
                refine (HDH.out _).mono ?_
                rintro e w2 ⟨rfl, rfl⟩
                go_wp2_with fail
                go_ret
                refine ⟨?_, rfl⟩
                rw [HSG.out, HST.out]
                rfl

end Go.Proofs.YtgpdahgpopmjiaaDoor.PL
