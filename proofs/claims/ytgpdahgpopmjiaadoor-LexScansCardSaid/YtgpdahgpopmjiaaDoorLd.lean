/- Parts of the laws of lex: functions of the program, each with the proof of what it answers; the conditions are those of each theorem. -/
import Derived.Test.YtgpdahgpopmjiaaDoorLc
namespace Go.Proofs.YtgpdahgpopmjiaaDoor.PL
open Go.RowKit Go.Proofs.YtgpdahgpopmjiaaDoorW.PrintWords Go.Proofs.YtgpdahgpopmjiaaDoorW.PrintLast Go.Proofs.YtgpdahgpopmjiaaDoorW.PrintMore
set_option linter.unusedVariables false
set_option linter.unusedSimpArgs false
/-! ### skip -/
theorem skip_blank : ∀ l : List UInt8, skipM false l = skipM false (l.dropWhile blankB)
  | [] => rfl
  | c :: t => by
    rw [List.dropWhile_cons]
    split
    · rename_i h
      rw [skipM, if_pos h]
      exact skip_blank t
    · rfl
theorem skip_comment : ∀ l : List UInt8, skipM true l = skipM false (l.dropWhile fun c => c != 10)
  | [] => rfl
  | c :: t => by
    rw [List.dropWhile_cons]
    split
    · rename_i h
      have h2 : (c == 10) = false := by simpa using h
      rw [skipM, h2]
      exact skip_comment t
    · rename_i h
      have h2 : c = 10 := by simpa using h
      subst h2
      rfl
theorem drop_runTo (p : UInt8 → Bool) (s : ByteArray) (k : Nat) : (ll s).drop (runTo p s k) = ((ll s).drop k).dropWhile p := by
  unfold runTo
  rw [dropWhile_drop, List.drop_drop]
abbrev nx (s : ByteArray) (k : Nat) : Nat := nextAt (ll s) k
theorem nx_blank (s : ByteArray) (k : Nat) : nx s k = nx s (runTo blankB s k) := by
  unfold nx nextAt skipL
  rw [drop_runTo, ← skip_blank]
theorem nx_end (s : ByteArray) : nx s s.size = s.size := by
  unfold nx nextAt
  rw [List.drop_of_length_le (by rw [ll_len]; exact Nat.le_refl _), ll_len]
  rfl
theorem nx_stay (s : ByteArray) (k : Nat) (hk : k < s.size) (h1 : blankB s[k] = false) (h2 : s[k] ≠ 37) : nx s k = k := by
  unfold nx nextAt skipL
  rw [ll_drop s k hk, skipM, if_neg (by rw [h1]; decide), if_neg (by simpa using h2), ← ll_drop s k hk, List.length_drop, ll_len]
  omega
theorem nx_comment (s : ByteArray) (k : Nat) (hk : k < s.size) (h2 : s[k] = 37) : nx s k = nx s (runTo (fun c => c != 10) s k) ∧ k < runTo (fun c => c != 10) s k := by
  constructor
  · unfold nx nextAt skipL
    rw [drop_runTo, ll_drop s k hk, h2]
    rw [List.dropWhile_cons, if_pos (by decide), ← skip_comment]
    rfl
  · rw [runTo_hit _ s k hk (by rw [h2]; decide)]
    have := (runTo_le (fun c => c != 10) s (k + 1) (by omega)).1
    omega
theorem runTo_stop (p : UInt8 → Bool) (s : ByteArray) (k : Nat) (h : runTo p s k < s.size) : p s[runTo p s k] = false := by
  have hd := drop_runTo p s k
  rw [ll_drop s _ h] at hd
  have : ∀ (l : List UInt8) (c : UInt8) (t : List UInt8), c :: t = l.dropWhile p → p c = false := by
    intro l
    induction l with
    | nil => intro c t e; cases e
    | cons x l ih =>
      intro c t e
      rw [List.dropWhile_cons] at e
      split at e
      · exact ih c t e
      · rename_i hx
        injection e with e1 e2
        subst e1
        simpa using hx
  exact this _ _ _ hd
theorem nx_le (s : ByteArray) (k : Nat) (hk : k ≤ s.size) : k ≤ nx s k ∧ nx s k ≤ s.size := by
  have := nextAt_drop (ll s) k (by rw [ll_len]; exact hk)
  rw [ll_len] at this
  exact this.2
theorem byte_ne {c d : UInt8} (h : c ≠ d) : ((c.toNat : Int) != (d.toNat : Int)) = true := by
  rw [bne_iff_ne]
  intro e
  exact h (UInt8.toNat_inj.1 (by omega))
set_option maxHeartbeats 4000000 in
theorem skip_calls (s : ByteArray) (i : Nat) (hi : i ≤ s.size) (hs : s.size ≤ 140737488351232) (w : World) :
    Calls Tryd.prog 34 #[.string s, .int .i64 (i : Nat)] w fun e w' => e = .returned (.int .i64 (nx s i : Nat)) ∧ w' = w := by
  go_enter Tryd.func34, Tryd.ntmps34
  go_wp2_with fail
  go_loopw [1] (fun v wr => ∃ k : Nat, v = .int .i64 k ∧ k ≤ s.size ∧ wr = w ∧ Hid (nx s i = nx s k))
    (fun v _ => s.size - (intOf v).toNat)
  case atStart => exact ⟨i, rfl, hi, rfl, Lib.hid rfl⟩
  case round =>
    obtain ⟨k, rfl, hk, rfl, hE⟩ := hrel
    have HB := Lib.hid (nx_blank s k)
    have hle := runTo_le blankB s k hk
    have HST := Lib.hid (runTo_stop blankB s k)
    go_wp2_with fail
    refine (run_calls _ _ runP_skip1 s k hk hs _).mono ?_
    rintro e w1 ⟨rfl, rfl⟩
    obtain ⟨j, hj⟩ : ∃ j, j = runTo blankB s k := ⟨_, rfl⟩
    rw [← hj] at HB HST hle ⊢
    clear hj
    by_cases hjs : j = s.size
    · have HN := Lib.hid (nx_end s)
      have hb : (((j : Nat) : Int) == ((s.size : Nat) : Int)) = true := by rw [beq_iff_eq]; omega
      have HJ := Lib.hid hjs
      clear hjs
      go_wp2_with fail
      go_ret
      refine ⟨?_, rfl⟩
      rw [hE.out, HB.out, HJ.out, HN.out]
      rw [← HJ.out]
      rfl
    · have hlt : j < s.size := by omega
      have hb : (((j : Nat) : Int) == ((s.size : Nat) : Int)) = false := by rw [beq_eq_false_iff_ne]; omega
      by_cases hc : s[j] = 37
      · obtain ⟨hn1, hn2⟩ := nx_comment s j hlt hc
        have hcb : (((s[j]).toNat : Int) != 37) = false := by rw [hc]; rfl
        have hle2 := runTo_le (fun c => c != 10) s j (by omega)
        have HN := Lib.hid hn1
        have HC := Lib.hid hc
        clear hn1 hc hjs
        go_wp2_with fail
        refine (run_calls _ _ runP_skip2 s j (by omega) hs _).mono ?_
        rintro e w1 ⟨rfl, rfl⟩
        generalize runTo (fun c => c != 10) s j = j2 at *
        go_wp2_with fail
        go_roundw
        case rel => exact ⟨j2, rfl, by omega, trivial, Lib.hid (hE.out.trans (HB.out.trans HN.out))⟩
        case measure => simp [intOf]; omega
      · have hcb : (((s[j]).toNat : Int) != 37) = true := byte_ne (d := 37) hc
        have hn := nx_stay s j hlt (HST.out hlt) hc
        have HN := Lib.hid hn
        have HC := Lib.hid hc
        clear hn hc hjs
        go_wp2_with fail
        go_ret
        refine ⟨?_, rfl⟩
        rw [hE.out, HB.out, HN.out]
        rfl

end Go.Proofs.YtgpdahgpopmjiaaDoor.PL
