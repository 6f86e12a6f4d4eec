/- Parts of the laws of lex: functions of the program, each with the proof of what it answers; the conditions are those of each theorem. -/
import Derived.Test.YtgpdahgpopmjiaaDoorLb
namespace Go.Proofs.YtgpdahgpopmjiaaDoor.PL
open Go.RowKit Go.Proofs.YtgpdahgpopmjiaaDoorW.PrintWords Go.Proofs.YtgpdahgpopmjiaaDoorW.PrintLast Go.Proofs.YtgpdahgpopmjiaaDoorW.PrintMore
set_option linter.unusedVariables false
set_option linter.unusedSimpArgs false
/-! ### run -/
def RunP (K : Nat) (p : UInt8 → Bool) : Prop := (∀ (args : Array Value) (w : World), (callFunc K args).run Tryd.prog w = .ok (.enter K args) w) ∧ ∀ (c : UInt8) (w : World), Calls Tryd.prog K #[.int .u8 (c.toNat : Nat)] w fun e w' => e = .returned (.bool (p c)) ∧ w' = w
/-- the bytes of a text -/
abbrev ll (s : ByteArray) : List UInt8 := s.data.toList
theorem ll_len (s : ByteArray) : (ll s).length = s.size := Array.length_toList
def runTo (p : UInt8 → Bool) (s : ByteArray) (i : Nat) : Nat := i + (((ll s).drop i).takeWhile p).length
theorem ll_drop (s : ByteArray) (k : Nat) (hk : k < s.size) : (ll s).drop k = s[k] :: (ll s).drop (k + 1) := by
  have h : k < (ll s).length := by rw [ll_len]; exact hk
  rw [List.drop_eq_getElem_cons h]
  rfl
theorem runTo_hit (p : UInt8 → Bool) (s : ByteArray) (k : Nat) (hk : k < s.size) (h : p s[k] = true) : runTo p s k = runTo p s (k + 1) := by
  unfold runTo
  rw [ll_drop s k hk, List.takeWhile_cons, if_pos h, List.length_cons]
  omega
theorem runTo_miss (p : UInt8 → Bool) (s : ByteArray) (k : Nat) (hk : k < s.size) (h : p s[k] = false) : runTo p s k = k := by
  unfold runTo
  rw [ll_drop s k hk, List.takeWhile_cons, if_neg (by rw [h]; decide)]
  rfl
theorem runTo_end (p : UInt8 → Bool) (s : ByteArray) (k : Nat) (hk : s.size ≤ k) : runTo p s k = k := by
  unfold runTo
  rw [List.drop_of_length_le (by rw [ll_len]; exact hk)]
  rfl
theorem runTo_le (p : UInt8 → Bool) (s : ByteArray) (k : Nat) (hk : k ≤ s.size) : k ≤ runTo p s k ∧ runTo p s k ≤ s.size := by
  unfold runTo
  have := takeWhile_len p ((ll s).drop k)
  rw [List.length_drop, ll_len] at this
  omega
set_option maxHeartbeats 4000000 in
theorem run_calls (K : Nat) (p : UInt8 → Bool) (hp : RunP K p) (s : ByteArray) (i : Nat) (hi : i ≤ s.size) (hs : s.size ≤ 140737488351232) (w : World) :
    Calls Tryd.prog 25 #[.string s, .int .i64 (i : Nat), .func (.func K) #[] #[]] w fun e w' => e = .returned (.int .i64 (runTo p s i : Nat)) ∧ w' = w := by
  have HP := Lib.hid hp
  clear hp
  go_enter Tryd.func25, Tryd.ntmps25
  go_wp2_with fail
  go_step3
  go_wp2_with fail
  go_step3
  go_wp2_with fail
  go_loopw [1] (fun v wr => ∃ k : Nat, v = .int .i64 k ∧ k ≤ s.size ∧ wr = w ∧ Hid (runTo p s i = runTo p s k))
    (fun v _ => s.size - (intOf v).toNat)
  case atStart => exact ⟨i, rfl, hi, rfl, Lib.hid rfl⟩
  case round =>
    obtain ⟨k, rfl, hk, rfl, hE⟩ := hrel
    by_cases hlt : k < s.size
    · cases hpc : p s[k] with
      | true =>
        have hn := runTo_hit p s k hlt hpc
        have hc := HP.out.2 s[k] wr
        rw [hpc] at hc
        have HN := Lib.hid hn; have HC := Lib.hid hc
        clear hn hc hpc
        go_wp2_with fail
        rw [HP.out.1, Oper.upon_enter]
        refine HC.out.mono ?_
        rintro e w1 ⟨rfl, rfl⟩
        go_wp2_with fail
        go_roundw
        case rel => exact ⟨k + 1, by go_num, by omega, trivial, Lib.hid (hE.out.trans HN.out)⟩
        case measure => simp [intOf]; omega
      | false =>
        have hn := runTo_miss p s k hlt hpc
        have hc := HP.out.2 s[k] wr
        rw [hpc] at hc
        have HN := Lib.hid hn; have HC := Lib.hid hc
        clear hn hc hpc
        go_wp2_with fail
        rw [HP.out.1, Oper.upon_enter]
        refine HC.out.mono ?_
        rintro e w1 ⟨rfl, rfl⟩
        go_wp2_with fail
        rw [Exit.noGoto_ret]
        go_ret
        exact ⟨by rw [hE.out, HN.out]; rfl, rfl⟩
    · have hn := runTo_end p s k (by omega)
      have HN := Lib.hid hn
      clear hn
      go_wp2_with fail
      rw [Exit.noGoto_ret]
      go_ret
      exact ⟨by rw [hE.out, HN.out]; rfl, rfl⟩
theorem runP_skip1 : RunP 39 blankB := ⟨enters_of Tryd.func39 (by kernel_rfl) rfl, skip1_calls⟩
theorem runP_skip2 : RunP 41 (fun c => c != 10) := ⟨enters_of Tryd.func41 (by kernel_rfl) rfl, skip2_calls⟩
theorem runP_str : RunP 43 strB := ⟨enters_of Tryd.func43 (by kernel_rfl) rfl, one1_calls⟩
theorem runP_digit : RunP 37 digitB := ⟨enters_of Tryd.func37 (by kernel_rfl) rfl, digit_calls⟩
theorem runP_word : RunP 26 wordB := ⟨enters_of Tryd.func26 (by kernel_rfl) rfl, wordByte_calls⟩

end Go.Proofs.YtgpdahgpopmjiaaDoor.PL
