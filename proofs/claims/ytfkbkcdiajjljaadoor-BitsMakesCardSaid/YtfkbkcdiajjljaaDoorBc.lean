/- Parts of the laws of bits: functions of the program, each with the proof of what it answers; the conditions are those of each theorem. -/
import Derived.Test.YtfkbkcdiajjljaaDoorBb
namespace Go.Proofs.YtfkbkcdiajjljaaDoor.PBitsSteps
open Go.RowKit Go.Proofs.YtfkbkcdiajjljaaDoorW.PrintWords Go.Proofs.YtfkbkcdiajjljaaDoorW.PrintLast Go.Proofs.YtfkbkcdiajjljaaDoorW.PrintMore
set_option linter.unusedVariables false
set_option linter.unusedSimpArgs false
/-! ### Next -/
def shrW (a : Nat) (p : Nat) : Nat := a / 2 ^ (p % 64)
theorem BitsOf.shr {f r : Int} {n : Nat} {ws : Nat → Nat} {M : Int → Bool} (h : BitsOf f r n ws M) (p j : Nat) (hp : p < 1024 * n) (hj : p % 64 + j < 64) : (shrW (ws (p / 64)) p).testBit j = M (f + (p + j : Nat)) := by
  have := h.bit (p + j) (by omega)
  rw [← this, shrW, Nat.testBit_div_two_pow]
  rw [show (p + j) / 64 = p / 64 by omega, show (p + j) % 64 = j + p % 64 by omega]
theorem BitsOf.shr_lt {f r : Int} {n : Nat} {ws : Nat → Nat} {M : Int → Bool} (h : BitsOf f r n ws M) (p : Nat) (hp : p < 1024 * n) : shrW (ws (p / 64)) p < 2 ^ (64 - p % 64) := by
  have := h.wf (p / 64) (by omega)
  unfold shrW
  rw [Nat.div_lt_iff_lt_mul (Nat.two_pow_pos _), ← Nat.pow_add, show 64 - p % 64 + p % 64 = 64 by omega]
  exact this
theorem BitsOf.none {f r : Int} {n : Nat} {ws : Nat → Nat} {M : Int → Bool} (h : BitsOf f r n ws M) (p : Nat) (hp : p < 1024 * n) (h0 : shrW (ws (p / 64)) p = 0) (x : Int) (hx : f + p ≤ x ∧ x < f + p + 64 - (p % 64 : Nat)) : M x = false := by
  obtain ⟨j, rfl⟩ : ∃ j : Nat, x = f + (p + j : Nat) := ⟨(x - f - p).toNat, by omega⟩
  rw [← h.shr p j hp (by omega), h0, Nat.zero_testBit]
theorem BitsOf.some {f r : Int} {n : Nat} {ws : Nat → Nat} {M : Int → Bool} (h : BitsOf f r n ws M) (p : Nat) (hp : p < 1024 * n) (h0 : 0 < shrW (ws (p / 64)) p) :
    M (f + p + (tzN 64 (shrW (ws (p / 64)) p) : Nat)) = true ∧ ∀ x, f + p ≤ x → x < f + p + (tzN 64 (shrW (ws (p / 64)) p) : Nat) → M x = false := by
  have hl := h.shr_lt p hp
  have hlt : shrW (ws (p / 64)) p < 2 ^ 64 := Nat.lt_of_lt_of_le hl (Nat.pow_le_pow_right (by decide) (by omega))
  have hb := tzN_bit 64 _ h0 hlt
  have ht : tzN 64 (shrW (ws (p / 64)) p) < 64 - p % 64 := by
    rcases Nat.lt_or_ge (tzN 64 (shrW (ws (p / 64)) p)) (64 - p % 64) with h1 | h1
    · exact h1
    · have := Nat.testBit_lt_two_pow (Nat.lt_of_lt_of_le hl (Nat.pow_le_pow_right (by decide) h1))
      rw [this] at hb
      cases hb.1
  have hs := fun j hj => h.shr p j hp hj
  generalize tzN 64 (shrW (ws (p / 64)) p) = t at *
  refine ⟨?_, fun x h1 h2 => ?_⟩
  · rw [show f + (p : Int) + (t : Nat) = f + (p + t : Nat) by omega, ← hs t (by omega)]
    exact hb.1
  · obtain ⟨j, rfl⟩ : ∃ j : Nat, x = f + (p + j : Nat) := ⟨(x - f - p).toNat, by omega⟩
    rw [← hs j (by omega)]
    exact hb.2 j (by omega)
/-- what Next answers -/
def IsNext (M : Int → Bool) (v : Int) (n : Int) (ok : Bool) : Prop :=
  (ok = true ∧ v ≤ n ∧ M n = true ∧ ∀ x, v ≤ x → x < n → M x = false) ∨ (ok = false ∧ n = 0 ∧ ∀ x, v ≤ x → M x = false)
theorem shr_word (a p : Nat) (ha : a < 2 ^ 64) : shr .u64 (a : Int) (Int.tmod (p : Int) 64) = ((shrW a p : Nat) : Int) := by
  unfold shrW shr
  rw [Int.tmod_eq_emod_of_nonneg (by omega)]
  rw [show min ((p : Int) % 64).toNat IntKind.u64.bits = p % 64 by show min _ 64 = _; omega]
  norm_cast
theorem tab_drawn {w : World} (h : TabLaid w) (m : Nat) : TabLaid (w.drewN m) := h
theorem word_at (g gp : Nat) (f r : Int) (n c : Nat) (ws : Nat → Nat) (p : Nat) (w : World) (h : w.heap[g]? = some (setB f r (some ⟨gp, 0, none⟩) n c)) (hp : PagesAt w (some ⟨gp, 0, none⟩) n (fun i => (ws i : Int))) (hxn : p < 1024 * n) (hn : n < 1000000) :
    Calls Tryd.prog 42 #[.pointer (some ⟨g, 0, none⟩), .int .i64 p] w fun e w' => e = .returned (.pointer (some ⟨gp, p / 64, none⟩)) ∧ w' = w ∧ w'.cell? ⟨gp, p / 64, none⟩ = some (.int .u64 (ws (p / 64))) := by
  refine (bits_word.same g f r _ n c _ p w h hp (by omega) (by omega) hn).mono ?_
  rintro e w' ⟨⟨ad, e1, rfl⟩, rfl⟩
  injection e1 with e1
  subst e1
  obtain ⟨ad, e1, hc⟩ := hp
  injection e1 with e1
  subst e1
  have := (hc (p / 64) (by omega)).1
  rw [add_zero_off] at this ⊢
  rw [show ((p : Int) / 64).toNat = p / 64 by omega]
  exact ⟨rfl, rfl, this⟩

set_option maxHeartbeats 8000000 in
theorem SetAt.next {w : World} {g gp : Nat} {f r : Int} {M : Int → Bool} (h : SetAt w g gp f r M) (hL : TabLaid w) (v : Int) (hv : -9223372036854775808 ≤ v ∧ v ≤ 9223372036854775807) :
    Calls Tryd.prog 9 #[setP g, .int .i64 v] w fun e w' => (∃ n ok, e = .returned (.tuple #[.int .i64 n, .bool ok]) ∧ IsNext M v n ok) ∧ Drawn0 w w' := by
  obtain ⟨n, c, ws, cs, h1, h2, h3, h4, h5, h6⟩ := h
  have hr := h6.room
  have hp := pages_at h2 h4
  have c0 := setB_first h1
  have H := Lib.hid h1; have HP := Lib.hid hp; have HL := Lib.hid hL; have H6 := Lib.hid h6
  clear h1 h2 h3 h4 h5 hp hL h6
  have U : setP g = .pointer (some ⟨g, 0, none⟩) := rfl
  rw [U]
  go_enter Tryd.func9, Tryd.ntmps9
  go_wp2_with fail
  all_goals (
    go_loopw [1] (fun i wr => ∃ u : Int, f ≤ u ∧ (u ≤ v ∨ u ≤ f + 1024 * n) ∧ v ≤ u ∧ i = .int .i64 u ∧ Hid (∀ x, v ≤ x → x < u → M x = false) ∧ ∃ m, wr = w.drewN m)
      (fun i _ => (f + 70000 - intOf i).toNat)
    case atStart => exact ⟨_, by omega, by omega, by omega, rfl, Lib.hid (fun x h1 h2 => by cases hm : M x with
      | false => rfl
      | true => have := H6.out.inn x hm; omega), 0, rfl⟩
    case round =>
      obtain ⟨u, hu1, hu2, hu3, rfl, hz, m, rfl⟩ := hrel
      clear c0
      have c0 := setB_first (setB_drawn H.out m)
      go_wp2_with fail
      refine (bits_fits.calls g f r _ n c u _ (setB_drawn H.out m)).mono ?_
      rintro e w1 ⟨rfl, ⟨⟨m1, rfl⟩⟩⟩
      rw [H6.out.fits]
      by_cases hfit : f ≤ u ∧ u < f + r
      · rw [decide_eq_true hfit]
        obtain ⟨p, rfl⟩ : ∃ p : Nat, u = f + p := ⟨(u - f).toNat, by omega⟩
        have hpn : p < 1024 * n := by omega
        have ew : wrap64 (f + (p : Int) - f) = p := by rw [show f + (p : Int) - f = p by omega]; exact IntWalk.wrap64_in _ (by omega)
        have c0 := setB_first (setB_drawn H.out (m + m1))
        rw [World.drewN_drewN] at *
        go_wp2_with fail
        rw [show f + (p : Int) - f = p by omega]
        refine (word_at g gp f r n c ws p _ (setB_drawn H.out _) (PagesAt_drawn HP.out _) hpn (by omega)).mono ?_
        rintro e w1 ⟨rfl, rfl, cw⟩
        have hsh : 0 ≤ Int.tmod (p : Int) 64 := by rw [Int.tmod_eq_emod_of_nonneg (by omega)]; omega
        have esh : ((ws (p / 64) : Nat) : Int) / 2 ^ (p % 64) = ((shrW (ws (p / 64)) p : Nat) : Int) := by unfold shrW; norm_cast
        rcases Nat.eq_zero_or_pos (shrW (ws (p / 64)) p) with hq | hq
        · have hb : (((ws (p / 64) : Nat) : Int) / 2 ^ (p % 64) != 0) = false := by rw [esh, hq]; rfl
          have hn0 := H6.out.none p hpn hq
          go_wp2_with fail
          go_roundw
          case rel => exact ⟨f + p + (64 - p % 64), by omega, by omega, by omega, rfl, Lib.hid (fun x h1 h2 => by
            rcases Int.lt_or_le x (f + p) with h3 | h3
            · exact hz.out x h1 h3
            · exact hn0 x ⟨h3, by omega⟩), _, rfl⟩
          case measure => simp only [intOf]; simp [intOf]; omega
        · have hb : (((ws (p / 64) : Nat) : Int) / 2 ^ (p % 64) != 0) = true := by rw [esh, bne_iff_ne]; omega
          have hs := H6.out.some p hpn hq
          have hl := H6.out.shr_lt p hpn
          have hlt : shrW (ws (p / 64)) p < 18446744073709551616 := Nat.lt_of_lt_of_le hl (Nat.pow_le_pow_right (n := 2) (by decide) (by omega) : _ ≤ 2 ^ 64)
          have ht := tzN_lt 64 _ hq hlt
          go_wp2_with fail
          rw [esh]
          refine (tz64.nat _ _ hq hlt (tab_drawn HL.out _)).mono ?_
          rintro e w1 ⟨rfl, rfl⟩
          generalize tzN 64 (shrW (ws (p / 64)) p) = t at *
          go_wp2_with fail
          go_ret2
          exact ⟨⟨f + p + t, true, rfl, .inl ⟨rfl, by omega, hs.1, fun x h1 h2 => by
            rcases Int.lt_or_le x (f + p) with h3 | h3
            · exact hz.out x h1 h3
            · exact hs.2 x h3 h2⟩⟩, ⟨⟨_, rfl⟩⟩⟩
      · rw [decide_eq_false hfit]
        go_wp2_with fail
        go_ret2
        exact ⟨⟨0, false, rfl, .inr ⟨rfl, rfl, fun x hx => by
          cases hm : M x with
          | false => rfl
          | true =>
            have hi := H6.out.inn x hm
            rcases Int.lt_or_le x u with h1 | h1
            · rw [hz.out x hx h1] at hm; cases hm
            · omega⟩⟩, ⟨⟨_, rfl⟩⟩⟩)

end Go.Proofs.YtfkbkcdiajjljaaDoor.PBitsSteps
