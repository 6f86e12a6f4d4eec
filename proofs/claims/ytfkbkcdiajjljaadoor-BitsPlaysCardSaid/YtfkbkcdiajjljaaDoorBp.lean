/- Parts of the laws of bits: functions of the program, each with the proof of what it answers; the conditions are those of each theorem. -/
import Derived.Test.YtfkbkcdiajjljaaDoorDb
namespace Go.Proofs.YtfkbkcdiajjljaaDoor.PBitsSteps
open Go.RowKit Go.Proofs.YtfkbkcdiajjljaaDoorW.PrintWords Go.Proofs.YtfkbkcdiajjljaaDoorW.PrintLast Go.Proofs.YtfkbkcdiajjljaaDoorW.PrintMore
set_option linter.unusedVariables false
set_option linter.unusedSimpArgs false
/-! ### BitsSteps -/
set_option maxRecDepth 100000 in
set_option maxHeartbeats 8000000 in
theorem steps_none (A : Option Addr) (c : Nat) (l : List S71) (v : Int) (w : World) (hL : TabLaid w) (x : Int) (hx : x ≠ 0) (hof : Calls Tryd.prog 7 #[.slice A l.length c] w fun e w' => e = .returned (.tuple #[.pointer none, .int .i64 x]) ∧ Below w.heap.size w w') :
    Calls Tryd.prog 3 #[.slice A l.length c, .int .i64 v] w fun e w' => e = .returned (.bool true) ∧ Below w.heap.size w w' := by
  have hz : 0 < w.heap.size := World.block_lt_of_cell? w _ (hL 0 (by decide))
  have HOF := Lib.hid hof; have HL := Lib.hid hL
  have hx2 : (x != 0) = true := by rw [bne_iff_ne]; exact hx
  clear hof hL
  go_enter Tryd.func3, Tryd.ntmps3
  go_wp2_with fail
  refine HOF.out.mono ?_
  rintro e w1 ⟨rfl, hb1⟩
  have HB1 := Lib.hid hb1
  clear hb1
  go_wp2_with fail
  refine (known_calls w1 (tab_keep HL.out (HB1.out.block 0 hz))).mono ?_
  rintro e w2 ⟨rfl, hb2⟩
  have HB2 := Lib.hid (below_step HB1.out hb2)
  clear hb2
  go_wp2_with fail
  go_ret
  exact ⟨rfl, HB2.out⟩

theorem SetAt.inn {w : World} {g gp : Nat} {f r : Int} {M : Int → Bool} (h : SetAt w g gp f r M) (v : Int) (hv : M v = true) : f ≤ v ∧ v < f + r := by
  obtain ⟨_, _, _, _, _, _, _, _, _, h6⟩ := h
  exact h6.inn v hv
theorem row71_C {w : World} {base n c : Nat} {A : Option Addr} {xs : List S71} (h : w.ownsRow base 71 2 (.slice A n c) n (flat71 xs)) (hn : xs.length = n) : Kd.C k71 w A n xs ∧ n ≤ c := by
  refine ⟨?_, own_cap h⟩
  obtain ⟨A', c', e, hC⟩ := row71 h hn
  injection e with e1 e2 e3
  rw [e1]
  exact hC
set_option maxRecDepth 100000 in
set_option maxHeartbeats 8000000 in
theorem steps_made (A : Option Addr) (c : Nat) (l : List S71) (v : Int) (w : World) (hL : TabLaid w) (hC : Kd.C k71 w A l.length l) (hc : l.length ≤ c) (hN : okS l = true) (hsm : lastS l - firstS l < 65536) (hv : -9223372036854775808 ≤ v ∧ v ≤ 9223372036854775807) :
    Calls Tryd.prog 3 #[.slice A l.length c, .int .i64 v] w fun e w' => e = .returned (.bool true) ∧ Below w.heap.size w w' := by
  have hz : 0 < w.heap.size := World.block_lt_of_cell? w _ (hL 0 (by decide))
  have hb := ok_bounds hN
  have HOF := Lib.hid (of_made A c l w hC hc hN hsm); have HL := Lib.hid hL; have HRG := Lib.hid (rg_ok hN)
  have HR := Lib.hid hb.1
  obtain ⟨b4, b5, b6⟩ : -1000000 ≤ firstS l ∧ firstS l ≤ lastS l ∧ lastS l ≤ 1000000 := ⟨hb.2.2.2.1, hb.2.2.2.2.1, hb.2.2.2.2.2.1⟩
  have hlen : l.length ≤ 4096 := hb.2.2.1
  clear hL hC hc hN hb
  generalize firstS l = f at *
  generalize hr : lastS l - f + 1 = r at *
  have hr1 : 0 < r ∧ r ≤ 65536 ∧ f + r ≤ 1000001 := by omega
  clear hr b5 b6 hsm
  generalize inL (spanAll l) = M at *
  go_enter Tryd.func3, Tryd.ntmps3
  go_wp2_with fail
  refine HOF.out.mono ?_
  rintro e w1 ⟨g, gp, rfl, ⟨k1, k2⟩, k3, k4⟩
  have U : setP g = .pointer (some ⟨g, 0, none⟩) := rfl
  have HS1 := Lib.hid k3; have HB1 := Lib.hid k4
  clear k3 k4
  rw [U]
  go_wp2_with fail
  rw [← U]
  refine (HS1.out.next (tab_keep HL.out (HB1.out.block 0 hz)) v hv).mono ?_
  rintro e w2 ⟨⟨n, ok, rfl, hn⟩, hd2⟩
  have HS2 := Lib.hid (HS1.out.below hd2.below)
  have HB2 := Lib.hid (HB1.out.trans (drawn_below hd2))
  have HN := Lib.hid hn
  clear hd2 hn
  rw [U]
  go_wp2_with fail
  rw [← U]
  refine HS2.out.first.mono ?_
  rintro e w3 ⟨rfl, hd3⟩
  have HS3 := Lib.hid (HS2.out.below hd3.below)
  have HB3 := Lib.hid (HB2.out.trans (drawn_below hd3))
  clear hd3
  rcases Int.lt_or_le v f with hvf | hvf
  · rw [U]
    go_wp2_with fail
    rw [← U]
    refine HS3.out.first.mono ?_
    rintro e wa ⟨rfl, hda⟩
    have HSa := Lib.hid (HS3.out.below hda.below)
    have HBa := Lib.hid (HB3.out.trans (drawn_below hda))
    clear hda
    rw [U]
    go_wp2_with fail
    rw [← U]
    refine HSa.out.first.mono ?_
    rintro e w4 ⟨rfl, hd4⟩
    have HS4 := Lib.hid (HSa.out.below hd4.below)
    have HB4 := Lib.hid (HBa.out.trans (drawn_below hd4))
    clear hd4
    rw [U]
    go_wp2_with fail
    rw [← U]
    refine HS4.out.room.mono ?_
    rintro e w5 ⟨rfl, hd5⟩
    have HS5 := Lib.hid (HS4.out.below hd5.below)
    have HB5 := Lib.hid (HB4.out.trans (drawn_below hd5))
    clear hd5
    cases ok with
    | true =>
      obtain ⟨hvn, hMn, hlo⟩ : v ≤ n ∧ M n = true ∧ ∀ x, v ≤ x → x < n → M x = false := by
        rcases HN.out with ⟨_, h1, h2, h3⟩ | ⟨h, _⟩
        · exact ⟨h1, h2, h3⟩
        · cases h
      have HLO := Lib.hid hlo
      have hnr := HS1.out.inn n hMn
      clear hlo
      rw [U]
      go_wp2_with fail
      go_loopw [11] (fun i wr => ∃ u : Int, i = .int .i64 u ∧ f ≤ u ∧ v ≤ u ∧ u ≤ 9223372036854775807 ∧ Hid (SetAt wr g gp f r M) ∧ Hid (Below w.heap.size w wr))
        (fun i _ => (n - intOf i).toNat)
      case atStart => exact ⟨f, rfl, by omega, by omega, by omega, HS5, HB5⟩
      case round =>
        obtain ⟨u, rfl, hu1, hu2, hu3, hs, hbw⟩ := hrel
        by_cases he1 : u < n
        · have hd1 : decide (u < n) = true := decide_eq_true he1
          by_cases he2 : u < f + 300
          · have hd2 : decide (u < f + 300) = true := decide_eq_true he2
            have hMu := HLO.out u hu2 he1
            go_wp2_with fail
            rw [← U]
            refine (hs.out.has u).mono ?_
            rintro e w6 ⟨rfl, hd6⟩
            rw [hMu]
            go_wp2_with fail
            go_roundw
            case rel => exact ⟨u + 1, rfl, by omega, by omega, by omega, Lib.hid (hs.out.below hd6.below), Lib.hid (hbw.out.trans (drawn_below hd6))⟩
            case measure => simp [intOf]; omega
          · have hd2 : decide (u < f + 300) = false := decide_eq_false he2
            go_wp2_with fail
            rw [← U]
            refine (hs.out.ranges (tab_keep HL.out (hbw.out.block 0 hz))).mono ?_
            rintro e w7 ⟨hres, hb7⟩
            obtain ⟨vv, rfl, hrow⟩ : ∃ vv, e = .returned (.tuple #[vv, .int .i64 0]) ∧ w7.ownsRow wr.heap.size 71 2 vv l.length (flat71 l) := by
              rw [HRG.out] at hres
              rcases hres with ⟨h, _⟩ | ⟨_, h⟩
              · omega
              · exact h
            obtain ⟨A2, c2, rfl⟩ := row_form hrow
            have HCL := Lib.hid (row71_C hrow rfl)
            have HS7 := Lib.hid (hs.out.below hb7)
            have HB7 := Lib.hid (below_step hbw.out hb7)
            clear hrow hb7 hres
            have HCL7 := Lib.hid HCL.out.1
            have hcmp : decide (v ≤ n) = true := decide_eq_true hvn
            go_wp2_with fail
            rw [← U]
            refine (HS7.out.has n).mono ?_
            rintro e w8 ⟨rfl, hd8⟩
            rw [hMn]
            have HB8 := Lib.hid (HB7.out.trans (drawn_below hd8))
            have HCL8 := Lib.hid (Kd.C_below HCL7.out hd8.below)
            clear hd8
            go_wp2_with fail
            refine (refRight_calls A2 c2 l _ HCL8.out HCL.out.2).mono ?_
            rw [HR.out]
            rintro e w9 ⟨rfl, hb9⟩
            have HB9 := Lib.hid (below_step HB8.out hb9)
            clear hb9
            go_wp2_with fail
            refine (known_calls w9 (tab_keep HL.out (HB9.out.block 0 hz))).mono ?_
            rintro e w10 ⟨rfl, hb10⟩
            have HB10 := Lib.hid (below_step HB9.out hb10)
            clear hb10
            go_wp2_with fail
            go_ret
            exact ⟨rfl, HB10.out⟩
        · have hd1 : decide (u < n) = false := decide_eq_false he1
          go_wp2_with fail
          rw [← U]
          refine (hs.out.ranges (tab_keep HL.out (hbw.out.block 0 hz))).mono ?_
          rintro e w7 ⟨hres, hb7⟩
          obtain ⟨vv, rfl, hrow⟩ : ∃ vv, e = .returned (.tuple #[vv, .int .i64 0]) ∧ w7.ownsRow wr.heap.size 71 2 vv l.length (flat71 l) := by
            rw [HRG.out] at hres
            rcases hres with ⟨h, _⟩ | ⟨_, h⟩
            · omega
            · exact h
          obtain ⟨A2, c2, rfl⟩ := row_form hrow
          have HCL := Lib.hid (row71_C hrow rfl)
          have HS7 := Lib.hid (hs.out.below hb7)
          have HB7 := Lib.hid (below_step hbw.out hb7)
          clear hrow hb7 hres
          have HCL7 := Lib.hid HCL.out.1
          have hcmp : decide (v ≤ n) = true := decide_eq_true hvn
          go_wp2_with fail
          rw [← U]
          refine (HS7.out.has n).mono ?_
          rintro e w8 ⟨rfl, hd8⟩
          rw [hMn]
          have HB8 := Lib.hid (HB7.out.trans (drawn_below hd8))
          have HCL8 := Lib.hid (Kd.C_below HCL7.out hd8.below)
          clear hd8
          go_wp2_with fail
          refine (refRight_calls A2 c2 l _ HCL8.out HCL.out.2).mono ?_
          rw [HR.out]
          rintro e w9 ⟨rfl, hb9⟩
          have HB9 := Lib.hid (below_step HB8.out hb9)
          clear hb9
          go_wp2_with fail
          refine (known_calls w9 (tab_keep HL.out (HB9.out.block 0 hz))).mono ?_
          rintro e w10 ⟨rfl, hb10⟩
          have HB10 := Lib.hid (below_step HB9.out hb10)
          clear hb10
          go_wp2_with fail
          go_ret
          exact ⟨rfl, HB10.out⟩
    | false =>
      obtain ⟨rfl, hlo⟩ : n = 0 ∧ ∀ x, v ≤ x → M x = false := by
        rcases HN.out with ⟨h, _⟩ | ⟨_, h1, h2⟩
        · cases h
        · exact ⟨h1, h2⟩
      have HLO : Hid (∀ x, v ≤ x → x < f + r → M x = false) := Lib.hid (fun x h _ => hlo x h)
      clear hlo
      rw [U]
      go_wp2_with fail
      go_loopw [11] (fun i wr => ∃ u : Int, i = .int .i64 u ∧ f ≤ u ∧ v ≤ u ∧ u ≤ 9223372036854775807 ∧ Hid (SetAt wr g gp f r M) ∧ Hid (Below w.heap.size w wr))
        (fun i _ => (f + r - intOf i).toNat)
      case atStart => exact ⟨f, rfl, by omega, by omega, by omega, HS5, HB5⟩
      case round =>
        obtain ⟨u, rfl, hu1, hu2, hu3, hs, hbw⟩ := hrel
        by_cases he1 : u < f + r
        · have hd1 : decide (u < f + r) = true := decide_eq_true he1
          by_cases he2 : u < f + 300
          · have hd2 : decide (u < f + 300) = true := decide_eq_true he2
            have hMu := HLO.out u hu2 he1
            go_wp2_with fail
            rw [← U]
            refine (hs.out.has u).mono ?_
            rintro e w6 ⟨rfl, hd6⟩
            rw [hMu]
            go_wp2_with fail
            go_roundw
            case rel => exact ⟨u + 1, rfl, by omega, by omega, by omega, Lib.hid (hs.out.below hd6.below), Lib.hid (hbw.out.trans (drawn_below hd6))⟩
            case measure => simp [intOf]; omega
          · have hd2 : decide (u < f + 300) = false := decide_eq_false he2
            go_wp2_with fail
            rw [← U]
            refine (hs.out.ranges (tab_keep HL.out (hbw.out.block 0 hz))).mono ?_
            rintro e w7 ⟨hres, hb7⟩
            obtain ⟨vv, rfl, hrow⟩ : ∃ vv, e = .returned (.tuple #[vv, .int .i64 0]) ∧ w7.ownsRow wr.heap.size 71 2 vv l.length (flat71 l) := by
              rw [HRG.out] at hres
              rcases hres with ⟨h, _⟩ | ⟨_, h⟩
              · omega
              · exact h
            obtain ⟨A2, c2, rfl⟩ := row_form hrow
            have HCL := Lib.hid (row71_C hrow rfl)
            have HS7 := Lib.hid (hs.out.below hb7)
            have HB7 := Lib.hid (below_step hbw.out hb7)
            clear hrow hb7 hres
            have HCL7 := Lib.hid HCL.out.1
            go_wp2_with fail
            refine (refRight_calls A2 c2 l _ HCL7.out HCL.out.2).mono ?_
            rw [HR.out]
            rintro e w9 ⟨rfl, hb9⟩
            have HB9 := Lib.hid (below_step HB7.out hb9)
            clear hb9
            go_wp2_with fail
            refine (known_calls w9 (tab_keep HL.out (HB9.out.block 0 hz))).mono ?_
            rintro e w10 ⟨rfl, hb10⟩
            have HB10 := Lib.hid (below_step HB9.out hb10)
            clear hb10
            go_wp2_with fail
            go_ret
            exact ⟨rfl, HB10.out⟩
        · have hd1 : decide (u < f + r) = false := decide_eq_false he1
          go_wp2_with fail
          rw [← U]
          refine (hs.out.ranges (tab_keep HL.out (hbw.out.block 0 hz))).mono ?_
          rintro e w7 ⟨hres, hb7⟩
          obtain ⟨vv, rfl, hrow⟩ : ∃ vv, e = .returned (.tuple #[vv, .int .i64 0]) ∧ w7.ownsRow wr.heap.size 71 2 vv l.length (flat71 l) := by
            rw [HRG.out] at hres
            rcases hres with ⟨h, _⟩ | ⟨_, h⟩
            · omega
            · exact h
          obtain ⟨A2, c2, rfl⟩ := row_form hrow
          have HCL := Lib.hid (row71_C hrow rfl)
          have HS7 := Lib.hid (hs.out.below hb7)
          have HB7 := Lib.hid (below_step hbw.out hb7)
          clear hrow hb7 hres
          have HCL7 := Lib.hid HCL.out.1
          go_wp2_with fail
          refine (refRight_calls A2 c2 l _ HCL7.out HCL.out.2).mono ?_
          rw [HR.out]
          rintro e w9 ⟨rfl, hb9⟩
          have HB9 := Lib.hid (below_step HB7.out hb9)
          clear hb9
          go_wp2_with fail
          refine (known_calls w9 (tab_keep HL.out (HB9.out.block 0 hz))).mono ?_
          rintro e w10 ⟨rfl, hb10⟩
          have HB10 := Lib.hid (below_step HB9.out hb10)
          clear hb10
          go_wp2_with fail
          go_ret
          exact ⟨rfl, HB10.out⟩
  · have HSa := HS3
    have HBa := HB3
    rw [U]
    go_wp2_with fail
    rw [← U]
    refine HSa.out.first.mono ?_
    rintro e w4 ⟨rfl, hd4⟩
    have HS4 := Lib.hid (HSa.out.below hd4.below)
    have HB4 := Lib.hid (HBa.out.trans (drawn_below hd4))
    clear hd4
    rw [U]
    go_wp2_with fail
    rw [← U]
    refine HS4.out.room.mono ?_
    rintro e w5 ⟨rfl, hd5⟩
    have HS5 := Lib.hid (HS4.out.below hd5.below)
    have HB5 := Lib.hid (HB4.out.trans (drawn_below hd5))
    clear hd5
    cases ok with
    | true =>
      obtain ⟨hvn, hMn, hlo⟩ : v ≤ n ∧ M n = true ∧ ∀ x, v ≤ x → x < n → M x = false := by
        rcases HN.out with ⟨_, h1, h2, h3⟩ | ⟨h, _⟩
        · exact ⟨h1, h2, h3⟩
        · cases h
      have HLO := Lib.hid hlo
      have hnr := HS1.out.inn n hMn
      clear hlo
      rw [U]
      go_wp2_with fail
      go_loopw [11] (fun i wr => ∃ u : Int, i = .int .i64 u ∧ v ≤ u ∧ v ≤ u ∧ u ≤ 9223372036854775807 ∧ Hid (SetAt wr g gp f r M) ∧ Hid (Below w.heap.size w wr))
        (fun i _ => (n - intOf i).toNat)
      case atStart => exact ⟨v, rfl, by omega, by omega, by omega, HS5, HB5⟩
      case round =>
        obtain ⟨u, rfl, hu1, hu2, hu3, hs, hbw⟩ := hrel
        by_cases he1 : u < n
        · have hd1 : decide (u < n) = true := decide_eq_true he1
          by_cases he2 : u < v + 300
          · have hd2 : decide (u < v + 300) = true := decide_eq_true he2
            have hMu := HLO.out u hu2 he1
            go_wp2_with fail
            rw [← U]
            refine (hs.out.has u).mono ?_
            rintro e w6 ⟨rfl, hd6⟩
            rw [hMu]
            go_wp2_with fail
            go_roundw
            case rel => exact ⟨u + 1, rfl, by omega, by omega, by omega, Lib.hid (hs.out.below hd6.below), Lib.hid (hbw.out.trans (drawn_below hd6))⟩
            case measure => simp [intOf]; omega
          · have hd2 : decide (u < v + 300) = false := decide_eq_false he2
            go_wp2_with fail
            rw [← U]
            refine (hs.out.ranges (tab_keep HL.out (hbw.out.block 0 hz))).mono ?_
            rintro e w7 ⟨hres, hb7⟩
            obtain ⟨vv, rfl, hrow⟩ : ∃ vv, e = .returned (.tuple #[vv, .int .i64 0]) ∧ w7.ownsRow wr.heap.size 71 2 vv l.length (flat71 l) := by
              rw [HRG.out] at hres
              rcases hres with ⟨h, _⟩ | ⟨_, h⟩
              · omega
              · exact h
            obtain ⟨A2, c2, rfl⟩ := row_form hrow
            have HCL := Lib.hid (row71_C hrow rfl)
            have HS7 := Lib.hid (hs.out.below hb7)
            have HB7 := Lib.hid (below_step hbw.out hb7)
            clear hrow hb7 hres
            have HCL7 := Lib.hid HCL.out.1
            have hcmp : decide (v ≤ n) = true := decide_eq_true hvn
            go_wp2_with fail
            rw [← U]
            refine (HS7.out.has n).mono ?_
            rintro e w8 ⟨rfl, hd8⟩
            rw [hMn]
            have HB8 := Lib.hid (HB7.out.trans (drawn_below hd8))
            have HCL8 := Lib.hid (Kd.C_below HCL7.out hd8.below)
            clear hd8
            go_wp2_with fail
            refine (refRight_calls A2 c2 l _ HCL8.out HCL.out.2).mono ?_
            rw [HR.out]
            rintro e w9 ⟨rfl, hb9⟩
            have HB9 := Lib.hid (below_step HB8.out hb9)
            clear hb9
            go_wp2_with fail
            refine (known_calls w9 (tab_keep HL.out (HB9.out.block 0 hz))).mono ?_
            rintro e w10 ⟨rfl, hb10⟩
            have HB10 := Lib.hid (below_step HB9.out hb10)
            clear hb10
            go_wp2_with fail
            go_ret
            exact ⟨rfl, HB10.out⟩
        · have hd1 : decide (u < n) = false := decide_eq_false he1
          go_wp2_with fail
          rw [← U]
          refine (hs.out.ranges (tab_keep HL.out (hbw.out.block 0 hz))).mono ?_
          rintro e w7 ⟨hres, hb7⟩
          obtain ⟨vv, rfl, hrow⟩ : ∃ vv, e = .returned (.tuple #[vv, .int .i64 0]) ∧ w7.ownsRow wr.heap.size 71 2 vv l.length (flat71 l) := by
            rw [HRG.out] at hres
            rcases hres with ⟨h, _⟩ | ⟨_, h⟩
            · omega
            · exact h
          obtain ⟨A2, c2, rfl⟩ := row_form hrow
          have HCL := Lib.hid (row71_C hrow rfl)
          have HS7 := Lib.hid (hs.out.below hb7)
          have HB7 := Lib.hid (below_step hbw.out hb7)
          clear hrow hb7 hres
          have HCL7 := Lib.hid HCL.out.1
          have hcmp : decide (v ≤ n) = true := decide_eq_true hvn
          go_wp2_with fail
          rw [← U]
          refine (HS7.out.has n).mono ?_
          rintro e w8 ⟨rfl, hd8⟩
          rw [hMn]
          have HB8 := Lib.hid (HB7.out.trans (drawn_below hd8))
          have HCL8 := Lib.hid (Kd.C_below HCL7.out hd8.below)
          clear hd8
          go_wp2_with fail
          refine (refRight_calls A2 c2 l _ HCL8.out HCL.out.2).mono ?_
          rw [HR.out]
          rintro e w9 ⟨rfl, hb9⟩
          have HB9 := Lib.hid (below_step HB8.out hb9)
          clear hb9
          go_wp2_with fail
          refine (known_calls w9 (tab_keep HL.out (HB9.out.block 0 hz))).mono ?_
          rintro e w10 ⟨rfl, hb10⟩
          have HB10 := Lib.hid (below_step HB9.out hb10)
          clear hb10
          go_wp2_with fail
          go_ret
          exact ⟨rfl, HB10.out⟩
    | false =>
      obtain ⟨rfl, hlo⟩ : n = 0 ∧ ∀ x, v ≤ x → M x = false := by
        rcases HN.out with ⟨h, _⟩ | ⟨_, h1, h2⟩
        · cases h
        · exact ⟨h1, h2⟩
      have HLO : Hid (∀ x, v ≤ x → x < f + r → M x = false) := Lib.hid (fun x h _ => hlo x h)
      clear hlo
      rw [U]
      go_wp2_with fail
      go_loopw [11] (fun i wr => ∃ u : Int, i = .int .i64 u ∧ v ≤ u ∧ v ≤ u ∧ u ≤ 9223372036854775807 ∧ Hid (SetAt wr g gp f r M) ∧ Hid (Below w.heap.size w wr))
        (fun i _ => (f + r - intOf i).toNat)
      case atStart => exact ⟨v, rfl, by omega, by omega, by omega, HS5, HB5⟩
      case round =>
        obtain ⟨u, rfl, hu1, hu2, hu3, hs, hbw⟩ := hrel
        by_cases he1 : u < f + r
        · have hd1 : decide (u < f + r) = true := decide_eq_true he1
          by_cases he2 : u < v + 300
          · have hd2 : decide (u < v + 300) = true := decide_eq_true he2
            have hMu := HLO.out u hu2 he1
            go_wp2_with fail
            rw [← U]
            refine (hs.out.has u).mono ?_
            rintro e w6 ⟨rfl, hd6⟩
            rw [hMu]
            go_wp2_with fail
            go_roundw
            case rel => exact ⟨u + 1, rfl, by omega, by omega, by omega, Lib.hid (hs.out.below hd6.below), Lib.hid (hbw.out.trans (drawn_below hd6))⟩
            case measure => simp [intOf]; omega
          · have hd2 : decide (u < v + 300) = false := decide_eq_false he2
            go_wp2_with fail
            rw [← U]
            refine (hs.out.ranges (tab_keep HL.out (hbw.out.block 0 hz))).mono ?_
            rintro e w7 ⟨hres, hb7⟩
            obtain ⟨vv, rfl, hrow⟩ : ∃ vv, e = .returned (.tuple #[vv, .int .i64 0]) ∧ w7.ownsRow wr.heap.size 71 2 vv l.length (flat71 l) := by
              rw [HRG.out] at hres
              rcases hres with ⟨h, _⟩ | ⟨_, h⟩
              · omega
              · exact h
            obtain ⟨A2, c2, rfl⟩ := row_form hrow
            have HCL := Lib.hid (row71_C hrow rfl)
            have HS7 := Lib.hid (hs.out.below hb7)
            have HB7 := Lib.hid (below_step hbw.out hb7)
            clear hrow hb7 hres
            have HCL7 := Lib.hid HCL.out.1
            go_wp2_with fail
            refine (refRight_calls A2 c2 l _ HCL7.out HCL.out.2).mono ?_
            rw [HR.out]
            rintro e w9 ⟨rfl, hb9⟩
            have HB9 := Lib.hid (below_step HB7.out hb9)
            clear hb9
            go_wp2_with fail
            refine (known_calls w9 (tab_keep HL.out (HB9.out.block 0 hz))).mono ?_
            rintro e w10 ⟨rfl, hb10⟩
            have HB10 := Lib.hid (below_step HB9.out hb10)
            clear hb10
            go_wp2_with fail
            go_ret
            exact ⟨rfl, HB10.out⟩
        · have hd1 : decide (u < f + r) = false := decide_eq_false he1
          go_wp2_with fail
          rw [← U]
          refine (hs.out.ranges (tab_keep HL.out (hbw.out.block 0 hz))).mono ?_
          rintro e w7 ⟨hres, hb7⟩
          obtain ⟨vv, rfl, hrow⟩ : ∃ vv, e = .returned (.tuple #[vv, .int .i64 0]) ∧ w7.ownsRow wr.heap.size 71 2 vv l.length (flat71 l) := by
            rw [HRG.out] at hres
            rcases hres with ⟨h, _⟩ | ⟨_, h⟩
            · omega
            · exact h
          obtain ⟨A2, c2, rfl⟩ := row_form hrow
          have HCL := Lib.hid (row71_C hrow rfl)
          have HS7 := Lib.hid (hs.out.below hb7)
          have HB7 := Lib.hid (below_step hbw.out hb7)
          clear hrow hb7 hres
          have HCL7 := Lib.hid HCL.out.1
          go_wp2_with fail
          refine (refRight_calls A2 c2 l _ HCL7.out HCL.out.2).mono ?_
          rw [HR.out]
          rintro e w9 ⟨rfl, hb9⟩
          have HB9 := Lib.hid (below_step HB7.out hb9)
          clear hb9
          go_wp2_with fail
          refine (known_calls w9 (tab_keep HL.out (HB9.out.block 0 hz))).mono ?_
          rintro e w10 ⟨rfl, hb10⟩
          have HB10 := Lib.hid (below_step HB9.out hb10)
          clear hb10
          go_wp2_with fail
          go_ret
          exact ⟨rfl, HB10.out⟩

end Go.Proofs.YtfkbkcdiajjljaaDoor.PBitsSteps
