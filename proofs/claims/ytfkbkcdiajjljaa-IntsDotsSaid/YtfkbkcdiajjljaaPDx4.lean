/- The functions that these laws reach, each as a Lean function, with the proof that the Go code comes to what it answers: for every input for which it answers. Text by a program for this claim. -/
import Derived.Test.YtfkbkcdiajjljaaPDx0
import Derived.Test.YtfkbkcdiajjljaaPDx2
import Derived.Test.YtfkbkcdiajjljaaPDx3
import Derived.Test.YtfkbkcdiajjljaaPAx0
import Derived.Test.YtfkbkcdiajjljaaPAx3
import Derived.Test.YtfkbkcdiajjljaaPAx5
import Derived.Test.YtfkbkcdiajjljaaPAx6
import Derived.Test.YtfkbkcdiajjljaaPAx7
import Derived.Laws.BitsAllLaws
import Derived.Lib.Hide
import Derived.Test.YtfkbkcdiajjljaaBig2
import Derived.Test.YtfkbkcdiajjljaaRoot
namespace Go.Proofs.Ytfkbkcdiajjljaa.PD
open Go.RowKit Go.Proofs.Ytfkbkcdiajjljaa.PA Go.Proofs.YtfkbkcdiajjljaaW.PrintWords Go.Proofs.YtfkbkcdiajjljaaW.PrintLast Go.Proofs.YtfkbkcdiajjljaaW.PrintMore
attribute [local go_sem] max2_int min2_int max_two min_two max_three min_three max_four min_four   -- for this text's walks alone
set_option linter.unusedVariables false
set_option linter.unusedSimpArgs false

-- MAKING
open Go.Proofs.Ytfkbkcdiajjljaa.Spec
def lentF (l0 : List Int) : Option (List Int) := if ([] : List Int).length + l0.length < 17592186044416 then ((some (([] : List Int) ++ l0 : List Int)).bind fun y123 => (if y123.length < 17592186044416 then ((some (y123 ++ [7777] : List Int)).bind fun y126 => (if 0 ≤ (l0.length : Int) then (if (l0.length : Int) ≤ (y126.length : Int) then (some (y126.take ((l0.length : Int) : Int).toNat)) else (none)) else (none))) else (none))) else (none)
set_option maxHeartbeats 8000000 in
set_option maxRecDepth 100000 in
theorem lent_calls (A0 : Option Addr) (c0 : Nat) (l0 : List Int) (r : List Int) (w : World) (hr0 : Kd.C (Kd.int .i64) w A0 l0.length l0) (hc0 : l0.length ≤ c0) (h : lentF l0 = some r) :
    Calls Try.prog 31 #[.slice A0 l0.length c0] w fun e w' => ∃ (A : Option Addr) (c : Nat), e = .returned (.slice A l0.length c) ∧ Kd.R (Kd.int .i64) 2 w' w.heap.size (fun _ => True) (.slice A (l0.length + 1) c) (l0 ++ [7777]) ∧ Below w.heap.size w w' := by
  have HR0 := Aside0.mk hr0
  have HC0 := Aside0.mk hc0
  clear hr0 hc0
  have HB := Aside0.mk (Below.refl w.heap.size w)
  have H : (if ([] : List Int).length + l0.length < 17592186044416 then ((some (([] : List Int) ++ l0 : List Int)).bind fun y123 => (if y123.length < 17592186044416 then ((some (y123 ++ [7777] : List Int)).bind fun y126 => (if 0 ≤ (l0.length : Int) then (if (l0.length : Int) ≤ (y126.length : Int) then (some (y126.take ((l0.length : Int) : Int).toNat)) else (none)) else (none))) else (none))) else (none)) = some r := h
  clear h
  by_cases c2 : ([] : List Int).length + l0.length < 17592186044416
  · rw [if_pos c2] at H
    have LMc2 := Aside0.mk c2
    clear c2
    obtain ⟨y123, hy123⟩ : ∃ y_ : List Int, y_ = (([] : List Int) ++ l0) := ⟨_, rfl⟩
    replace H : (if y123.length < 17592186044416 then ((some (y123 ++ [7777] : List Int)).bind fun y126 => (if 0 ≤ (l0.length : Int) then (if (l0.length : Int) ≤ (y126.length : Int) then (some (y126.take ((l0.length : Int) : Int).toNat)) else (none)) else (none))) else (none)) = some r := by first | (rw [hy123]; with_reducible exact H) | (have H2_ := (Option.bind_some _ _).symm.trans H; rw [hy123]; with_reducible exact H2_) | (have H2_ := (Option.bind_some _ _).symm.trans H; with_reducible exact H2_) | with_reducible exact H | (rw [hy123]; exact H) | exact H
    have Ny123 := Aside0.mk hy123
    clear hy123
    by_cases c3 : y123.length < 17592186044416
    · rw [if_pos c3] at H
      have LMc3 := Aside0.mk c3
      clear c3
      obtain ⟨y126, hy126⟩ : ∃ y_ : List Int, y_ = (y123 ++ [7777]) := ⟨_, rfl⟩
      replace H : (if 0 ≤ (l0.length : Int) then (if (l0.length : Int) ≤ (y126.length : Int) then (some (y126.take ((l0.length : Int) : Int).toNat)) else (none)) else (none)) = some r := by first | (rw [hy126]; with_reducible exact H) | (have H2_ := (Option.bind_some _ _).symm.trans H; rw [hy126]; with_reducible exact H2_) | (have H2_ := (Option.bind_some _ _).symm.trans H; with_reducible exact H2_) | with_reducible exact H | (rw [hy126]; exact H) | exact H
      have Ny126 := Aside0.mk hy126
      clear hy126
      by_cases c4 : 0 ≤ (l0.length : Int)
      · rw [if_pos c4] at H
        have c4b0 := eq_true c4
        have c4b1 : decide (0 ≤ (l0.length : Int)) = true := decide_eq_true c4
        clear c4
        by_cases c5 : (l0.length : Int) ≤ (y126.length : Int)
        · rw [if_pos c5] at H
          have c5b0 := eq_true c5
          have c5b1 : decide ((l0.length : Int) ≤ (y126.length : Int)) = true := decide_eq_true c5
          clear c5
          obtain ⟨y129, hy129⟩ : ∃ y_ : List Int, y_ = (y126.take ((l0.length : Int) : Int).toNat) := ⟨_, rfl⟩
          replace H : (some y129) = some r := by first | (rw [hy129]; with_reducible exact H) | (have H2_ := (Option.bind_some _ _).symm.trans H; rw [hy129]; with_reducible exact H2_) | (have H2_ := (Option.bind_some _ _).symm.trans H; with_reducible exact H2_) | with_reducible exact H | (rw [hy129]; exact H) | exact H
          have Ny129 := Aside0.mk hy129
          clear hy129
          obtain rfl := Option.some.inj H
          go_enter Try.func31, Try.ntmps31
          go_wp2_with (first | ((with_reducible refine gate_builtin (b := .append) (xs := #[.tmp 4, .tmp 5]) rfl ?_); at_builtin; refine Kd.R_append_rows (Kd.int .i64) (w0 := w) w.heap.size rfl (.tmp 4) (.tmp 5) 28 2 (.int .i64 0) 8 rfl Try.underlying28 info2 rfl (by decide) (by omega) (.slice none 0 0) ([] : List Int) l0 _ _ _ (fun _ => True) (fun _ => False) rfl rfl ?aO ?aR (fun _ _ h => h) (fun _ h => h.elim) ?aF ?aB ?aS ?aL ?_; (case aR => repeat (first | exact HR0.out | (with_reducible refine Kd.C_alloc ?_ _) | (with_reducible refine Kd.C_drewN ?_ _) | (with_reducible refine Kd.C_drew ?_))); (case aB => exact (by repeat (first | (with_reducible first | exact HB.out | apply below_alloc | apply pw_below_drewN | apply below_drew1) | exact HB.out))); (case aF => exact (fun _ _ => trivial)); (case aO => exact ((Kd.R_nil _ _ _ _ (fun _ => True)))); (case aS => exact (below_size (by repeat (first | (with_reducible first | exact HB.out | apply below_alloc | apply pw_below_drewN | apply below_drew1) | exact HB.out)))); (case aL => have := LMc2.out; omega); intro v124 w6 ho hb hg hat; rw [← Ny123.out] at ho; have n0_ := Aside0.mk (hb); have n1_ := Aside0.mk (ho); clear HB; have HB := n0_; have HO125 := n1_; clear n0_ n1_; clear ho hb hg hat) | ((with_reducible refine gate_builtin (b := .append) (xs := #[.tmp 7, .tmp 8]) rfl ?_); at_builtin; refine Kd.R_append (Kd.int .i64) (w0 := w) w.heap.size rfl (.tmp 7) (.tmp 8) 28 2 (.int .i64 0) 8 rfl Try.underlying28 info2 rfl (by decide) (by omega) v124 y123 7777 [.int .i64 7777] (fun _ => True) (fun _ => False) rfl rfl ?aP (fun _ hk => hk.elim) ?aF ?aO ?aB ?aS ?aL ?_; (case aP => exact rfl); (case aB => exact (by repeat (first | (with_reducible first | exact HB.out | apply below_alloc | apply pw_below_drewN | apply below_drew1) | exact HB.out))); (case aF => exact (fun _ _ => trivial)); (case aO => exact (by (with_reducible repeat (first | apply Kd.R_alloc | apply Kd.R_drewN | apply Kd.R_drew)); exact HO125.out)); (case aS => exact (below_size (by repeat (first | (with_reducible first | exact HB.out | apply below_alloc | apply pw_below_drewN | apply below_drew1) | exact HB.out)))); (case aL => have := LMc3.out; omega); intro v127 w7 ho hb hg hat; rw [← Ny126.out] at ho; have n0_ := Aside0.mk (hb); have n1_ := Aside0.mk (ho); clear HB; clear HO125; have HB := n0_; have HO128 := n1_; clear n0_ n1_; clear ho hb hg hat; obtain ⟨Ao8, co8, eo8⟩ := Kd.R_slice HO128.out; subst eo8; have q9 : ((l0.length : Int) : Int) ≤ ((y126.length : Int) : Int) := of_decide_eq_true (by first | (with_reducible assumption) | assumption); obtain ⟨i09, hi09, _, hsz9, _⟩ := info_parts info2; have hcut9 := cut_to (P := Try.prog) 28 2 .i64 Try.underlying28 hi09 Ao8 y126.length co8 (l0.length : Int) (of_decide_eq_true (by first | (with_reducible assumption) | assumption)) q9 (Kd.R_reads' HO128.out).2.1; have hr9 := Kd.R_take (m := ((l0.length : Int) : Int).toNat) HO128.out (by omega); have hy9 : y129.length = ((l0.length : Int) : Int).toNat := (by rw [Ny129.out, List.length_take]; omega); rw [← Ny129.out] at hr9; rw [← hy9] at hr9 hcut9; clear hi09 hsz9; have HO131 := Aside0.mk hr9; clear hr9; replace q9 := eq_true q9))
          go_ret
          have e1 : y126 = l0 ++ [7777] := by rw [Ny126.out, Ny123.out]; rfl
          subst e1
          have ho := HO128.out
          rw [List.length_append, List.length_singleton] at ho
          exact ⟨Ao8, co8, rfl, ho, HB.out⟩
        · rw [if_neg c5] at H
          exact absurd H (by simp)
      · rw [if_neg c4] at H
        exact absurd H (by simp)
    · rw [if_neg c3] at H
      exact absurd H (by simp)
  · rw [if_neg c2] at H
    exact absurd H (by simp)










theorem cut_cap {P : Program} (t e : TypeId) (kh : IntKind) {i : TypeInfo} (ht : P.underlying t = some (.slice e)) (hi : P.info? e = some i) (A : Option Addr) (n c : Nat) (j : Int) (h0 : 0 ≤ j) (hm : j ≤ c) :
    ∀ W : World, (Instr.slice t (.slice A n c) none (some (.int kh j)) none).run P W = .ok (.slice A j.toNat c) W := by
  intro W
  have hel : P.elem t = e := by simp [Program.elem, ht]
  have hu : P.underlying t = some (.slice (P.elem t)) := by rw [hel]; exact ht
  have ha : (A.map fun x => x.add 0) = A := by cases A <;> simp [Addr.add]
  rw [run_slice_h W t A n c hu kh j h0 (by omega), hel]
  simp [sizeOf, typeInfo, hi, sliced, Result.andThen, ha]
set_option maxRecDepth 100000 in
set_option maxHeartbeats 2000000 in
theorem kept_calls (k : Nat) (A : Option Addr) (c : Nat) (A1 : Option Addr) (c1 : Nat) (l : List Int) (w : World) (hx : Kd.C (Kd.int .i64) w A (l ++ [7777]).length (l ++ [7777])) (hc : l.length + 1 ≤ c) (hr1 : Kd.C (Kd.int .i64) w A1 l.length l) (hc1 : l.length ≤ c1) (hs : jigsawref01_Same.f k l l = some true) (hl : l.length < 4611686018427387904) :
    Calls Try.prog 35 #[.slice A l.length c, .slice A1 l.length c1] w fun e w' => e = .returned (.bool true) ∧ Drawn0 w w' := by
  have hx' := Kd.C_take (m := l.length) hx (by simp)
  rw [List.take_left' rfl] at hx'
  obtain ⟨ad, eA, hcell⟩ := Kd.at_int hx (l.length : Int) (by omega) (by simp; omega)
  rw [rd_snoc, Int.toNat_natCast] at hcell
  subst eA
  obtain ⟨i0, hi0, _, _, _⟩ := info_parts info2
  have hcut := cut_cap (P := Try.prog) 28 2 .i64 Try.underlying28 hi0 (some ad) l.length c ((l.length : Int) + 1) (by omega) (by omega)
  have e1 : ((l.length : Int) + 1).toNat = l.length + 1 := by omega
  rw [e1] at hcut
  have HX := Lib.hid hx'; have HR1 := Lib.hid hr1; have HS := Lib.hid hs
  clear hx hx' hr1 hs e1
  go_enter Try.func35, Try.ntmps35
  go_wp2_with fail
  refine (jigsawref01_Same.calls k _ _ l _ _ l true _ HX.out (by omega) HR1.out hc1 HS.out).mono ?_
  rintro e w' ⟨rfl, ⟨nd, rfl⟩⟩
  go_wp2_with fail
  go_ret
  exact ⟨rfl, ⟨⟨nd, rfl⟩⟩⟩
theorem i64_or_nat (a b : Nat) (ha : a < 9223372036854775808) (hb : b < 9223372036854775808) : Go.bits .or .i64 (a : Int) (b : Int) = ((a ||| b : Nat) : Int) := by
  have hx : a ||| b < 2 ^ 63 := Nat.or_lt_two_pow (by omega) (by omega)
  show IntKind.i64.wrap ((BitVec.ofInt 64 (a : Int) ||| BitVec.ofInt 64 (b : Int)).toNat : Int) = _
  rw [BitVec.toNat_or, ofInt_u64 a (by omega), ofInt_u64 b (by omega)]
  exact (i64_wrap _).trans (IntWalk.wrap64_in ((a ||| b : Nat) : Int) (by omega))

theorem same_l0 (l : List Int) (hl : l.length < 4611686018427387904) : ∀ (d i : Nat), l.length = i + d → Ev (fun k => jigsawref01_Same.l0 k l l i) true
  | 0, i, hd => Ev.step (f := fun _ => some true) (fun k => by simp only [jigsawref01_Same.l0]; rw [if_neg (by omega)]) (Ev.now _)
  | d + 1, i, hd => Ev.step (fun k => by
      simp only [jigsawref01_Same.l0]
      rw [if_pos (by omega), if_pos (by omega)]
      rw [if_pos (by omega), if_pos trivial]
      rw [show wrap64 ((i : Int) + 1) = ((i + 1 : Nat) : Int) from IntWalk.wrap64_in _ (by omega)]) (same_l0 l hl d (i + 1) (by omega))
theorem same_self (l : List Int) (hl : l.length < 4611686018427387904) : ∃ k, jigsawref01_Same.f k l l = some true := by
  obtain ⟨K, h⟩ := same_l0 l hl l.length 0 (by omega)
  have e : jigsawref01_Same.l0 K l l ((0 : Nat) : Int) = some true := h K (Nat.le_refl _)
  exact ⟨K, by unfold jigsawref01_Same.f; rw [if_pos rfl]; exact e⟩

theorem or_bit (q b : Nat) (h : q * 2 ^ (b + 1) < 9223372036854775808) (hb : b < 32) : Go.bits .or .i64 ((q * 2 ^ (b + 1) : Nat) : Int) ((2 ^ b : Nat) : Int) = ((q * 2 ^ (b + 1) + 2 ^ b : Nat) : Int) := by
  have hp : 2 ^ b < 2 ^ (b + 1) := Nat.pow_lt_pow_right (by decide) (by omega)
  have hp2 : 2 ^ b < 2 ^ 32 := Nat.pow_lt_pow_right (by decide) hb
  rw [i64_or_nat _ _ h (by omega)]
  rw [← Nat.shiftLeft_eq, ← Nat.shiftLeft_add_eq_or_of_lt hp]
theorem shl_bit (b : Nat) (hb : b < 32) : shl .i64 1 (IntKind.u64.wrap (b : Int)) = ((2 ^ b : Nat) : Int) := by
  have hp2 : 2 ^ b < 2 ^ 32 := Nat.pow_lt_pow_right (by decide) hb
  rw [IntWalk.u64_in _ (by omega)]
  unfold shl
  rw [Int.toNat_natCast, IntWalk.i64_left, Int.one_mul, Nat.min_eq_left (by show b ≤ 64; omega)]
  have : (2 : Int) ^ b = ((2 ^ b : Nat) : Int) := by norm_cast
  rw [this]; clear this
  generalize 2 ^ b = p at *
  exact IntWalk.wrap64_in _ (by omega)
theorem refRoot_l0 (a : Int) (h0 : 0 ≤ a) (ha : a ≤ 9223372036854775807) : ∀ (b q : Nat), b ≤ 32 → ((q * 2 ^ b : Nat) : Int) ≤ 3037000499 → ((q * 2 ^ b : Nat) : Int) * ((q * 2 ^ b : Nat) : Int) ≤ a → a < (((q * 2 ^ b : Nat) : Int) + ((2 ^ b : Nat) : Int)) * (((q * 2 ^ b : Nat) : Int) + ((2 ^ b : Nat) : Int)) →
    ∃ r, IsRoot a r ∧ Ev (fun k => jigsawref01_Root.l0 k a ((q * 2 ^ b : Nat) : Int) ((b : Int) - 1)) (r, 0)
  | 0, q, _, h1, h2, h3 => ⟨((q * 2 ^ 0 : Nat) : Int), ⟨by omega, h1, h2, by simpa using h3⟩, Ev.step (f := fun _ => some (((q * 2 ^ 0 : Nat) : Int), 0)) (fun k => by simp only [jigsawref01_Root.l0]; rw [if_neg (by omega)]) (Ev.now _)⟩
  | b + 1, q, hb, h1, h2, h3 => by
    have eb : (((b + 1 : Nat) : Int) - 1) = (b : Int) := by omega
    have hw : wrap64 ((b : Int) - 1) = (b : Int) - 1 := IntWalk.wrap64_in _ (by omega)
    have hor := or_bit q b (by omega) (by omega)
    have hsh := shl_bit b (by omega)
    have hst : ∀ k, jigsawref01_Root.l0 (k + 1) a ((q * 2 ^ (b + 1) : Nat) : Int) (((b + 1 : Nat) : Int) - 1) =
        if ((q * 2 ^ (b + 1) + 2 ^ b : Nat) : Int) ≤ 3037000499 then (if (wrap64 (((q * 2 ^ (b + 1) + 2 ^ b : Nat) : Int) * ((q * 2 ^ (b + 1) + 2 ^ b : Nat) : Int))) ≤ a then jigsawref01_Root.l0 k a ((q * 2 ^ (b + 1) + 2 ^ b : Nat) : Int) ((b : Int) - 1) else jigsawref01_Root.l0 k a ((q * 2 ^ (b + 1) : Nat) : Int) ((b : Int) - 1)) else jigsawref01_Root.l0 k a ((q * 2 ^ (b + 1) : Nat) : Int) ((b : Int) - 1) := fun k => by
      rw [eb, jigsawref01_Root.l0, if_pos (by omega), if_pos (by rw [IntWalk.u64_in _ (by omega)]; omega), hsh, hor, hw]
    clear hor hsh hw eb
    have e1 : q * 2 ^ (b + 1) = (2 * q) * 2 ^ b := by rw [Nat.pow_succ, Nat.mul_comm 2 q, Nat.mul_assoc, Nat.mul_comm 2]
    have e2 : q * 2 ^ (b + 1) + 2 ^ b = (2 * q + 1) * 2 ^ b := by rw [e1, Nat.add_mul, Nat.one_mul]
    have e3 : (2 ^ (b + 1) : Nat) = 2 ^ b + 2 ^ b := by rw [Nat.pow_succ]; omega
    rw [e1] at h1 h2 h3
    rw [e3] at h3
    rw [e2, e1] at hst
    have e4 : ((((2 * q) * 2 ^ b : Nat) : Int) + ((2 ^ b : Nat) : Int)) = (((2 * q + 1) * 2 ^ b : Nat) : Int) := by rw [Nat.add_mul, Nat.one_mul]; omega
    have e5 : ((((2 * q) * 2 ^ b : Nat) : Int) + ((2 ^ b + 2 ^ b : Nat) : Int)) = (((2 * q + 1) * 2 ^ b : Nat) : Int) + ((2 ^ b : Nat) : Int) := by rw [Nat.add_mul, Nat.one_mul]; omega
    rw [e5] at h3
    by_cases c1 : (((2 * q + 1) * 2 ^ b : Nat) : Int) ≤ 3037000499
    · have hsq := sq_le (x := (((2 * q + 1) * 2 ^ b : Nat) : Int)) (y := 3037000499) (by omega) c1
      have hsq0 : 0 ≤ (((2 * q + 1) * 2 ^ b : Nat) : Int) * (((2 * q + 1) * 2 ^ b : Nat) : Int) := Int.mul_nonneg (by omega) (by omega)
      have hws : wrap64 ((((2 * q + 1) * 2 ^ b : Nat) : Int) * (((2 * q + 1) * 2 ^ b : Nat) : Int)) = (((2 * q + 1) * 2 ^ b : Nat) : Int) * (((2 * q + 1) * 2 ^ b : Nat) : Int) := IntWalk.wrap64_in _ (by omega)
      by_cases c2 : (((2 * q + 1) * 2 ^ b : Nat) : Int) * (((2 * q + 1) * 2 ^ b : Nat) : Int) ≤ a
      · obtain ⟨r, hr, hE⟩ := refRoot_l0 a h0 ha b (2 * q + 1) (by omega) c1 c2 h3
        exact ⟨r, hr, Ev.step (fun k => by rw [e1, hst, if_pos c1, hws, if_pos c2]) hE⟩
      · obtain ⟨r, hr, hE⟩ := refRoot_l0 a h0 ha b (2 * q) (by omega) h1 h2 (by rw [e4]; omega)
        exact ⟨r, hr, Ev.step (fun k => by rw [e1, hst, if_pos c1, hws, if_neg c2]) hE⟩
    · have hsq := sq_le (x := 3037000500) (y := (((2 * q + 1) * 2 ^ b : Nat) : Int)) (by decide) (by omega)
      obtain ⟨r, hr, hE⟩ := refRoot_l0 a h0 ha b (2 * q) (by omega) h1 h2 (by rw [e4]; omega)
      exact ⟨r, hr, Ev.step (fun k => by rw [e1, hst, if_neg c1]) hE⟩
theorem refRoot.spec (a : Int) (h0 : 0 ≤ a) (ha : fits a) : ∃ r, IsRoot a r ∧ Ev (fun k => jigsawref01_Root.f k a) (r, 0) := by
  obtain ⟨r, hr, hE⟩ := refRoot_l0 a h0 ha.2 32 0 (by omega) (by simp) (by simpa using h0) (by have := ha.2; simp; omega)
  refine ⟨r, hr, Ev.congr (fun k => ?_) hE⟩
  unfold jigsawref01_Root.f
  rw [if_neg (by omega)]
  rfl
theorem dot_bind {α β : Type} {x : Option α} {a : α} {f : α → Option β} {r : Option β} (h : x = some a) (k : f a = r) : x.bind f = r := by subst h; exact k
theorem sv_sign (x : Int) (l : List Int) (h : val l = (x.natAbs : Int)) : sv (decide (x < 0)) l = x := by
  unfold sv
  by_cases c : x < 0
  · rw [if_pos (by simpa using c)]; omega
  · rw [if_neg (by simpa using c)]; omega
theorem val_of_sv {m : Bool} {l : List Int} {T : Int} (h : -T ≤ sv m l ∧ sv m l ≤ T) : val l ≤ T := by
  unfold sv at h
  cases m
  · simp only [Bool.false_eq_true, if_false] at h; omega
  · simp only [if_true] at h; omega
theorem len_six {m : Bool} {l : List Int} (hd : digs l) (hn : norm l) (h : -1496577676626844588240573268701473812127674924007424 ≤ sv m l ∧ sv m l ≤ 1496577676626844588240573268701473812127674924007424) : l.length ≤ 6 := by
  have hv := val_of_sv h
  by_cases c : l.length ≤ 6
  · exact c
  · obtain ⟨n, hn'⟩ : ∃ n, l.length = n + 1 := ⟨l.length - 1, by omega⟩
    have e1 := norm_low hd hn n hn'
    have e2 : bp 6 ≤ bp n := bp_le (by omega)
    have e3 : bp 6 = 1532495540865888858358347027150309183618739122183602176 := by decide
    omega
theorem dsum2 {a b : Nat} (h : a ≤ 3) (k : b ≤ 3) : a + b < 1000000 := by omega
theorem dle7 {a : Nat} (h : a ≤ 6) : a ≤ 7 := by omega
theorem dlen7 {x a b : Nat} (h : x ≤ a + b + 1) (ha : a ≤ 3) (hb : b ≤ 3) : x ≤ 7 := by omega
theorem dle5 {a b c d e k : Nat} (h : a + b + c + d + e + 1 ≤ k) : ∃ k', k = k' + 1 ∧ a ≤ k' ∧ b ≤ k' ∧ c ≤ k' ∧ d ≤ k' ∧ e ≤ k' := ⟨k - 1, by omega⟩
theorem refDot_l0 (l0 l1 : List Int) (he : l0.length = l1.length) (f0 : allFit l0 = true) (f1 : allFit l1 = true) (hl : l0.length < 17592186044416) : ∀ (d i : Nat) (m : Bool) (l : List Int), l0.length = i + d → digs l → norm l → sv m l = dotN l0 l1 i →
    Ev (fun k => jigsawref01_Dot.l0 k l0 l1 i m l) (reck (dotN l0 l1 l0.length))
  | 0, i, m, l, hd, dl, nl, hs => by
    have hb := dotN_bound f0 f1 i
    have h6 : l.length ≤ 6 := len_six (m := m) dl nl (by rw [hs]; omega)
    obtain ⟨K, hK⟩ := back_spec m l dl nl (by omega)
    refine ⟨K + 1, fun k hk => ?_⟩
    obtain ⟨k', rfl⟩ : ∃ k', k = k' + 1 := ⟨k - 1, by omega⟩
    show jigsawref01_Dot.l0 (k' + 1) l0 l1 i m l = _
    simp only [jigsawref01_Dot.l0]
    rw [if_neg (by omega)]
    refine dot_bind (hK k' (by omega)) ?_
    rw [hs, hd]
    rfl
  | d + 1, i, m, l, hd, dl, nl, hs => by
    have g1 : (i : Int) < (l0.length : Int) := by omega
    have g2 : (0 : Int) ≤ (i : Int) := by omega
    have g3 : (i : Int) < (l1.length : Int) := by omega
    have g4 : l0.length = (i + 1) + d := by omega
    have ew : wrap64 ((i : Int) + 1) = ((i + 1 : Nat) : Int) := IntWalk.wrap64_in _ (by omega)
    have h6 : l.length ≤ 6 := len_six (m := m) dl nl (by have hb := dotN_bound f0 f1 i; rw [hs]; clear hs; omega)
    obtain ⟨a, da, na, la, va, Ka, hKa⟩ := of_spec (rd l0 i) (rd_fits f0 i)
    obtain ⟨b, db, nb, lb, vb, Kb, hKb⟩ := of_spec (rd l1 i) (rd_fits f1 i)
    obtain ⟨m2, l2, d2, n2, ll2, s2, K2, hK2⟩ := times_spec (decide (rd l0 i < 0)) (decide (rd l1 i < 0)) a b da db (dsum2 la lb)
    obtain ⟨m3, l3, d3, n3, ll3, s3, _, K3, hK3⟩ := plus_spec m m2 l l2 dl d2 nl n2 7 (dle7 h6) (dlen7 ll2 la lb) (by decide)
    rw [sv_sign _ _ va, sv_sign _ _ vb] at s2
    rw [s2, hs] at s3
    obtain ⟨K4, hK4⟩ := refDot_l0 l0 l1 he f0 f1 hl d (i + 1) m3 l3 g4 d3 n3 s3
    refine ⟨Ka + Kb + K2 + K3 + K4 + 1, fun k hk => ?_⟩
    obtain ⟨k', rfl, k1, k2, k3, k4, k5⟩ := dle5 hk
    have e1 : jigsawref01_Of.f k' (rd l0 i) = _ := hKa k' k1
    have e2 : jigsawref01_Of.f k' (rd l1 i) = _ := hKb k' k2
    have e3 : jigsawref01_Times.f k' (decide (rd l0 i < 0)) a (decide (rd l1 i < 0)) b = _ := hK2 k' k3
    have e4 : jigsawref01_Plus.f k' m l m2 l2 = _ := hK3 k' k4
    have e5 : jigsawref01_Dot.l0 k' l0 l1 ((i + 1 : Nat) : Int) m3 l3 = _ := hK4 k' k5
    clear hKa hKb hK2 hK3 hK4 s2 s3 hs va vb
    show jigsawref01_Dot.l0 (k' + 1) l0 l1 i m l = _
    simp only [jigsawref01_Dot.l0]
    rw [if_pos g1, if_pos g2]
    refine dot_bind (a := (decide (rd l0 i < 0), a)) e1 ?_
    rw [if_pos g3]
    refine dot_bind (a := (decide (rd l1 i < 0), b)) e2 (dot_bind (a := (m2, l2)) e3 (dot_bind (a := (m3, l3)) e4 ?_))
    rw [ew]
    exact e5
theorem refDot_ne (l0 l1 : List Int) (h : l0.length ≠ l1.length) (k : Nat) : jigsawref01_Dot.f k l0 l1 = some (0, 1) := by
  unfold jigsawref01_Dot.f
  rw [if_neg (by omega)]
theorem refDot_eq (l0 l1 : List Int) (he : l0.length = l1.length) (f0 : allFit l0 = true) (f1 : allFit l1 = true) (hl : l0.length < 17592186044416) : Ev (fun k => jigsawref01_Dot.f k l0 l1) (reck (dotN l0 l1 l0.length)) := by
  obtain ⟨a, da, na, la, va, Ka, hKa⟩ := of_spec 0 (by decide)
  obtain ⟨K, hK⟩ := refDot_l0 l0 l1 he f0 f1 hl l0.length 0 (decide ((0 : Int) < 0)) a (by omega) da na (by rw [sv_sign _ _ va]; rfl)
  refine ⟨Ka + K, fun k hk => ?_⟩
  show jigsawref01_Dot.f k l0 l1 = _
  unfold jigsawref01_Dot.f
  rw [if_pos (by omega)]
  exact dot_bind (hKa k (by omega)) (hK k (by omega))
def jigsawlaw01_IntsDots.f (l0 l1 : List Int) (a2 : Int) : Option Bool := if l0.length < 17592186044415 ∧ l1.length < 17592186044415 ∧ allFit l0 = true ∧ allFit l1 = true ∧ fits a2 then some true else none
theorem lentF_some (l : List Int) (h : l.length < 17592186044415) : lentF l = some l := by
  unfold lentF
  rw [if_pos (by simpa using by omega)]
  simp only [List.nil_append, Option.bind_some, List.length_append, List.length_cons, List.length_nil]
  rw [if_pos (by omega), if_pos (by omega), if_pos (by omega)]
  simp
theorem dots_same (l0 l1 : List Int) (hn : l0.length < 17592186044415) (f0 : allFit l0 = true) (f1 : allFit l1 = true) : ∃ q1 q2 k, ints_Dot.f l0 l1 = some (q1, q2) ∧ jigsawref01_Dot.f k l0 l1 = some (q1, q2) := by
  by_cases he : l0.length = l1.length
  · obtain ⟨K, hK⟩ := refDot_eq l0 l1 he f0 f1 (by omega)
    refine ⟨(reck (dotN l0 l1 l0.length)).1, (reck (dotN l0 l1 l0.length)).2, K, ?_, hK K (Nat.le_refl _)⟩
    unfold ints_Dot.f
    rw [if_pos he, if_pos (by simp [f0, f1]; omega)]
  · refine ⟨0, 1, 0, ?_, refDot_ne l0 l1 he 0⟩
    unfold ints_Dot.f
    rw [if_neg he]
theorem roots_same (a : Int) (ha : fits a) : ∃ s1 s2 k k', ints_Root.f k a = some (s1, s2) ∧ jigsawref01_Root.f k' a = some (s1, s2) := by
  by_cases h0 : 0 ≤ a
  · obtain ⟨r, hr, K, hK⟩ := ints_Root.spec a h0 ha
    obtain ⟨s, hs, K', hK'⟩ := refRoot.spec a h0 ha
    obtain rfl := root_one hr hs
    exact ⟨r, 0, K, K', hK K (Nat.le_refl _), hK' K' (Nat.le_refl _)⟩
  · refine ⟨0, 1, 0, 0, ?_, ?_⟩
    · unfold ints_Root.f; rw [if_pos (by omega)]
    · unfold jigsawref01_Root.f; rw [if_pos (by omega)]
theorem lent_reads {w : World} {b : Nat} {A : Option Addr} {c : Nat} {l : List Int} (h : Kd.R (Kd.int .i64) 2 w b (fun _ => True) (.slice A (l.length + 1) c) (l ++ [7777])) : Kd.C (Kd.int .i64) w A (l ++ [7777]).length (l ++ [7777]) ∧ l.length + 1 ≤ c := by
  obtain ⟨A', c', e, hc, hC⟩ := Kd.R_reads h
  injection e with e1 e2 e3
  subst e1 e3
  exact ⟨hC, by simpa using hc⟩
theorem lent_first {w : World} {A : Option Addr} {l : List Int} (hx : Kd.C (Kd.int .i64) w A (l ++ [7777]).length (l ++ [7777])) : Kd.C (Kd.int .i64) w A l.length l := by
  have hx' := Kd.C_take (m := l.length) hx (by simp)
  rw [List.take_left' rfl] at hx'
  exact hx'
theorem below_then {w0 w1 w2 : World} (h : Below w0.heap.size w0 w1) (k : Below w1.heap.size w1 w2) : Below w0.heap.size w0 w2 := h.trans (k.mono h.size)
set_option maxHeartbeats 8000000 in
set_option maxRecDepth 100000 in
theorem jigsawlaw01_IntsDots.calls (A0 : Option Addr) (c0 : Nat) (l0 : List Int) (A1 : Option Addr) (c1 : Nat) (l1 : List Int) (a2 : Int) (r : Bool) (w : World) (hr0 : Kd.C (Kd.int .i64) w A0 l0.length l0) (hc0 : l0.length ≤ c0) (hr1 : Kd.C (Kd.int .i64) w A1 l1.length l1) (hc1 : l1.length ≤ c1) (h : jigsawlaw01_IntsDots.f l0 l1 a2 = some r) :
    Calls Try.prog 8 #[.slice A0 l0.length c0, .slice A1 l1.length c1, .int .i64 a2] w fun e w' => e = .returned (.bool r) ∧ Below w.heap.size w w' := by
  unfold jigsawlaw01_IntsDots.f at h
  by_cases hc : l0.length < 17592186044415 ∧ l1.length < 17592186044415 ∧ allFit l0 = true ∧ allFit l1 = true ∧ fits a2
  · rw [if_pos hc] at h
    obtain rfl := Option.some.inj h
    clear h
    obtain ⟨hn0, hn1, hf0, hf1, hfa⟩ := hc
    obtain ⟨q1, q2, k1, hq, hq'⟩ := dots_same l0 l1 hn0 hf0 hf1
    obtain ⟨s1, s2, k2, k3, hs, hs'⟩ := roots_same a2 hfa
    obtain ⟨k4, hk4⟩ := same_self l0 (by omega)
    obtain ⟨k5, hk5⟩ := same_self l1 (by omega)
    have HL0 := Lib.hid (lentF_some l0 hn0); have HL1 := Lib.hid (lentF_some l1 hn1)
    have HQ := Lib.hid hq; have HQ' := Lib.hid hq'; have HS := Lib.hid hs; have HS' := Lib.hid hs'; have HK4 := Lib.hid hk4; have HK5 := Lib.hid hk5
    have HR0 := Lib.hid hr0; have HR1 := Lib.hid hr1
    have HKN := Lib.hid (known 0)
    clear hq hq' hs hs' hk4 hk5 hr0 hr1 hf0 hf1 hfa
    go_enter Try.func8, Try.ntmps8
    go_wp2_with fail
    refine (lent_calls A0 _ l0 l0 w HR0.out (by omega) HL0.out).mono ?_
    rintro e w1 ⟨X, cx, rfl, hx, hb1⟩
    have HX := Lib.hid hx; have HB1 := Lib.hid hb1
    clear hx hb1
    go_wp2_with fail
    refine (lent_calls A1 _ l1 l1 w1 (Kd.C_below HR1.out HB1.out) (by omega) HL1.out).mono ?_
    rintro e w2 ⟨Y, cy, rfl, hy, hb2⟩
    obtain ⟨hxA, hxc⟩ := lent_reads HX.out
    obtain ⟨hyA, hyc⟩ := lent_reads hy
    have HXA := Lib.hid (Kd.C_below hxA hb2); have HYA := Lib.hid hyA
    have HB2 := Lib.hid (below_then HB1.out hb2)
    clear hxA hyA hy HX hb2
    go_wp2_with fail
    refine (ints_Dot.calls X _ l0 Y _ l1 q1 q2 w2 (lent_first HXA.out) (by omega) (lent_first HYA.out) (by omega) HQ.out).mono ?_
    rintro e w3 ⟨rfl, hb3⟩
    have HXB := Lib.hid (Kd.C_below HXA.out hb3); have HYB := Lib.hid (Kd.C_below HYA.out hb3); have HB3 := Lib.hid (below_then HB2.out hb3)
    clear hb3 HXA HYA HB2
    go_wp2_with fail
    refine (jigsawref01_Dot.calls k1 A0 _ l0 A1 _ l1 q1 q2 w3 (Kd.C_below HR0.out HB3.out) (by omega) (Kd.C_below HR1.out HB3.out) (by omega) HQ'.out).mono ?_
    rintro e w4 ⟨rfl, hb4⟩
    have HXC := Lib.hid (Kd.C_below HXB.out hb4); have HYC := Lib.hid (Kd.C_below HYB.out hb4); have HB4 := Lib.hid (below_then HB3.out hb4)
    clear hb4 HXB HYB HB3
    go_wp2_with fail
    refine (ints_Root.calls k2 a2 s1 s2 w4 HS.out).mono ?_
    rintro e w5 ⟨rfl, hd5⟩
    have HD5 := Lib.hid hd5
    clear hd5
    go_wp2_with fail
    refine (jigsawref01_Root.calls k3 a2 s1 s2 w5 HS'.out).mono ?_
    rintro e w6 ⟨rfl, hd6⟩
    have HB6 := Lib.hid (below_then HD5.out.below hd6.below)
    clear hd6 HD5
    go_wp2_with fail
    have HB7 := Lib.hid (below_then HB4.out HB6.out)
    refine (kept_calls k4 X cx A0 c0 l0 w6 (Kd.C_below HXC.out HB6.out) hxc (Kd.C_below HR0.out HB7.out) hc0 HK4.out (by omega)).mono ?_
    rintro e w7 ⟨rfl, hd7⟩
    have HB8 := Lib.hid (below_then HB6.out hd7.below); have HB9 := Lib.hid (below_then HB7.out hd7.below)
    clear hd7
    go_wp2_with fail
    refine (kept_calls k5 Y cy A1 c1 l1 w7 (Kd.C_below HYC.out HB8.out) hyc (Kd.C_below HR1.out HB9.out) hc1 HK5.out (by omega)).mono ?_
    rintro e w8 ⟨rfl, hd8⟩
    have HBa := Lib.hid (below_then HB9.out hd8.below)
    clear hd8
    go_wp2_with fail
    refine (jigsawlaw01_known.calls (0 + 1) true w8 HKN.out).mono ?_
    rintro e w9 ⟨rfl, hb9⟩
    have HBb := Lib.hid (below_then HBa.out hb9)
    clear hb9
    go_wp2_with fail
    go_ret
    exact ⟨rfl, HBb.out⟩
  · rw [if_neg hc] at h; cases h

end Go.Proofs.Ytfkbkcdiajjljaa.PD
