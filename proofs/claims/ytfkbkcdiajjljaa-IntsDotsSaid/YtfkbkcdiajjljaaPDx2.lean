/- The functions that these laws reach, each as a Lean function, with the proof that the Go code comes to what it answers: for every input for which it answers. Text by a program for this claim. -/
import Derived.Test.YtfkbkcdiajjljaaPDx0
import Derived.Test.YtfkbkcdiajjljaaPAx0
import Derived.Test.YtfkbkcdiajjljaaPAx1
import Derived.Laws.Externs
import Derived.Laws.BitsAllLaws
import Derived.Lib.Hide
import Derived.Test.YtfkbkcdiajjljaaSpec
namespace Go.Proofs.Ytfkbkcdiajjljaa.PD
open Go.RowKit Go.Proofs.Ytfkbkcdiajjljaa.PA Go.Proofs.YtfkbkcdiajjljaaW.PrintWords Go.Proofs.YtfkbkcdiajjljaaW.PrintLast Go.Proofs.YtfkbkcdiajjljaaW.PrintMore
attribute [local go_sem] max2_int min2_int max_two min_two max_three min_three max_four min_four   -- for this text's walks alone
set_option linter.unusedVariables false
set_option linter.unusedSimpArgs false

-- MAKING
open Go.Proofs.Ytfkbkcdiajjljaa.Spec
theorem add64_run (x y c : Int) (hx : 0 ≤ x) (hy : 0 ≤ y) (hc0 : 0 ≤ c) (hc : c ≤ 1) (w : World) :
    (callFunc 51 #[.int .u64 x, .int .u64 y, .int .u64 c]).run Try.prog w =
      .ok (.value (.tuple #[.int .u64 ((x + y + c) % 18446744073709551616), .int .u64 ((x + y + c) / 18446744073709551616)])) w := by
  rw [run_callFunc_extern (e := add64Entry) Try.func51 (by kernel_rfl) (by kernel_rfl) (by kernel_rfl) (by kernel_rfl), run_add64 x y c hx hy hc0 hc]
  rfl
def u64ok (x : Int) : Prop := 0 ≤ x ∧ x < 18446744073709551616
def cyc (c0 : Int) (wf pf : Nat → Int) : Nat → Int
  | 0 => c0
  | k + 1 => (wf k + pf k + cyc c0 wf pf k) / 18446744073709551616
def cel (c0 : Int) (wf pf : Nat → Int) (j k : Nat) : Int := if j < k then (wf j + pf j + cyc c0 wf pf j) % 18446744073709551616 else wf j
theorem cyc_bit (c0 : Int) (hc0 : 0 ≤ c0 ∧ c0 ≤ 1) (wf pf : Nat → Int) (hw : ∀ j, u64ok (wf j)) (hp : ∀ j, u64ok (pf j)) : ∀ k, 0 ≤ cyc c0 wf pf k ∧ cyc c0 wf pf k ≤ 1
  | 0 => hc0
  | k + 1 => by
    have h := cyc_bit c0 hc0 wf pf hw hp k
    have h1 := hw k
    have h2 := hp k
    unfold u64ok at h1 h2
    simp only [cyc]
    omega
def row3 (f : Nat → Int) : Obj := .cells #[.int .u64 (f 0), .int .u64 (f 1), .int .u64 (f 2)] 49 (0, 0)
theorem row3_cell {w : World} {g : Nat} {f : Nat → Int} (h : w.heap[g]? = some (row3 f)) (k : Nat) (hk : k < 3) : w.cell? ⟨g, k, none⟩ = some (.int .u64 (f k)) := by
  obtain rfl | rfl | rfl : k = 0 ∨ k = 1 ∨ k = 2 := by omega
  · exact (blk_cell h 0).trans rfl
  · exact (blk_cell h 1).trans rfl
  · exact (blk_cell h 2).trans rfl
theorem row3_put {w : World} {g : Nat} {f : Nat → Int} (h : w.heap[g]? = some (row3 f)) (k : Nat) (hk : k < 3) (v : Int) : (w.setCell ⟨g, k, none⟩ (.int .u64 v)).heap[g]? = some (row3 (fun j => if j = k then v else f j)) := by
  obtain rfl | rfl | rfl : k = 0 ∨ k = 1 ∨ k = 2 := by omega
  · exact blk_put h 0 _ rfl
  · exact blk_put h 1 _ rfl
  · exact blk_put h 2 _ rfl
theorem cel_succ (c0 : Int) (wf pf : Nat → Int) (k : Nat) : (fun j => cel c0 wf pf j (k + 1)) = fun j => if j = k then (wf k + pf k + cyc c0 wf pf k) % 18446744073709551616 else cel c0 wf pf j k := by
  funext j
  unfold cel
  by_cases h : j = k
  · subst h; simp
  · rw [if_neg h]
    by_cases h2 : j < k
    · rw [if_pos h2, if_pos (by omega)]
    · rw [if_neg h2, if_neg (by omega)]
theorem row3_frozen {w : World} {g : Nat} {f : Nat → Int} (h : w.heap[g]? = some (row3 f)) (k : Nat) : w.frozen? ⟨g, k, none⟩ = false := blk_frozen h k
theorem cel_zero (c0 : Int) (wf pf : Nat → Int) : (fun j => cel c0 wf pf j 0) = wf := by funext j; unfold cel; rw [if_neg (by omega)]
theorem cel_ok (c0 : Int) (wf pf : Nat → Int) (hw : ∀ j, u64ok (wf j)) (j k : Nat) : u64ok (cel c0 wf pf j k) := by
  unfold cel
  split
  · unfold u64ok; omega
  · exact hw j
def val3 (f : Nat → Int) : Int := f 0 + 18446744073709551616 * f 1 + 340282366920938463463374607431768211456 * f 2
theorem val3_cel (c0 : Int) (wf pf : Nat → Int) : val3 (fun j => cel c0 wf pf j 3) + 6277101735386680763835789423207666416102355444464034512896 * cyc c0 wf pf 3 = val3 wf + val3 pf + c0 := by
  unfold val3 cel
  simp only [Nat.reduceLT, if_true, cyc]
  omega
theorem not64 (x : Int) (h : u64ok x) : bits BinOp.xor IntKind.u64 IntKind.u64.max x = 18446744073709551615 - x := by
  obtain ⟨n, rfl⟩ := Int.eq_ofNat_of_zero_le h.1
  have hn : n < 18446744073709551616 := by have := h.2; omega
  rw [show IntKind.u64.max = ((18446744073709551615 : Nat) : Int) from rfl, u64_xor_nat _ _ (by decide) hn]
  have e : 18446744073709551615 ^^^ n = 18446744073709551615 - n := by
    apply Nat.eq_of_testBit_eq
    intro i
    rw [Nat.testBit_xor, show (18446744073709551615 : Nat) - n = 2 ^ 64 - (n + 1) by omega, Nat.testBit_two_pow_sub_succ (by omega : n < 2 ^ 64), show (18446744073709551615 : Nat) = 2 ^ 64 - 1 from rfl, Nat.testBit_two_pow_sub_one]
    by_cases hi : i < 64
    · simp [hi]
    · have : n.testBit i = false := Nat.testBit_lt_two_pow (Nat.lt_of_lt_of_le (by omega : n < 2 ^ 64) (Nat.pow_le_pow_right (by decide) (by omega)))
      simp [hi, this]
  rw [e]
  omega
def three (x y z : Int) : Nat → Int
  | 0 => x
  | 1 => y
  | 2 => z
  | _ => 0
theorem three_ok {x y z : Int} (hx : u64ok x) (hy : u64ok y) (hz : u64ok z) : ∀ j, u64ok (three x y z j)
  | 0 => hx
  | 1 => hy
  | 2 => hz
  | _ + 3 => by show (0 : Int) ≤ 0 ∧ (0 : Int) < 18446744073709551616; decide
theorem drawn_heap {w w' : World} (h : Drawn0 w w') : w'.heap = w.heap := by
  obtain ⟨n, rfl⟩ := h
  rfl
theorem drawn_below {w0 w w' : World} (h : Drawn0 w w') (hB : Below w0.heap.size w0 w) : Below w0.heap.size w0 w' := by
  obtain ⟨n, rfl⟩ := h
  exact pw_below_drewN hB n
theorem row3_three {w : World} {g : Nat} {f : Nat → Int} (h : w.heap[g]? = some (row3 f)) (x y z : Int) :
    (((w.setCell ⟨g, 0, none⟩ (.int .u64 x)).setCell ⟨g, 1, none⟩ (.int .u64 y)).setCell ⟨g, 2, none⟩ (.int .u64 z)).heap[g]? = some (row3 (three x y z)) :=
  blk_put (blk_put (blk_put h 0 _ rfl) 1 _ rfl) 2 _ rfl
theorem far3 (w : World) {g s : Nat} (h : g ≠ s) (x y z : Value) :
    (((w.setCell ⟨s, 0, none⟩ x).setCell ⟨s, 1, none⟩ y).setCell ⟨s, 2, none⟩ z).heap[g]? = w.heap[g]? := by
  rw [Below.heap_setCell _ _ _ _ h, Below.heap_setCell _ _ _ _ h, Below.heap_setCell _ _ _ _ h]
theorem below3 {w0 w : World} {s : Nat} (h : Below w0.heap.size w0 w) (hs : w0.heap.size ≤ s) (x y z : Value) :
    Below w0.heap.size w0 (((w.setCell ⟨s, 0, none⟩ x).setCell ⟨s, 1, none⟩ y).setCell ⟨s, 2, none⟩ z) :=
  ((h.setCell (p := ⟨s, 0, none⟩) hs _).setCell (p := ⟨s, 1, none⟩) hs _).setCell (p := ⟨s, 2, none⟩) hs _
theorem neg_val (L H p v c ab : Int) (hLH : L + 18446744073709551616 * H = p) (hab : ab = -p) (hv : v + 6277101735386680763835789423207666416102355444464034512896 * c = val3 (three (18446744073709551615 - L) (18446744073709551615 - H) 18446744073709551615) + val3 (fun _ => 0) + 1) :
    v = ab + 6277101735386680763835789423207666416102355444464034512896 * (1 - c) := by
  have e1 : val3 (three (18446744073709551615 - L) (18446744073709551615 - H) 18446744073709551615) = (18446744073709551615 - L) + 18446744073709551616 * (18446744073709551615 - H) + 340282366920938463463374607431768211456 * 18446744073709551615 := rfl
  have e2 : val3 (fun _ => 0) = 0 := rfl
  rw [e1, e2] at hv
  omega
theorem zero_ok : ∀ _j : Nat, u64ok ((fun _ => (0 : Int)) _j) := fun _ => by show (0 : Int) ≤ 0 ∧ (0 : Int) < 18446744073709551616; decide
set_option maxRecDepth 100000 in
set_option maxHeartbeats 4000000 in
theorem wide_add (w0 : World) (a b : Int) (wf : Nat → Int) (g : Nat) (w : World) (hB0 : Below w0.heap.size w0 w) (hg0 : w0.heap.size ≤ g) (ha : fits a) (hb : fits b) (hg : w.heap[g]? = some (row3 wf)) (hw : ∀ j, u64ok (wf j)) :
    Calls Try.prog 45 #[.pointer (some ⟨g, 0, none⟩), .int .i64 a, .int .i64 b] w fun e w' => ∃ vf : Nat → Int, e = .returned (.tuple #[]) ∧ w'.heap[g]? = some (row3 vf) ∧ (∀ j, u64ok (vf j)) ∧ (∃ t : Int, val3 vf = val3 wf + a * b + 6277101735386680763835789423207666416102355444464034512896 * t) ∧ Below w0.heap.size w0 w' := by
  have s1 := ints_size.spec a ha
  have s2 := ints_size.spec b hb
  have n1 := natAbs_range a ha
  have n2 := natAbs_range b hb
  have m1 := bits_Mul64.spec _ _ n1 n2
  have hL : u64ok ((a.natAbs : Int) * (b.natAbs : Int) % 18446744073709551616) := ⟨Int.emod_nonneg _ (by decide), Int.emod_lt_of_pos _ (by decide)⟩
  have hpr : 0 ≤ (a.natAbs : Int) * (b.natAbs : Int) ∧ (a.natAbs : Int) * (b.natAbs : Int) < 340282366920938463463374607431768211456 := by
    refine ⟨Int.mul_nonneg n1.1 n2.1, ?_⟩
    have := Int.mul_le_mul (show (a.natAbs : Int) ≤ 18446744073709551615 by omega) (show (b.natAbs : Int) ≤ 18446744073709551615 by omega) n2.1 (by decide)
    omega
  have hH : u64ok ((a.natAbs : Int) * (b.natAbs : Int) / 18446744073709551616) := by
    generalize (a.natAbs : Int) * (b.natAbs : Int) = z at hpr ⊢
    unfold u64ok
    omega
  have hLH : (a.natAbs : Int) * (b.natAbs : Int) % 18446744073709551616 + 18446744073709551616 * ((a.natAbs : Int) * (b.natAbs : Int) / 18446744073709551616) = (a.natAbs : Int) * (b.natAbs : Int) := Int.emod_add_mul_ediv _ _
  have hsg := sign_mul a b
  have S1 := Lib.hid s1; have S2 := Lib.hid s2; have M1 := Lib.hid m1
  have HG := Lib.hid hg; have HB0 := Lib.hid hB0; have HG0 := Lib.hid hg0
  have HLH := Lib.hid hLH; have HSG := Lib.hid hsg; have HL := Lib.hid hL; have HH := Lib.hid hH
  clear s1 s2 m1 n1 n2 hg hB0 hg0 hLH hsg hL hH hpr
  go_enter Try.func45, Try.ntmps45
  go_upto_if 28 with (fail)
  refine (ints_size.calls _ _ _ S1.out).mono ?_
  rintro e wa ⟨rfl, hda⟩
  go_upto_if 28 with (fail)
  refine (ints_size.calls _ _ _ S2.out).mono ?_
  rintro e wb ⟨rfl, hdb⟩
  go_upto_if 28 with (fail)
  refine (bits_Mul64.calls _ _ _ _ _ M1.out).mono ?_
  rintro e wc ⟨rfl, hdc⟩
  have heq : wc.heap = w.heap := by rw [drawn_heap hdc, drawn_heap hdb, drawn_heap hda]
  have hbc : Below w0.heap.size w0 wc := drawn_below hdc (drawn_below hdb (drawn_below hda HB0.out))
  have hgc : wc.heap[g]? = some (row3 wf) := by rw [heq]; exact HG.out
  have hlt : g < wc.heap.size := (Array.getElem?_eq_some_iff.1 hgc).1
  have HBC := Lib.hid hbc; have HGC := Lib.hid hgc; have HLT := Lib.hid hlt
  clear heq hbc hgc hlt hda hdb hdc S1 S2 M1 HG HB0
  generalize (a.natAbs : Int) * (b.natAbs : Int) % 18446744073709551616 = L at *
  generalize (a.natAbs : Int) * (b.natAbs : Int) / 18446744073709551616 = H at *
  go_upto_if 28 with (fail)
  have hsB : (wc.alloc (.cells #[.int .u64 L, .int .u64 H, .int .u64 0] 49)).heap[wc.heap.size]? = some (row3 (three L H 0)) := by
    rw [World.alloc_heap_new]; rfl
  have hgB : (wc.alloc (.cells #[.int .u64 L, .int .u64 H, .int .u64 0] 49)).heap[g]? = some (row3 wf) := (Below.heap_alloc wc _ g HLT.out).trans HGC.out
  have hBB : Below w0.heap.size w0 (wc.alloc (.cells #[.int .u64 L, .int .u64 H, .int .u64 0] 49)) := below_alloc HBC.out _
  have hs0 : w0.heap.size ≤ wc.heap.size := HBC.out.size
  have hne : wc.heap.size ≠ g := by have := HLT.out; omega
  have HSB := Lib.hid hsB; have HGB := Lib.hid hgB; have HBB := Lib.hid hBB; have HS0 := Lib.hid hs0; have HNE := Lib.hid hne
  clear hsB hgB hBB hs0 hne HBC HGC HLT
  generalize wc.alloc _ = W1 at *
  generalize wc.heap.size = sB at *
  have hsg := HSG.out
  change (if (!(decide (a < 0) == decide (b < 0))) = true then _ else _) = _ at hsg
  clear HSG
  generalize (!(decide (a < 0) == decide (b < 0))) = sg at *
  have HSG := Lib.hid hsg
  clear hsg
  go_cut [] (fun wr => ∃ pf : Nat → Int, wr.heap[sB]? = some (row3 pf) ∧ (∀ j, u64ok (pf j)) ∧ wr.heap[g]? = some (row3 wf) ∧ Below w0.heap.size w0 wr ∧ ∃ t : Int, val3 pf = a * b + 6277101735386680763835789423207666416102355444464034512896 * t)
  case first =>
    clear hw
    cases sg with
    | true =>
      have hab : a * b = -((a.natAbs : Int) * (b.natAbs : Int)) := by have := HSG.out; rw [if_pos rfl] at this; exact this.symm
      have HAB := Lib.hid hab
      have hx1 := not64 L HL.out
      have hx2 := not64 H HH.out
      have HX1 := Lib.hid hx1; have HX2 := Lib.hid hx2
      clear hab hx1 hx2 HSG
      have c0 := row3_cell HSB.out 0 (by decide)
      have c1 := row3_cell HSB.out 1 (by decide)
      have c2 := row3_cell HSB.out 2 (by decide)
      have f0 := row3_frozen HSB.out 0
      have f1 := row3_frozen HSB.out 1
      have f2 := row3_frozen HSB.out 2
      go_wp2_with fail
      generalize bits BinOp.xor IntKind.u64 IntKind.u64.max L = q0 at *
      generalize bits BinOp.xor IntKind.u64 IntKind.u64.max H = q1 at *
      have r1 := row3_three HSB.out q0 q1 18446744073709551615
      have r2 := (far3 W1 (g := g) (s := sB) (fun x => HNE.out x.symm) (.int .u64 q0) (.int .u64 q1) (.int .u64 18446744073709551615)).trans HGB.out
      have r3 := below3 HBB.out HS0.out (.int .u64 q0) (.int .u64 q1) (.int .u64 18446744073709551615)
      have R1 := Lib.hid r1; have R2 := Lib.hid r2; have R3 := Lib.hid r3
      clear r1 r2 r3 c0 c1 c2 f0 f1 f2
      generalize World.setCell _ ⟨sB, 2, none⟩ _ = W2 at *
      have hq : ∀ j, u64ok (three q0 q1 18446744073709551615 j) := three_ok (by rw [HX1.out]; have := HL.out; unfold u64ok at *; omega) (by rw [HX2.out]; have := HH.out; unfold u64ok at *; omega) (by unfold u64ok; decide)
      have HQ := Lib.hid hq; clear hq
      go_loopw [34, 9] (fun i c wr => ∃ k : Nat, k ≤ 3 ∧ i = .int .i64 k ∧ c = .int .u64 (cyc 1 (three q0 q1 18446744073709551615) (fun _ => 0) k) ∧ Hid (wr.heap[sB]? = some (row3 (fun j => cel 1 (three q0 q1 18446744073709551615) (fun _ => 0) j k))) ∧ Hid (wr.heap[g]? = some (row3 wf)) ∧ Hid (Below w0.heap.size w0 wr)) (fun i _ _ => 3 - (intOf i).toNat)
      case atStart => exact ⟨0, by omega, rfl, rfl, Lib.hid (by rw [cel_zero]; exact R1.out), R2, R3⟩
      case round =>
        obtain ⟨k, hk, rfl, rfl, h1, h2, h3⟩ := hrel
        by_cases hlt : k < 3
        · have cs := row3_cell h1.out k hlt
          have fs := row3_frozen h1.out k
          have hb := cyc_bit 1 (by decide) _ _ HQ.out zero_ok k
          have ha64 := add64_run (three q0 q1 18446744073709551615 k) 0 (cyc 1 (three q0 q1 18446744073709551615) (fun _ => 0) k) (HQ.out k).1 (by decide) hb.1 hb.2
          have e : cel 1 (three q0 q1 18446744073709551615) (fun _ => 0) k k = three q0 q1 18446744073709551615 k := by unfold cel; rw [if_neg (by omega)]
          rw [e] at cs
          clear e hb
          have hput := row3_put h1.out k hlt ((three q0 q1 18446744073709551615 k + 0 + cyc 1 (three q0 q1 18446744073709551615) (fun _ => 0) k) % 18446744073709551616)
          rw [← cel_succ 1 (three q0 q1 18446744073709551615) (fun _ => 0) k] at hput
          have hcy : cyc 1 (three q0 q1 18446744073709551615) (fun _ => 0) (k + 1) = (three q0 q1 18446744073709551615 k + 0 + cyc 1 (three q0 q1 18446744073709551615) (fun _ => 0) k) / 18446744073709551616 := rfl
          have hfar := fun v => Below.heap_setCell wr ⟨sB, k, none⟩ v g (fun x => HNE.out x.symm)
          have hbk := fun v => (h3.out.setCell (p := ⟨sB, k, none⟩) HS0.out v)
          have HF := Lib.hid hfar; have HBK := Lib.hid hbk; clear hfar hbk
          have HPUT := Lib.hid hput; have HCY := Lib.hid hcy; clear hput hcy
          generalize cyc 1 (three q0 q1 18446744073709551615) (fun _ => 0) k = ck at *
          generalize three q0 q1 18446744073709551615 k = wk at *
          rw [Int.add_zero] at ha64 HPUT HCY
          go_wp2_with fail
          go_roundw
          case rel => exact ⟨k + 1, by omega, by go_num, by rw [HCY.out], HPUT, Lib.hid ((HF.out _).trans h2.out), Lib.hid (HBK.out _)⟩
          case measure => simp [intOf]; omega
        · obtain rfl : k = 3 := by omega
          go_wp2_with fail
          go_meet
          case rel =>
            refine ⟨fun j => cel 1 (three q0 q1 18446744073709551615) (fun _ => 0) j 3, h1.out, fun j => cel_ok 1 _ _ HQ.out j 3, h2.out, h3.out, 1 - cyc 1 (three q0 q1 18446744073709551615) (fun _ => 0) 3, ?_⟩
            have hv := val3_cel 1 (three q0 q1 18446744073709551615) (fun _ => 0)
            rw [HX1.out, HX2.out] at hv ⊢
            exact neg_val L H _ _ _ _ HLH.out HAB.out hv
    | false =>
      have hab : a * b = (a.natAbs : Int) * (b.natAbs : Int) := by have := HSG.out; rw [if_neg (by decide)] at this; exact this.symm
      have HAB := Lib.hid hab; clear hab HSG
      go_wp2_with fail
      go_meet
      case rel =>
        refine ⟨three L H 0, HSB.out, three_ok HL.out HH.out (by unfold u64ok; decide), HGB.out, HBB.out, 0, ?_⟩
        rw [HAB.out, ← HLH.out]
        show L + 18446744073709551616 * H + 340282366920938463463374607431768211456 * 0 = _
        omega
  case rest =>
    obtain ⟨pf, hps, hp, hgs, hbr, t, ht⟩ := hcut
    have Hw := Lib.hid hw; have Hp := Lib.hid hp
    have HPS := Lib.hid hps; have HGS := Lib.hid hgs; have HBR := Lib.hid hbr; have HT := Lib.hid ht
    clear hw hp hps hgs hbr ht
    go_wp2_with fail
    go_loopw [48, 11] (fun i c wr => ∃ k : Nat, k ≤ 3 ∧ i = .int .i64 k ∧ c = .int .u64 (cyc 0 wf pf k) ∧ Hid (wr.heap[sB]? = some (row3 pf)) ∧ Hid (wr.heap[g]? = some (row3 (fun j => cel 0 wf pf j k))) ∧ Hid (Below w0.heap.size w0 wr)) (fun i _ _ => 3 - (intOf i).toNat)
    case atStart => exact ⟨0, by omega, rfl, rfl, HPS, Lib.hid (by rw [cel_zero]; exact HGS.out), HBR⟩
    case round =>
      obtain ⟨k, hk, rfl, rfl, h1, h2, h3⟩ := hrel
      by_cases hlt : k < 3
      · have cs := row3_cell h1.out k hlt
        have cg := row3_cell h2.out k hlt
        have fg := row3_frozen h2.out k
        have hb := cyc_bit 0 (by decide) wf pf Hw.out Hp.out k
        have ha64 := add64_run (wf k) (pf k) (cyc 0 wf pf k) (Hw.out k).1 (Hp.out k).1 hb.1 hb.2
        have e : cel 0 wf pf k k = wf k := by unfold cel; rw [if_neg (by omega)]
        rw [e] at cg
        clear e hb
        have hput := row3_put h2.out k hlt ((wf k + pf k + cyc 0 wf pf k) % 18446744073709551616)
        rw [← cel_succ] at hput
        have hcy : cyc 0 wf pf (k + 1) = (wf k + pf k + cyc 0 wf pf k) / 18446744073709551616 := rfl
        have hfar := fun v => Below.heap_setCell wr ⟨g, k, none⟩ v sB HNE.out
        have hbk := fun v => (h3.out.setCell (p := ⟨g, k, none⟩) HG0.out v)
        have HF := Lib.hid hfar; have HBK := Lib.hid hbk; clear hfar hbk
        have HPUT := Lib.hid hput; have HCY := Lib.hid hcy; clear hput hcy
        generalize cyc 0 wf pf k = ck at *
        generalize wf k = wk at *
        generalize pf k = pk at *
        go_wp2_with fail
        go_region_with (fail)
        all_goals
          go_wp2_with fail
          go_roundw
          case rel => exact ⟨k + 1, by omega, by go_num, by rw [HCY.out], Lib.hid ((HF.out _).trans h1.out), Lib.hid (blk_drew HPUT.out), Lib.hid (below_drew (HBK.out _))⟩
          case measure => simp [intOf]; omega
      · obtain rfl : k = 3 := by omega
        go_wp2_with fail
        go_end0
        refine ⟨_, rfl, h2.out, fun j => cel_ok 0 wf pf Hw.out j 3, ⟨t - cyc 0 wf pf 3, ?_⟩, h3.out⟩
        have hv := val3_cel 0 wf pf
        have ht := HT.out
        generalize val3 (fun j => cel 0 wf pf j 3) = v3 at *
        generalize val3 wf = vw at *
        generalize val3 pf = vp at *
        generalize cyc 0 wf pf 3 = c3 at *
        generalize a * b = ab at *
        omega
def dotN (l0 l1 : List Int) : Nat → Int
  | 0 => 0
  | k + 1 => dotN l0 l1 k + rd l0 k * rd l1 k
def allFit (l : List Int) : Bool := l.all (fun x => decide (fits x))
def ints_Dot.f (l0 l1 : List Int) : Option (Int × Int) := if l0.length = l1.length then (if (allFit l0 && allFit l1 && decide (l0.length < 17592186044416)) = true then some (reck (dotN l0 l1 l0.length)) else none) else some (0, 1)
theorem rd_fits {l : List Int} (h : allFit l = true) (i : Int) : fits (rd l i) := by
  unfold rd
  by_cases hi : i.toNat < l.length
  · rw [List.getD_eq_getElem?_getD, List.getElem?_eq_getElem hi]
    exact of_decide_eq_true (List.all_eq_true.1 h _ (List.getElem_mem hi))
  · rw [List.getD_eq_getElem?_getD, List.getElem?_eq_none (by omega)]; exact (by decide : fits 0)
theorem prod_bound {x y : Int} (hx : fits x) (hy : fits y) : -85070591730234615865843651857942052864 ≤ x * y ∧ x * y ≤ 85070591730234615865843651857942052864 := by
  have h := sign_mul x y
  have hp : (x.natAbs : Int) * (y.natAbs : Int) ≤ 85070591730234615865843651857942052864 := by
    unfold fits at hx hy
    have := Int.mul_le_mul (show (x.natAbs : Int) ≤ 9223372036854775808 by omega) (show (y.natAbs : Int) ≤ 9223372036854775808 by omega) (by omega) (by decide)
    omega
  have hn : 0 ≤ (x.natAbs : Int) * (y.natAbs : Int) := Int.mul_nonneg (by omega) (by omega)
  generalize (x.natAbs : Int) * (y.natAbs : Int) = p at *
  generalize x * y = q at *
  split at h <;> omega
theorem dotN_bound {l0 l1 : List Int} (h0 : allFit l0 = true) (h1 : allFit l1 = true) : ∀ k : Nat, -(85070591730234615865843651857942052864 * (k : Int)) ≤ dotN l0 l1 k ∧ dotN l0 l1 k ≤ 85070591730234615865843651857942052864 * (k : Int)
  | 0 => by simp [dotN]
  | k + 1 => by
    have h := dotN_bound h0 h1 k
    have hp := prod_bound (rd_fits h0 k) (rd_fits h1 k)
    simp only [dotN]
    generalize rd l0 k * rd l1 k = q at *
    generalize dotN l0 l1 k = d at *
    omega
theorem all_low (v : Int) (h : u64ok v) (hv : v < 9223372036854775808) : IntKind.u64.wrap (wrap64 v / 9223372036854775808) = 0 := by
  unfold u64ok at h
  rw [IntWalk.wrap64_in v (by omega), IntKind.wrap_u64]
  omega
theorem all_high (v : Int) (h : u64ok v) (hv : ¬ v < 9223372036854775808) : IntKind.u64.wrap (wrap64 v / 9223372036854775808) = 18446744073709551615 := by
  have e : wrap64 v = v - 18446744073709551616 := by unfold wrap64 u64ok at *; omega
  unfold u64ok at h
  rw [e, IntKind.wrap_u64]
  omega
theorem dot_end (v0 v1 v2 D t : Int) (h0 : u64ok v0) (h1 : u64ok v1) (h2 : u64ok v2) (hD : -1496577676626844588240573268701473812127674924007424 ≤ D ∧ D ≤ 1496577676626844588240573268701473812127674924007424)
    (h : v0 + 18446744073709551616 * v1 + 340282366920938463463374607431768211456 * v2 = D + 6277101735386680763835789423207666416102355444464034512896 * t) :
    (v1 = IntKind.u64.wrap (wrap64 v0 / 9223372036854775808) ∧ v2 = IntKind.u64.wrap (wrap64 v0 / 9223372036854775808) → reck D = (wrap64 v0, 0)) ∧
    (¬ (v1 = IntKind.u64.wrap (wrap64 v0 / 9223372036854775808) ∧ v2 = IntKind.u64.wrap (wrap64 v0 / 9223372036854775808)) → reck D = (0, 10)) := by
  by_cases hv : v0 < 9223372036854775808
  · rw [all_low v0 h0 hv]
    unfold u64ok at *
    have e : wrap64 v0 = v0 := IntWalk.wrap64_in _ (by omega)
    rw [e]
    constructor
    · rintro ⟨rfl, rfl⟩
      have : D = v0 := by omega
      subst this
      exact reck_pos (by unfold fits; omega)
    · intro hn
      refine reck_neg ?_
      unfold fits
      omega
  · rw [all_high v0 h0 hv]
    have e : wrap64 v0 = v0 - 18446744073709551616 := by unfold wrap64 u64ok at *; omega
    rw [e]
    clear e
    unfold u64ok at *
    constructor
    · rintro ⟨rfl, rfl⟩
      have : D = v0 - 18446744073709551616 := by omega
      subst this
      exact reck_pos (by unfold fits; omega)
    · intro hn
      refine reck_neg ?_
      unfold fits
      omega
theorem dot_fin {l0 l1 : List Int} (f0 : allFit l0 = true) (f1 : allFit l1 = true) (hl : l0.length < 17592186044416) {vf : Nat → Int} {t : Int} (hv : ∀ j, u64ok (vf j)) (h : val3 vf = dotN l0 l1 l0.length + 6277101735386680763835789423207666416102355444464034512896 * t) {r1 r2 : Int} (hr : reck (dotN l0 l1 l0.length) = (r1, r2)) :
    (vf 1 = IntKind.u64.wrap (wrap64 (vf 0) / 9223372036854775808) → vf 2 = IntKind.u64.wrap (wrap64 (vf 0) / 9223372036854775808) → r1 = wrap64 (vf 0) ∧ r2 = 0) ∧
    (¬ (vf 1 = IntKind.u64.wrap (wrap64 (vf 0) / 9223372036854775808) ∧ vf 2 = IntKind.u64.wrap (wrap64 (vf 0) / 9223372036854775808)) → r1 = 0 ∧ r2 = 10) := by
  have hb := dotN_bound f0 f1 l0.length
  have he := dot_end (vf 0) (vf 1) (vf 2) (dotN l0 l1 l0.length) t (hv 0) (hv 1) (hv 2) (by generalize dotN l0 l1 l0.length = d at *; omega) h
  rw [hr] at he
  exact ⟨fun a b => Prod.mk.inj (he.1 ⟨a, b⟩), fun n => Prod.mk.inj (he.2 n)⟩
set_option maxRecDepth 100000 in
set_option maxHeartbeats 4000000 in
theorem ints_Dot.calls (A0 : Option Addr) (c0 : Nat) (l0 : List Int) (A1 : Option Addr) (c1 : Nat) (l1 : List Int) (r1 : Int) (r2 : Int) (w : World) (hr0 : Kd.C (Kd.int .i64) w A0 l0.length l0) (hc0 : l0.length ≤ c0) (hr1 : Kd.C (Kd.int .i64) w A1 l1.length l1) (hc1 : l1.length ≤ c1) (h : ints_Dot.f l0 l1 = some (r1, r2)) :
    Calls Try.prog 32 #[.slice A0 l0.length c0, .slice A1 l1.length c1] w fun e w' => e = .returned (.tuple #[.int .i64 r1, .int .i64 r2]) ∧ Below w.heap.size w w' := by
  unfold ints_Dot.f at h
  by_cases hl : l0.length = l1.length
  · rw [if_pos hl] at h
    by_cases hok : (allFit l0 && allFit l1 && decide (l0.length < 17592186044416)) = true
    · rw [if_pos hok] at h
      simp only [Bool.and_eq_true, decide_eq_true_eq] at hok
      obtain ⟨⟨hf0, hf1⟩, hlen⟩ := hok
      have HR0 := Lib.hid hr0; have HR1 := Lib.hid hr1; have HF0 := Lib.hid hf0; have HF1 := Lib.hid hf1; have H := Lib.hid (Option.some.inj h)
      have hne : ((l0.length : Int) != (l1.length : Int)) = false := by simp [hl]
      have hne2 : (l0.length == l1.length) = true := by simp [hl]
      have HLE := Lib.hid hl
      clear hr0 hr1 hf0 hf1 h hl
      go_enter Try.func32, Try.ntmps32
      go_wp2_with fail
      have hs0 : (w.alloc (.cells #[.int .u64 0, .int .u64 0, .int .u64 0] 49)).heap[w.heap.size]? = some (row3 (fun _ => 0)) := by rw [World.alloc_heap_new]; rfl
      have hb0 : Below w.heap.size w (w.alloc (.cells #[.int .u64 0, .int .u64 0, .int .u64 0] 49)) := below_alloc (Below.refl _ _) _
      have HS := Lib.hid hs0; have HB := Lib.hid hb0
      clear hs0 hb0
      go_loopw [18] (fun i wr => ∃ (k : Nat) (vf : Nat → Int) (t : Int), k ≤ l0.length ∧ i = .int .i64 k ∧ Hid (wr.heap[w.heap.size]? = some (row3 vf)) ∧ Hid (∀ j, u64ok (vf j)) ∧ Hid (val3 vf = dotN l0 l1 k + 6277101735386680763835789423207666416102355444464034512896 * t) ∧ Hid (Below w.heap.size w wr)) (fun i _ => l0.length - (intOf i).toNat)
      case atStart => exact ⟨0, fun _ => 0, 0, by omega, rfl, HS, Lib.hid zero_ok, Lib.hid rfl, HB⟩
      case round =>
        obtain ⟨k, vf, t, hk, rfl, h1, h2, h3, h4⟩ := hrel
        by_cases hlt : k < l0.length
        · obtain ⟨a0, ea0, x0⟩ := Kd.at_int (Kd.C_below HR0.out h4.out) (k : Int) (by omega) (by omega)
          obtain ⟨a1, ea1, x1⟩ := Kd.at_int (Kd.C_below HR1.out h4.out) (k : Int) (by omega) (by have := HLE.out; omega)
          subst ea0
          subst ea1
          rw [Int.toNat_natCast] at x0 x1
          have hk1 : k < l1.length := by have := HLE.out; omega
          have hg0 : w.heap.size ≤ w.heap.size := Nat.le_refl _
          have HG0 := Lib.hid hg0
          clear hg0
          go_wp2_with fail
          refine (wide_add w _ _ vf w.heap.size wr h4.out HG0.out (rd_fits HF0.out k) (rd_fits HF1.out k) h1.out h2.out).mono ?_
          rintro e w2 ⟨vf2, rfl, z1, z2, ⟨t2, z3⟩, z4⟩
          have Z1 := Lib.hid z1; have Z2 := Lib.hid z2; have Z4 := Lib.hid z4
          have z5 : val3 vf2 = dotN l0 l1 (k + 1) + 6277101735386680763835789423207666416102355444464034512896 * (t + t2) := by
            rw [z3, h3.out]; simp only [dotN]
            generalize rd l0 k * rd l1 k = q
            generalize dotN l0 l1 k = d
            omega
          have Z5 := Lib.hid z5
          clear z1 z2 z3 z4 z5 x0 x1
          go_wp2_with fail
          go_roundw
          case rel => exact ⟨k + 1, vf2, t + t2, by omega, by go_num, Z1, Z2, Z5, Z4⟩
          case measure => simp [intOf]; omega
        · obtain rfl : k = l0.length := by omega
          have c0 := row3_cell h1.out 0 (by decide)
          have c1 := row3_cell h1.out 1 (by decide)
          have c2 := row3_cell h1.out 2 (by decide)
          have hfin := dot_fin HF0.out HF1.out hlen h2.out h3.out H.out
          have HFIN := Lib.hid hfin
          clear hfin
          go_wp2_with fail
          · have a1 : vf 1 = IntKind.u64.wrap (wrap64 (vf 0) / 9223372036854775808) := by assumption
            have a2 : (vf 2 != IntKind.u64.wrap (wrap64 (vf 0) / 9223372036854775808)) = true := by assumption
            obtain ⟨rfl, rfl⟩ := HFIN.out.2 (fun x => by rw [bne_iff_ne] at a2; exact a2 x.2)
            go_ret2
            exact ⟨rfl, h4.out⟩
          · have a1 : vf 1 = IntKind.u64.wrap (wrap64 (vf 0) / 9223372036854775808) := by assumption
            have a2 : (vf 2 != IntKind.u64.wrap (wrap64 (vf 0) / 9223372036854775808)) = false := by assumption
            obtain ⟨rfl, rfl⟩ := HFIN.out.1 a1 (by simpa using a2)
            go_ret2
            exact ⟨rfl, h4.out⟩
          · have a1 : ¬ vf 1 = IntKind.u64.wrap (wrap64 (vf 0) / 9223372036854775808) := by assumption
            obtain ⟨rfl, rfl⟩ := HFIN.out.2 (fun x => a1 x.1)
            go_ret2
            exact ⟨rfl, h4.out⟩
    · rw [if_neg hok] at h; cases h
  · rw [if_neg hl] at h
    have hne : ((l0.length : Int) != (l1.length : Int)) = true := by rw [bne_iff_ne]; omega
    have hne2 : (l0.length == l1.length) = false := by rw [beq_eq_false_iff_ne]; exact hl
    obtain ⟨rfl, rfl⟩ := Prod.mk.inj (Option.some.inj h)
    clear h hl
    go_enter Try.func32, Try.ntmps32
    go_wp2_with fail
    go_ret2
    exact ⟨rfl, Below.refl _ _⟩

end Go.Proofs.Ytfkbkcdiajjljaa.PD
