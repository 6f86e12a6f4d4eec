/- Parts of the laws of bits: functions of the program, each with the proof of what it answers; the conditions are those of each theorem. -/
import Derived.Test.YtfkbkcdiajjljaaDoorBy
namespace Go.Proofs.YtfkbkcdiajjljaaDoor.PBitsSteps
open Go.RowKit Go.Proofs.YtfkbkcdiajjljaaDoorW.PrintWords Go.Proofs.YtfkbkcdiajjljaaDoorW.PrintLast Go.Proofs.YtfkbkcdiajjljaaDoorW.PrintMore
set_option linter.unusedVariables false
set_option linter.unusedSimpArgs false
/-! ### BitsNil -/
/-- what bits.Of answers, in one word -/
theorem of_any (A : Option Addr) (c : Nat) (l : List S71) (w : World) (h : Kd.C k71 w A l.length l) (hc : l.length ≤ c) :
    Calls Tryd.prog 7 #[.slice A l.length c] w fun e w' => ((∃ x, x ≠ 0 ∧ e = .returned (.tuple #[.pointer none, .int .i64 x])) ∨ okS l = true ∧ ∃ g gp, e = .returned (.tuple #[setP g, .int .i64 0]) ∧ (w.heap.size ≤ g ∧ w.heap.size ≤ gp) ∧ SetAt w' g gp (firstS l) (lastS l - firstS l + 1) (inL (spanAll l))) ∧ Below w.heap.size w w' := by
  cases hN : okS l with
  | false => exact (of_dom A c l w h hc hN).mono fun _ _ ⟨he, hb⟩ => ⟨.inl ⟨20, by decide, he⟩, hb⟩
  | true =>
    by_cases hb : 65536 ≤ lastS l - firstS l
    · exact (of_full A c l w h hc hN hb).mono fun _ _ ⟨he, hb⟩ => ⟨.inl ⟨4, by decide, he⟩, hb⟩
    · exact (of_made A c l w h hc hN (by omega)).mono fun _ _ ⟨g, gp, he, h1, h2, h3⟩ => ⟨.inr ⟨rfl, g, gp, he, h1, h2⟩, h3⟩
theorem vals_some {l : List S71} (h : okS l = true) : anyOut (fun _ => false) (vals (inL (spanAll l)) (firstS l) (lastS l - firstS l + 1)) = true := by
  rw [vals_spanAll h]
  obtain ⟨b1, b2, b3, b4, b5, b6, b7⟩ := ok_bounds h
  cases l with
  | nil => cases b2
  | cons s t =>
    have hs := (right_mem b1).2.2 s (by simp)
    have : s.f0 ∈ spanAll (s :: t) := (mem_spanAll _ _).2 ⟨s, by simp, by omega, by omega⟩
    unfold anyOut
    rw [List.any_eq_true]
    exact ⟨_, this, rfl⟩
theorem anyOut_none (l : List Int) : anyOut (fun x => !(fun _ => false : Int → Bool) x) l = false := by
  unfold anyOut
  rw [List.any_eq_false]
  intro x _
  simp
theorem vals_none (M : Int → Bool) (hM : ∀ x, M x = false) (f r : Int) : (vals M f r).length = 0 := by
  unfold vals valsTo
  rw [List.length_eq_zero_iff, List.filter_eq_nil_iff]
  intro x _
  rw [hM x]
  simp
theorem OSet.none (W : World) : OSet W (.pointer .none) [] (fun _ => false) := .inl ⟨rfl, rfl, rfl⟩
theorem func_eqIn_nil (d : Nat) (fn : Fn) (a b : Array Value) (W : World) : (Op.equalIn (d + 1) 62 (.func fn a b) .nilFunc).run Tryd.prog W = .ok false W := by
  have h := Tryd.underlying62
  simp [Op.equalIn, run_underlying h]
theorem func_eq_nil (fn : Fn) (a b : Array Value) (W : World) : (Op.equal 62 (.func fn a b) .nilFunc).run Tryd.prog W = .ok false W := func_eqIn_nil 9999 fn a b W
theorem func_neq_nil (fn : Fn) (a b : Array Value) (W : World) : (binOp .neq 62 (.func fn a b) .nilFunc).run Tryd.prog W = .ok (.bool true) W := by
  simp only [binOp]
  simp [func_eq_nil]
attribute [local go_sem] Oper.semAt_some
open Go.Shelf in
set_option maxRecDepth 100000 in
set_option maxHeartbeats 16000000 in
theorem nil_calls (A : Option Addr) (c : Nat) (l : List S71) (v : Int) (w : World) (hL : TabLaid w) (hC : Kd.C k71 w A l.length l) (hc : l.length ≤ c) (hv : -9223372036854775808 ≤ v ∧ v ≤ 9223372036854775807) :
    Calls Tryd.prog 6 #[.int .i64 v, .slice A l.length c] w fun e w' => e = .returned (.bool true) ∧ Below w.heap.size w w' := by
  have hz : 0 < w.heap.size := World.block_lt_of_cell? w _ (hL 0 (by decide))
  have HC := Lib.hid hC; have HCC := Lib.hid hc; have HL := Lib.hid hL
  clear hC hc hL
  refine (callsIn_wide (n := 5)).1 ?_
  refine callsIn_of_wp_marks Tryd.func6 rfl trivial ?_ rfl
  simp only [Tryd.ntmps6, List.size_toArray, List.length_cons, List.length_nil, Nat.reduceAdd, Nat.reduceSub, Array.replicate_succ, Array.replicate_zero, List.push_toArray, List.append_toArray, List.nil_append, List.cons_append]
  refine wpIn_wide.2 ?_
  go_wp2_with fail
  refine (add_nil _ _).mono ?_
  rintro e w1 ⟨rfl, rfl⟩
  go_wp2_with fail
  refine (del_nil _ _).mono ?_
  rintro e w1 ⟨rfl, rfl⟩
  go_wp2_with fail
  refine (and_nil _ _).mono ?_
  rintro e w1 ⟨rfl, rfl⟩
  go_wp2_with fail
  refine (or_nil _ rfl _).mono ?_
  rintro e w2 ⟨rfl, hb2⟩
  have HB2 := Lib.hid hb2
  clear hb2
  go_wp2_with fail
  refine (minus_nil _ _).mono ?_
  rintro e w3 ⟨rfl, rfl⟩
  go_wp2_with fail
  refine (ranges_nil _).mono ?_
  rintro e w3 ⟨rfl, rfl⟩
  go_wp2_with fail
  refine (min_nil _).mono ?_
  rintro e w3 ⟨rfl, rfl⟩
  go_wp2_with fail
  refine (max_nil _).mono ?_
  rintro e w3 ⟨rfl, rfl⟩
  go_wp2_with fail
  refine (next_nil _ _).mono ?_
  rintro e w3 ⟨rfl, rfl⟩
  go_wp2_with fail
  have bxc := Boxed.new w3 3 (.int .i64 0)
  have hBc : Below w3.heap.size w3 (w3.alloc (.cells #[.int .i64 0] 3)) := (Below.refl _ _).alloc (Nat.le_refl _) _
  refine (each_nil _).mono ?_
  rintro e W0 ⟨B, rfl, k1, k2, k3⟩
  have hst := each_stops_nil (5 - 1) (by decide) B W0 k2 (fun x : Empty => x.elim) (fun _ _ => True)
  have HBX := Lib.hid (boxed_below bxc k3); have HBW := Lib.hid (below_step (below_step HB2.out hBc) k3)
  have hws := k3.size
  rw [World.size_alloc] at hws
  have hw13 := HB2.out.size
  clear k1 k2 k3 bxc hBc
  go_wp2_with fail
  rw [func_neq_nil]
  go_wp2_with fail
  refine (wpIn_wide (n := 5)).1 ?_
  refine wpIn_rangeFunc_ownF rfl (by decide) (gf := 61) (lb := #[.pointer (some ⟨B, 0, none⟩)]) rfl trivial (enters_of Tryd.func61 (by kernel_rfl) rfl)
    hst (fun _ _ => trivial) (fun _ _ _ _ _ _ _ _ => trivial)
    (Below.refl _ _) (fun x => x.elim)
    (fun (pre : List Empty) W => Boxed W w3.heap.size 3 (.int .i64 0) ∧ Below w1.heap.size w1 W)
    (fun _ _ _ => False)
    (OwnFrom.and (Own.from (boxed_own w3.heap.size 3 (fun _ => .int .i64 0)) _) (ownFrom_below (Nat.le_refl _) (by omega)))
    (fun _ _ _ _ _ hs _ _ => hs)
    ⟨HBX.out, HBW.out⟩
    (fun x => x.elim) ?assign ?body ?done ?stop
  case assign => exact fun _ x => x.elim
  case body => exact fun _ _ _ _ _ h => absurd h (by omega)
  case stop =>
    rintro D c pre W _ _ h _
    exact h.elim
  case done =>
    rintro D xs W hD hS ⟨hba, hB⟩ hK
    have cA := hba.cell
    have HKD := Lib.hid hK; have HB4 := Lib.hid hB
    clear hst hS hba hB hK
    gi_wp2_with fail
    go_wp2_with fail
    refine (first_nil _).mono ?_
    rintro e wx ⟨rfl, hwx⟩
    obtain rfl := hwx
    go_wp2_with fail
    refine (room_nil _).mono ?_
    rintro e wx ⟨rfl, hwx⟩
    obtain rfl := hwx
    go_wp2_with fail
    refine (has_nil v _).mono ?_
    rintro e w5 ⟨rfl, hd5⟩
    have HB5 := Lib.hid (HB4.out.trans (drawn_below hd5))
    have HD5 := Lib.hid ((congrArg (fun h : Array Obj => h[D]?) (drawn_heap hd5)).trans HKD.out)
    clear hd5
    go_wp2_with fail
    refine (size_nil _).mono ?_
    rintro e wx ⟨rfl, hwx⟩
    obtain rfl := hwx
    go_wp2_with fail
    refine (copy_nil _).mono ?_
    rintro e wx ⟨rfl, hwx⟩
    obtain rfl := hwx
    go_wp2_with fail
    refine (same_nil_l _ rfl _).mono ?_
    rintro e w6 ⟨rfl, hb6⟩
    have HB6 := Lib.hid (below_step HB5.out hb6)
    have HD6 := Lib.hid ((hb6.block D (blk_lt HD5.out)).trans HD5.out)
    clear hb6
    go_wp2_with fail
    refine (words_nil _).mono ?_
    rintro e wx ⟨rfl, hwx⟩
    obtain rfl := hwx
    go_wp2_with fail
    have hD1 : w1.heap.size ≤ D := by have := HBW.out.size; omega
    refine (of_any A c l wx (Kd.C_below HC.out HB6.out) HCC.out).mono ?_
    rintro e w7 ⟨hres, hb7⟩
    have HB7 := Lib.hid (below_step HB6.out hb7)
    have HD7 := Lib.hid ((hb7.block D (blk_lt HD6.out)).trans HD6.out)
    have hsz6 := HB6.out.size
    have hD6 := blk_lt HD6.out
    clear hb7
    rcases hres with ⟨x, hx, rfl⟩ | ⟨hok, g, gp, rfl, ⟨k1, k2⟩, k3⟩
    · have hx2 : (x != 0) = true := by rw [bne_iff_ne]; exact hx
      go_wp2_with fail
      refine (known_calls w7 (tab_keep HL.out (HB7.out.block 0 hz))).mono ?_
      rintro e w8 ⟨rfl, hb8⟩
      have HB8 := Lib.hid (below_step HB7.out hb8)
      have hK := (hb8.block D (blk_lt HD7.out)).trans HD7.out
      clear hb8
      go_wp2_with fail
      refine ⟨by simp, .inl ⟨_, _, rfl, run_takeDeferred hK, ?_⟩⟩
      refine ⟨_, by simp [results, Tryd.results6, go_sem]; rfl, ?_⟩
      exact ⟨rfl, HB8.out.trans (belowK_b (w := w1) (Nat.le_refl _) w8 D _ _ hD1 hK rfl rfl)⟩
    · have U : setP g = .pointer (some ⟨g, 0, none⟩) := rfl
      have HS7 := Lib.hid k3; have HOK := Lib.hid hok
      clear k3 hok
      rw [U]
      go_wp2_with fail
      rw [← U]
      refine (SetAt.minus w1.heap.size HS7.out (tab_keep HL.out (HB7.out.block 0 hz)) (OSet.none _) (by omega) ⟨by omega, HB7.out.size⟩).mono ?_
      rintro e w8 ⟨rfl, q1, q2, q3⟩
      rw [anyOut_none]
      have HS8 := Lib.hid (q1.ext (M' := inL (spanAll l)) (fun x => by simp))
      have HB8 := Lib.hid (HB7.out.trans q3)
      have HD8 := Lib.hid ((q2.2 D (blk_lt HD7.out) (by simp; omega)).trans HD7.out)
      clear q1 q2 q3
      rw [U]
      go_wp2_with fail
      rw [← U]
      refine (or_none (g := g)).mono ?_
      rintro e w9 ⟨rfl, hb9⟩
      have HS9 := Lib.hid (HS8.out.below hb9)
      have HB9 := Lib.hid (below_step HB8.out hb9)
      have HD9 := Lib.hid ((hb9.block D (blk_lt HD8.out)).trans HD8.out)
      clear hb9
      rw [U]
      go_wp2_with fail
      rw [← U]
      refine (SetAt.and w1.heap.size HS9.out (tab_keep HL.out (HB9.out.block 0 hz)) (OSet.none _) (by omega) ⟨by omega, HB9.out.size⟩).mono ?_
      rintro e w10 ⟨rfl, q1, q2, q3⟩
      rw [vals_some HOK.out]
      have HS10 := Lib.hid (q1.ext (M' := fun _ => false) (fun x => by simp))
      have HB10 := Lib.hid (HB9.out.trans q3)
      have HD10 := Lib.hid ((q2.2 D (blk_lt HD9.out) (by simp; omega)).trans HD9.out)
      clear q1 q2 q3
      rw [U]
      go_wp2_with fail
      rw [← U]
      refine HS10.out.size.mono ?_
      rintro e w11 ⟨rfl, hb11⟩
      rw [vals_none _ (fun _ => rfl)]
      have HB11 := Lib.hid (below_step HB10.out hb11)
      have HD11 := Lib.hid ((hb11.block D (blk_lt HD10.out)).trans HD10.out)
      clear hb11
      rw [U]
      go_wp2_with fail
      rw [← U]
      refine (same_nil_r g _).mono ?_
      rintro e w12 ⟨rfl, hb12⟩
      have HB12 := Lib.hid (below_step HB11.out hb12)
      have HD12 := Lib.hid ((hb12.block D (blk_lt HD11.out)).trans HD11.out)
      clear hb12
      rw [U]
      go_wp2_with fail
      refine (same_nil_l _ rfl _).mono ?_
      rintro e w13 ⟨rfl, hb13⟩
      have HB13 := Lib.hid (below_step HB12.out hb13)
      have HD13 := Lib.hid ((hb13.block D (blk_lt HD12.out)).trans HD12.out)
      clear hb13
      go_wp2_with fail
      refine (known_calls w13 (tab_keep HL.out (HB13.out.block 0 hz))).mono ?_
      rintro e w14 ⟨rfl, hb14⟩
      have HB14 := Lib.hid (below_step HB13.out hb14)
      have hK := (hb14.block D (blk_lt HD13.out)).trans HD13.out
      clear hb14
      go_wp2_with fail
      refine ⟨by simp, .inl ⟨_, _, rfl, run_takeDeferred hK, ?_⟩⟩
      refine ⟨_, by simp [results, Tryd.results6, go_sem]; rfl, ?_⟩
      exact ⟨rfl, HB14.out.trans (belowK_b (w := w1) (Nat.le_refl _) w14 D _ _ hD1 hK rfl rfl)⟩

end Go.Proofs.YtfkbkcdiajjljaaDoor.PBitsSteps
