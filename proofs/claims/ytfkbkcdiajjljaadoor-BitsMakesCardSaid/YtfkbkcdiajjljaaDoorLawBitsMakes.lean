/- BitsMakes: whatever is handed in, the law answers true, and what was handed in reads as it did. Condition: the table of math/bits holds what its text says. -/
import Derived.Test.YtfkbkcdiajjljaaDoorBq
import Derived.Test.YtfkbkcdiajjljaaDoorBzcc
import Derived.Test.YtfkbkcdiajjljaaDoorRows
import Derived.Test.YtfkbkcdiajjljaaDoorTie
import Derived.Test.YtfkbkcdiajjljaaDoorCards
import Derived.ProofKit
import Derived.LaidMore
import Derived.OpenShut
import Derived.Stop.Joined
import Derived.SevenTiedAt
namespace Go.Proofs.YtfkbkcdiajjljaaDoor.PBitsSteps
open Go.RowKit Go.Proofs.YtfkbkcdiajjljaaDoorW.PrintWords Go.Proofs.YtfkbkcdiajjljaaDoorW.PrintLast Go.Proofs.YtfkbkcdiajjljaaDoorW.PrintMore
set_option linter.unusedVariables false
set_option linter.unusedSimpArgs false
theorem sized_ranges {H : Type} {enc : TypeId × Value → H} {W : World} {base : Nat} {spare : Nat → Bool} {held : Bool} {a : Option Addr} {len cap : Nat} {d : DataW H} {ps : List MemPlace} {ts : List TypeId} {ds : List (DataW H)} {j : Nat}
    (hsz : (DataW.weightsEach Tryd.prog ts ds).all (· ≤ reachBytes) = true) (ht : ts[j]? = some 22) (hd : ds[j]? = some d) (h : DataW.Trod enc Tryd.prog W base spare held 22 (.slice a len cap) d ps) : len * 16 ≤ 140737488351232 := by
  obtain ⟨fuel, hf⟩ := h
  rcases Go.Deep.open_slice Tryd.underlying22 hf with ⟨hcs, _⟩ | ⟨x, l, c, m, n, D, Pl, hcs, _, hl, _, hm, hx, _⟩
  · simp [Value.cells] at hcs
    obtain ⟨rfl, rfl, rfl⟩ := hcs
    simp
  · simp [Value.cells] at hcs
    obtain ⟨rfl, rfl, rfl⟩ := hcs
    obtain ⟨hx, _⟩ := Prod.mk.inj hx
    subst hx
    have z := sized_slice hsz ht hd Tryd.underlying22
    rw [show Tryd.prog.bytesOf 71 = 16 by kernel_rfl, List.length_map, List.length_map, List.length_range, List.length_range] at z
    exact Nat.le_trans (Nat.mul_le_mul_right _ (by omega)) z
/-! ### BitsMakes -/
theorem lent71F_some (l : List S71) (h : l.length < 8796093022207) : lent71F l = some l := by
  unfold lent71F
  rw [if_pos (by simpa using by omega)]
  simp only [List.nil_append, Option.bind_some, List.length_append, List.length_cons, List.length_nil]
  rw [if_pos (by omega), if_pos (by omega), if_pos (by omega)]
  simp
theorem lent71_reads {w : World} {b : Nat} {A : Option Addr} {c : Nat} {l : List S71} (h : Kd.R k71 71 w b (fun _ => True) (.slice A (l.length + 1) c) (l ++ [(⟨77, 7⟩ : S71)])) : Kd.C k71 w A (l ++ [(⟨77, 7⟩ : S71)]).length (l ++ [(⟨77, 7⟩ : S71)]) ∧ l.length + 1 ≤ c := by
  obtain ⟨A', c', e, hc, hC⟩ := Kd.R_reads h
  injection e with e1 e2 e3
  subst e1 e3
  exact ⟨hC, by simpa using hc⟩
theorem lent71_first {w : World} {A : Option Addr} {l : List S71} (hx : Kd.C k71 w A (l ++ [(⟨77, 7⟩ : S71)]).length (l ++ [(⟨77, 7⟩ : S71)])) : Kd.C k71 w A l.length l := by
  have hx' := Kd.C_take (m := l.length) hx (by simp)
  rw [List.take_left' rfl] at hx'
  exact hx'
theorem of_both (l : List S71) : (∃ x : Int, ∀ (A : Option Addr) (c : Nat) (w : World), Kd.C k71 w A l.length l → l.length ≤ c →
      (Calls Tryd.prog 7 #[.slice A l.length c] w fun e w' => e = .returned (.tuple #[.pointer none, .int .i64 x]) ∧ Below w.heap.size w w') ∧
      (Calls Tryd.prog 16 #[.slice A l.length c] w fun e w' => e = .returned (.tuple #[.pointer none, .int .i64 x]) ∧ Below w.heap.size w w')) ∨ (okS l = true ∧ lastS l - firstS l < 65536) := by
  cases hN : okS l with
  | false => exact .inl ⟨20, fun A c w h hc => ⟨of_dom A c l w h hc hN, refOf_dom A c l w h hc hN⟩⟩
  | true =>
    by_cases hb : 65536 ≤ lastS l - firstS l
    · exact .inl ⟨4, fun A c w h hc => ⟨of_full A c l w h hc hN hb, refOf_full A c l w h hc hN hb⟩⟩
    · exact .inr ⟨rfl, by omega⟩
theorem new_both (lo hi : Int) : (∃ x : Int, ∀ w : World,
      (Calls Tryd.prog 17 #[.int .i64 lo, .int .i64 hi] w fun e w' => e = .returned (.tuple #[.pointer none, .int .i64 x]) ∧ w' = w) ∧
      (Calls Tryd.prog 18 #[.int .i64 lo, .int .i64 hi] w fun e w' => e = .returned (.tuple #[.pointer none, .int .i64 x]) ∧ w' = w)) ∨ (-1000000 ≤ lo ∧ hi ≤ 1000000 ∧ lo ≤ hi ∧ hi - lo < 65536) := by
  by_cases h : lo < -1000000 ∨ hi > 1000000 ∨ lo > hi
  · exact .inl ⟨20, fun w => ⟨bits_New.bad lo hi w h, refNew_bad lo hi w h⟩⟩
  · by_cases hb : 65536 ≤ hi - lo
    · exact .inl ⟨4, fun w => ⟨bits_New.full lo hi w (by omega) (by omega) (by omega) hb, refNew_full lo hi w (by omega) (by omega) (by omega) hb⟩⟩
    · exact .inr (by omega)
set_option maxRecDepth 100000 in
set_option maxHeartbeats 16000000 in
theorem makes_calls (A : Option Addr) (c : Nat) (l : List S71) (lo hi v : Int) (w : World) (hL : TabLaid w) (hC : Kd.C k71 w A l.length l) (hc : l.length ≤ c) (hsz : l.length * 16 ≤ 140737488351232) (hv : -9223372036854775808 ≤ v ∧ v ≤ 9223372036854775807) :
    Calls Tryd.prog 4 #[.slice A l.length c, .int .i64 lo, .int .i64 hi, .int .i64 v] w fun e w' => e = .returned (.bool true) ∧ Below w.heap.size w w' := by
  have hz : 0 < w.heap.size := World.block_lt_of_cell? w _ (hL 0 (by decide))
  have HC := Lib.hid hC; have HL := Lib.hid hL
  have HF := Lib.hid (lent71F_some l (by omega))
  have HO := of_both l
  have HN := new_both lo hi
  clear hC hL
  go_enter Tryd.func4, Tryd.ntmps4
  go_wp2_with fail
  refine (lent71_calls A c l l _ HC.out hc HF.out).mono ?_
  rintro e w1 ⟨X, cx, rfl, hx, hb1⟩
  obtain ⟨hXm, hcx⟩ := lent71_reads hx
  have HXM := Lib.hid hXm
  have HX := Lib.hid (lent71_first hXm)
  have HA := Lib.hid (Kd.C_below HC.out hb1)
  have HT := Lib.hid (tab_keep HL.out (hb1.block 0 hz))
  have HB1 := Lib.hid hb1
  have hs1 := hb1.size
  have HZ : 0 < w1.heap.size := by omega
  clear hx hXm hb1
  go_wp2_with fail
  rcases HO with ⟨x, HO⟩ | HO
  · have HO := Lib.hid HO
    refine ((HO.out X cx _ HX.out (by omega)).1).mono ?_
    rintro e w2 ⟨rfl, hb2⟩
    have HB2 := Lib.hid hb2
    clear hb2
    go_wp2_with fail
    refine ((HO.out A c _ (Kd.C_below HA.out HB2.out) hc).2).mono ?_
    rintro e w3 ⟨rfl, hb3⟩
    have HB3 := Lib.hid (below_step HB2.out hb3)
    clear hb3
    go_wp2_with fail
    rcases HN with ⟨y, HN⟩ | HN
    · have HN := Lib.hid HN
      refine ((HN.out w3).1).mono ?_
      rintro e w4 ⟨rfl, rfl⟩
      go_wp2_with fail
      refine ((HN.out w4).2).mono ?_
      rintro e w5 ⟨rfl, rfl⟩
      have HB5 := HB3
      go_wp2_with fail
      refine (kept71 X cx A c l _ (Kd.C_below HXM.out HB5.out) hcx (Kd.C_below HA.out HB5.out) (by omega)).mono ?_
      rintro e w6 ⟨rfl, hb6⟩
      have HB6 := Lib.hid (below_step HB5.out hb6); have HB56 := Lib.hid hb6
      clear hb6
      go_wp2_with fail
      refine (known_calls _ (tab_keep HT.out (HB6.out.block 0 HZ))).mono ?_
      rintro e w9 ⟨rfl, hb9⟩
      have HB9 := Lib.hid (below_step HB1.out (below_step HB6.out hb9))
      clear hb9
      go_wp2_with fail
      go_ret
      exact ⟨rfl, HB9.out⟩
    · have HN := Lib.hid HN
      refine (new_set lo hi _ HN.out.1 HN.out.2.1 HN.out.2.2.1 HN.out.2.2.2).mono ?_
      rintro e w4 ⟨gn, gnp, rfl, ⟨k5, k6⟩, hs4, hb4⟩
      have HSN := Lib.hid hs4; have HB4 := Lib.hid (below_step HB3.out hb4); have HB34 := Lib.hid hb4
      clear hs4 hb4
      have UN : setP gn = .pointer (some ⟨gn, 0, none⟩) := rfl
      rw [UN]
      go_wp2_with fail
      refine (RefAt.new lo hi _ HN.out.1 HN.out.2.1 HN.out.2.2.1 HN.out.2.2.2).mono ?_
      rintro e w5 ⟨qn, qnl, rfl, ⟨k7, k8⟩, hr5, hb5⟩
      have HSN5 := Lib.hid (HSN.out.below hb5); have HRN := Lib.hid hr5
      have HB5 := Lib.hid (below_step HB4.out hb5); have HB35 := Lib.hid (below_step HB34.out hb5)
      clear hr5 hb5
      have UN' : refP qn = .pointer (some ⟨qn, 0, none⟩) := rfl
      rw [UN']
      go_wp2_with fail
      refine (kept71 X cx A c l _ (Kd.C_below HXM.out HB5.out) hcx (Kd.C_below HA.out HB5.out) (by omega)).mono ?_
      rintro e w6 ⟨rfl, hb6⟩
      have HB6 := Lib.hid (below_step HB5.out hb6); have HB56 := Lib.hid hb6
      clear hb6
      go_wp2_with fail
      refine (alike_calls (HSN5.out.below HB56.out) (HRN.out.below HB56.out) (tab_keep HT.out (HB6.out.block 0 HZ)) v hv).mono ?_
      rintro e w8 ⟨rfl, hb8⟩
      have HB8 := Lib.hid (below_step HB6.out hb8)
      clear hb8
      go_wp2_with fail
      refine (known_calls _ (tab_keep HT.out (HB8.out.block 0 HZ))).mono ?_
      rintro e w9 ⟨rfl, hb9⟩
      have HB9 := Lib.hid (below_step HB1.out (below_step HB8.out hb9))
      clear hb9
      go_wp2_with fail
      go_ret
      exact ⟨rfl, HB9.out⟩
  · have HO := Lib.hid HO
    refine (of_made X cx l _ HX.out (by omega) HO.out.1 HO.out.2).mono ?_
    rintro e w2 ⟨g, gp, rfl, ⟨k1, k2⟩, hs2, hb2⟩
    have HS2 := Lib.hid hs2; have HB2 := Lib.hid hb2
    clear hs2 hb2
    have U : setP g = .pointer (some ⟨g, 0, none⟩) := rfl
    rw [U]
    go_wp2_with fail
    refine (refOf_made A c l _ (Kd.C_below HA.out HB2.out) hc HO.out.1 HO.out.2).mono ?_
    rintro e w3 ⟨q, ql, rfl, ⟨k3, k4⟩, hr3, hb3⟩
    have HS3 := Lib.hid (HS2.out.below hb3); have HR3 := Lib.hid hr3
    have HB3 := Lib.hid (below_step HB2.out hb3)
    clear hr3 hb3
    have U' : refP q = .pointer (some ⟨q, 0, none⟩) := rfl
    rw [U']
    go_wp2_with fail
    rcases HN with ⟨y, HN⟩ | HN
    · have HN := Lib.hid HN
      refine ((HN.out w3).1).mono ?_
      rintro e w4 ⟨rfl, rfl⟩
      go_wp2_with fail
      refine ((HN.out w4).2).mono ?_
      rintro e w5 ⟨rfl, rfl⟩
      have HB5 := HB3
      go_wp2_with fail
      refine (kept71 X cx A c l _ (Kd.C_below HXM.out HB5.out) hcx (Kd.C_below HA.out HB5.out) (by omega)).mono ?_
      rintro e w6 ⟨rfl, hb6⟩
      have HB6 := Lib.hid (below_step HB5.out hb6); have HB56 := Lib.hid hb6
      clear hb6
      go_wp2_with fail
      refine (alike_calls (HS3.out.below HB56.out) (HR3.out.below HB56.out) (tab_keep HT.out (HB6.out.block 0 HZ)) v hv).mono ?_
      rintro e w7 ⟨rfl, hb7⟩
      have HB7 := Lib.hid (below_step HB6.out hb7); have HB57 := Lib.hid (below_step HB56.out hb7)
      clear hb7
      go_wp2_with fail
      refine (known_calls _ (tab_keep HT.out (HB7.out.block 0 HZ))).mono ?_
      rintro e w9 ⟨rfl, hb9⟩
      have HB9 := Lib.hid (below_step HB1.out (below_step HB7.out hb9))
      clear hb9
      go_wp2_with fail
      go_ret
      exact ⟨rfl, HB9.out⟩
    · have HN := Lib.hid HN
      refine (new_set lo hi _ HN.out.1 HN.out.2.1 HN.out.2.2.1 HN.out.2.2.2).mono ?_
      rintro e w4 ⟨gn, gnp, rfl, ⟨k5, k6⟩, hs4, hb4⟩
      have HSN := Lib.hid hs4; have HB4 := Lib.hid (below_step HB3.out hb4); have HB34 := Lib.hid hb4
      clear hs4 hb4
      have UN : setP gn = .pointer (some ⟨gn, 0, none⟩) := rfl
      rw [UN]
      go_wp2_with fail
      refine (RefAt.new lo hi _ HN.out.1 HN.out.2.1 HN.out.2.2.1 HN.out.2.2.2).mono ?_
      rintro e w5 ⟨qn, qnl, rfl, ⟨k7, k8⟩, hr5, hb5⟩
      have HSN5 := Lib.hid (HSN.out.below hb5); have HRN := Lib.hid hr5
      have HB5 := Lib.hid (below_step HB4.out hb5); have HB35 := Lib.hid (below_step HB34.out hb5)
      clear hr5 hb5
      have UN' : refP qn = .pointer (some ⟨qn, 0, none⟩) := rfl
      rw [UN']
      go_wp2_with fail
      refine (kept71 X cx A c l _ (Kd.C_below HXM.out HB5.out) hcx (Kd.C_below HA.out HB5.out) (by omega)).mono ?_
      rintro e w6 ⟨rfl, hb6⟩
      have HB6 := Lib.hid (below_step HB5.out hb6); have HB56 := Lib.hid hb6
      clear hb6
      go_wp2_with fail
      refine (alike_calls ((HS3.out.below HB35.out).below HB56.out) ((HR3.out.below HB35.out).below HB56.out) (tab_keep HT.out (HB6.out.block 0 HZ)) v hv).mono ?_
      rintro e w7 ⟨rfl, hb7⟩
      have HB7 := Lib.hid (below_step HB6.out hb7); have HB57 := Lib.hid (below_step HB56.out hb7)
      clear hb7
      go_wp2_with fail
      refine (alike_calls (HSN5.out.below HB57.out) (HRN.out.below HB57.out) (tab_keep HT.out (HB7.out.block 0 HZ)) v hv).mono ?_
      rintro e w8 ⟨rfl, hb8⟩
      have HB8 := Lib.hid (below_step HB7.out hb8)
      clear hb8
      go_wp2_with fail
      refine (known_calls _ (tab_keep HT.out (HB8.out.block 0 HZ))).mono ?_
      rintro e w9 ⟨rfl, hb9⟩
      have HB9 := Lib.hid (below_step HB1.out (below_step HB8.out hb9))
      clear hb9
      go_wp2_with fail
      go_ret
      exact ⟨rfl, HB9.out⟩

end Go.Proofs.YtfkbkcdiajjljaaDoor.PBitsSteps
namespace Go.Proofs.YtfkbkcdiajjljaaDoor.bitsMakes
open Go.ChangeShapes Go.WideShapes Go.ChangeAt Go.RowKit Go.Proofs.YtfkbkcdiajjljaaDoor.PBitsSteps
theorem own : ownKnob Tryd.prog.godebug = none := by kernel_rfl
theorem laidOut : laidOutB Tryd.prog = true := by kernel_rfl
/-- The door's own heap meets the condition: closed facts. -/
theorem door_met (os : Os) (args : Array Value) : laidMetH Tryd.prog Rows.bitsMakesRow.laid ((World.doorLaid Tryd.prog 400 os).forCall (fun _ _ => 0) ⟨#[], args, []⟩).memory :=
  laidMetH_of_parts3 (fuel := 8) (laidMet_of_run' 8 (by kernel_rfl) (by kernel_rfl)) (by kernel_rfl) (by kernel_rfl)
set_option maxRecDepth 100000 in
theorem lifted (os : Os) (started : os.Started) (H : Type) (enc : TypeId × Value → H) :
    ReturnsInHanded {} Tryd.checked os 4 .any (fun w args => (Rows.bitsMakesSpec.pre enc Tryd.prog Tryd.f4 [] false w args ∧ laidMetH Tryd.prog Rows.bitsMakesRow.laid w) ∧ sizedMet enc Tryd.prog Tryd.f4 (OpenSpec.ofChange Rows.bitsMakesSpec) false w args)
      (Rows.bitsMakesSpec.post enc Tryd.prog Tryd.f4 false true false false) := by
  refine returnsInHanded_of_change_and (C := Tryd.checked) (X := fun w _ => laidMetH Tryd.prog Rows.bitsMakesRow.laid w) (fun _ _ _ hh h => h.of_heap hh) own started (by kernel_rfl) Tryd.func4
    (ChangeSpec.witness_shaped (enc := enc) (C := Tryd.checked) (os := os) (X := fun w _ => laidMetH Tryd.prog Rows.bitsMakesRow.laid w) false (World.doorLaid Tryd.prog 400 os) #[.slice none 0 0, .int .i64 0, .int .i64 0, .int .i64 0] 8 rfl (World.shaped_of_RefB (by kernel_rfl) (by kernel_rfl)) (by kernel_rfl) (by kernel_rfl) (by kernel_rfl) (door_met os _)) ?_
  intro W base args ds gs before hval0 hW _ hsz hL _
  have hval : ∀ (j : Nat) t v, Tryd.f4.params[j]? = some t → args[j]? = some v → Value.okWide Tryd.prog W .any base t v := hval0
  have hW' := hW
  obtain ⟨p, q, hA0, hV, rfl, hfz, hnd⟩ := hW
  have hA : DataW.TrodAll enc Tryd.prog W 0 (fun _ => true) true Tryd.f4.params.toList args.toList ds p := hA0
  rw [Tryd.params4] at hA hval
  obtain ⟨v0, vs0, d0, ds0, p0, q0, hargs, rfl, rfl, h0, r0⟩ := trodAll_cons hA
  obtain ⟨v1, vs1, d1, ds1, p1, q1, rfl, rfl, rfl, h1, r1⟩ := trodAll_cons r0
  obtain ⟨v2, vs2, d2, ds2, p2, q2, rfl, rfl, rfl, h2, r2⟩ := trodAll_cons r1
  obtain ⟨v3, vs3, d3, ds3, p3, q3, rfl, rfl, rfl, h3, r3⟩ := trodAll_cons r2
  obtain ⟨rfl, rfl, rfl⟩ := trodAll_nil r3
  obtain rfl : args = #[v0, v1, v2, v3] := by cases args; simp_all
  obtain ⟨rfl, rfl⟩ := trodVars_none hV
  obtain ⟨a0, len0, cap0, rfl⟩ := okWide_slice Tryd.underlying22 (hval 0 22 v0 rfl rfl)
  have k0 := h0
  have lt0 : ∀ x ∈ p0, x.block < W.heap.size := by obtain ⟨m, hm⟩ := k0; exact DataW.trod_lt m _ _ _ hm
  have hsz16 : len0 * 16 ≤ 140737488351232 := sized_ranges hsz (j := 0) (by rw [Tryd.params4]; rfl) rfl h0
  obtain ⟨l, rfl, hc, hC⟩ : ∃ l : List S71, l.length = len0 ∧ l.length ≤ cap0 ∧ Go.Proofs.YtfkbkcdiajjljaaDoorW.PrintWords.Kd.C k71 W a0 l.length l := by
    obtain ⟨fuel, hf⟩ := h0
    obtain ⟨A, c, l, e, hc, hC⟩ := open_ranges hf
    simp [Value.cells] at e
    obtain ⟨rfl, rfl, rfl⟩ := e
    exact ⟨l, rfl, hc, hC⟩
  obtain ⟨a1, rfl, rfl, rfl, w1⟩ := open_int Tryd.underlying2 (hval 1 2 v1 rfl rfl) h1
  obtain ⟨a2, rfl, rfl, rfl, w2⟩ := open_int Tryd.underlying2 (hval 2 2 v2 rfl rfl) h2
  obtain ⟨a3, rfl, rfl, rfl, w3⟩ := open_int Tryd.underlying2 (hval 3 2 v3 rfl rfl) h3
  clear hA0 hval0
  have hb3 : -9223372036854775808 ≤ a3 ∧ a3 ≤ 9223372036854775807 := bounds_i64 w3
  refine (makes_calls a0 cap0 l a1 a2 a3 W (tab_of_laid hL) hC hc hsz16 hb3).mono fun e W' ⟨he, bel⟩ => ?_
  subst he
  exact ⟨_, rfl, _, _, _, [], _, [], hW', trodAll_mk1 (shut_bool Tryd.underlying4 _), (trodAll_cons_mk (Below.trod laidOut (by kernel_rfl) (of_decide_eq_true (by kernel_rfl)) k0 bel lt0) (trodAll_cons_mk (shut_int Tryd.underlying2 w1) (trodAll_cons_mk (shut_int Tryd.underlying2 w2) (trodAll_cons_mk (shut_int Tryd.underlying2 w3) trodAll_mk0)))), rfl, bel.frame _, fun h => by cases h⟩

theorem bitsMakes_said : Rows.BitsMakesSaid :=
  OpenClaim.holds_of_wide 4 Tryd.f4 rfl rfl rfl rfl rfl rfl rfl ⟨rfl, rfl, rfl, rfl, rfl⟩ rfl rfl rfl rfl rfl (by kernel_rfl) Tryd.func4 (by kernel_rfl)
    (of_decide_eq_true (by kernel_rfl)) (by unfold Func.isWrapper; first | (rw [if_pos (by decide +kernel)]; kernel_rfl) | (rw [if_neg (by decide +kernel)]; exact ⟨rfl, rfl⟩))
    (fun os started H enc _ => lifted os started H enc)
theorem card_holds : Rows.BitsMakesCardSaid :=
  Claim7.holds_tied_plain_at .later [] [.data] true (true, "d25aee6728e6487eed409672a928bc21616ae340ea119442e754ba2c634bd23c") false
    bitsMakes_said (fun _ h => by cases h) (by kernel_rfl) (fun _ h => by cases h) bitsMakes_row_tie rfl ⟨rfl, rfl⟩ (by kernel_rfl) rfl
    (fun f fn hf hfn => by
      obtain rfl : f = 4 := Option.some.inj ((show Tryd.prog.funcNamed "jigsaw/jigsawlaw03.BitsMakes" = some 4 by kernel_rfl).symm.trans hf) |>.symm
      obtain rfl : fn = Tryd.f4 := (Option.some.inj (Tryd.func4.symm.trans hfn)).symm
      exact ⟨by kernel_rfl, fun j t ht => by
        rw [Tryd.params4] at ht
        have hm : t ∈ [22, 2, 2, 2] := by simpa using Array.mem_of_getElem? ht
        have hall : ([22, 2, 2, 2].all fun u => !Tryd.prog.wantsStandIn u) = true := by kernel_rfl
        exact (show Tryd.prog.wantsStandIn t = false by simpa using List.all_eq_true.1 hall t hm)⟩)
    (by kernel_rfl)
#print axioms card_holds
end Go.Proofs.YtfkbkcdiajjljaaDoor.bitsMakes
namespace Go.Proofs.YtfkbkcdiajjljaaDoor
/-- The card, under a short name, for the claim. -/
theorem bitsMakes_holds : Rows.BitsMakesCardSaid := bitsMakes.card_holds
end Go.Proofs.YtfkbkcdiajjljaaDoor
