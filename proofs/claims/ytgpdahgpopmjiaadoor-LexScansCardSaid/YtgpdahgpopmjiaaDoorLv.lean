/- Parts of the laws of lex: functions of the program, each with the proof of what it answers; the conditions are those of each theorem. -/
import Derived.Test.YtgpdahgpopmjiaaDoorLu
import Derived.Deep.RegionHeld3
import Derived.Deep.DeepCutAuto
import Derived.Sort.QuietIn
namespace Go.Proofs.YtgpdahgpopmjiaaDoor.PL
open Go.RowKit Go.Proofs.YtgpdahgpopmjiaaDoorW.PrintWords Go.Proofs.YtgpdahgpopmjiaaDoorW.PrintLast Go.Proofs.YtgpdahgpopmjiaaDoorW.PrintMore
set_option linter.unusedVariables false
set_option linter.unusedSimpArgs false
/-! ### LexScans -/
theorem reps_flat28 {K : S28 → List Value → Prop} (hK : ∀ x cs, K x cs → cs = cells28 x) : ∀ (xs : List S28) (cs : List Value), Reps K 4 xs cs → cs = flat28 xs
  | [], cs, h => by
    have := h.1
    simp only [List.length_nil, Nat.zero_mul] at this
    rw [List.length_eq_zero_iff.1 this]
    rfl
  | x :: xs, cs, h => by
    have h0 := hK _ _ (h.2 0 x rfl)
    rw [Nat.zero_mul, List.drop_zero] at h0
    have ht := reps_flat28 hK xs (cs.drop 4) ⟨by rw [List.length_drop, h.1, List.length_cons]; omega, fun j p hj => by
      have := h.2 (j + 1) p (by simpa using hj)
      rw [List.drop_drop]
      rw [show 4 + j * 4 = (j + 1) * 4 by omega]
      exact this⟩
    have e : cs = cs.take 4 ++ cs.drop 4 := (List.take_append_drop 4 cs).symm
    rw [e, h0, ht]
    simp [flat28]
theorem R28_row {w : World} {base : Nat} {ok : Nat → Prop} {v : Value} {xs : List S28} (h : Kd.R k28 28 w base ok v xs) : w.ownsRow base 28 4 v xs.length (flat28 xs) := by
  obtain ⟨_, inner, hown, hr⟩ := h
  have e := reps_flat28 (fun x cs h => k28_openM h) xs inner hr
  rw [e] at hown
  exact hown
theorem tok_eqB (t1 t2 : Tok) : (t1.kind == t2.kind && ((txt t1).toList == (txt t2).toList && (t1.n == t2.n && (((t1.pos : Nat) : Int) == ((t2.pos : Nat) : Int))))) = decide (t1 = t2) := by
  have ht : ∀ t : Tok, (txt t).toList = t.text := fun t => by rw [Go.ByteArray.toList_eq]; rfl
  rw [ht, ht]
  obtain ⟨k1, x1, n1, p1⟩ := t1
  obtain ⟨k2, x2, n2, p2⟩ := t2
  simp only [Tok.mk.injEq]
  rw [Bool.eq_iff_iff]
  simp only [Bool.and_eq_true, beq_iff_eq, decide_eq_true_eq]
  constructor
  · rintro ⟨a, b, c, d⟩
    exact ⟨a, b, c, by omega⟩
  · rintro ⟨a, b, c, d⟩
    exact ⟨a, b, c, by omega⟩
/-- what stands in region 3 -/
def ScanS (w : World) (x : S28) (A A2 : Option Addr) (L : List S28) (v : World) : Prop :=
  Below w.heap.size w v ∧ v.heap[w.heap.size]? = some (.cells #[.int .i64 x.f0, .string x.f1, .int .i64 x.f2, .int .i64 x.f3] 28 (0, 0)) ∧ Boxed v (w.heap.size + 1) 4 (.bool false) ∧ Kd.C k28 v A L.length L ∧ Kd.C k28 v A2 L.length L
theorem ScanS.step {w v v' : World} {x : S28} {A A2 : Option Addr} {L : List S28} (h : ScanS w x A A2 L v) (hb : Below v.heap.size v v') : ScanS w x A A2 L v' :=
  ⟨below_step h.1 hb, (hb.block _ (blk_lt h.2.1)).trans h.2.1, boxed_below h.2.2.1 hb, Kd.C_below h.2.2.2.1 hb, Kd.C_below h.2.2.2.2 hb⟩
theorem ScanS.all {w v : World} {x : S28} {A A2 : Option Addr} {L : List S28} (h : ScanS w x A A2 L v) :
    v.cell? ⟨w.heap.size, 0, none⟩ = some (.int .i64 x.f0) ∧ v.cell? ⟨w.heap.size, 1, none⟩ = some (.string x.f1) ∧ v.cell? ⟨w.heap.size, 2, none⟩ = some (.int .i64 x.f2) ∧ v.cell? ⟨w.heap.size, 3, none⟩ = some (.int .i64 x.f3) ∧ ScanS w x A A2 L v :=
  ⟨blk_cell h.2.1 0, blk_cell h.2.1 1, blk_cell h.2.1 2, blk_cell h.2.1 3, h⟩
/-- what is wanted stands in its box -/
def WantS (w : World) (bw : Nat) (T : List Tok) (v : World) : Prop :=
  ∃ A' c', Boxed v bw 22 (.slice A' T.length c') ∧ v.ownsRow w.heap.size 28 4 (.slice A' T.length c') T.length (flat28 (T.map tokS)) ∧ Boxed v (w.heap.size + 1) 4 (.bool false) ∧ Below w.heap.size w v
/-- between two rounds of the first loop -/
def ScI (w : World) (s : ByteArray) (T : List Tok) (v : Value) (ib bw bR SB : Nat) (pre : List Tok) (W : World) : Prop :=
  Boxed W ib 3 (.int .i64 (pre.length : Nat)) ∧ Boxed W bw 22 v ∧ Boxed W bR 4 (.bool false) ∧ Boxed W SB 9 (.string s) ∧ W.ownsRow w.heap.size 28 4 v T.length (flat28 (T.map tokS)) ∧ pre = T.take pre.length ∧ Below w.heap.size w W
theorem ScI.own {w : World} {s : ByteArray} {T : List Tok} {v : Value} {ib bw bR SB B : Nat} (hB : w.heap.size ≤ B) : OwnFrom B (ScI w s T v ib bw bR SB) := by
  intro pre X Y row hs hg hr
  obtain ⟨h1, h2, h3, h4, h5, h6, h7⟩ := hs
  have hr' : ∀ r, row = some r → ∃ o : Obj, X.heap[r]? = some o ∧ o.isCells = false := fun r e => (hr r e).2
  refine ⟨boxed_own ib 3 (fun (_ : Unit) => _) () X Y row h1 hg hr', boxed_own bw 22 (fun (_ : Unit) => _) () X Y row h2 hg hr', boxed_own bR 4 (fun (_ : Unit) => _) () X Y row h3 hg hr', boxed_own SB 9 (fun (_ : Unit) => _) () X Y row h4 hg hr', ?_, h6, ?_⟩
  · refine own_keep28 h5 (fun b o hb ho hc => (hg.block b (Array.getElem?_eq_some_iff.1 ho).1 (fun e => ?_)).trans ho)
    obtain ⟨o', ho', hc'⟩ := hr' b e.symm
    rw [ho] at ho'
    injection ho' with ho'
    subst ho'
    rw [hc] at hc'
    cases hc'
  · exact ownFrom_below (β := Unit) (Nat.le_refl w.heap.size) hB () X Y row h7 hg hr
theorem keepsO_drawn (W : World) (n : Nat) : KeepsOthers W (W.drewN n) := ⟨Nat.le_refl _, fun _ _ h _ => h⟩
theorem ScI.next {w W : World} {s : ByteArray} {T : List Tok} {v : Value} {ib bw bR SB : Nat} {pre : List Tok} {y : Tok} (h : ScI w s T v ib bw bR SB pre W) (hlt : pre.length < T.length) (hy : T[pre.length] = y) (nq : Nat) (h1 : bw ≠ ib) (h2 : bR ≠ ib) (h3 : SB ≠ ib) (h4 : w.heap.size ≤ ib) :
    ScI w s T v ib bw bR SB (pre ++ [y]) ((W.drewN nq).setCell ⟨ib, 0, none⟩ (.int .i64 ((pre.length : Int) + 1))) := by
  obtain ⟨q1, q2, q3, q4, q5, q6, q7⟩ := h
  have hd : Below W.heap.size W (W.drewN nq) := Drawn0.below ⟨⟨nq, rfl⟩⟩
  have d1 := boxed_below q1 hd
  have d5 := pw_own_below q5 hd
  refine ⟨?_, (boxed_below q2 hd).other h1 _, (boxed_below q3 hd).other h2 _, (boxed_below q4 hd).other h3 _, d5.kept (grownBy_setCell' _ ib _) (.inr (d1.not_row (by decide) d5).symm), ?_, (below_step q7 hd).setCell (p := ⟨ib, 0, none⟩) h4 _⟩
  · rw [show (((pre ++ [y]).length : Nat) : Int) = (pre.length : Int) + 1 by simp]
    exact d1.set _
  · rw [List.length_append, List.length_singleton, List.take_succ_eq_append_getElem hlt, ← q6, hy]
theorem scJ_own {w : World} {s : ByteArray} {T : List Tok} {v : Value} {ib bw bR SB B D : Nat} (hB : w.heap.size ≤ B) (hD : D < B) : OwnFrom B (fun (_ : List Tok) W => ScI w s T v ib bw bR SB T W ∧ W.heap[D]? = some (.deferred (some []))) := by
  rintro _ X Y row ⟨h1, h2⟩ hg hr
  refine ⟨ScI.own hB T X Y row h1 hg hr, (hg.block D (Array.getElem?_eq_some_iff.1 h2).1 (fun e => ?_)).trans h2⟩
  have := (hr D e.symm).1
  omega
attribute [local go_sem high] eqA28
attribute [local go_sem] Oper.semAt_some
open Go.Shelf in
set_option maxRecDepth 100000 in
set_option maxHeartbeats 16000000 in
theorem scans_calls (s : ByteArray) (hs : s.size ≤ 140737488351232) (x : S28) (hx : -9223372036854775808 ≤ x.f2 ∧ x.f2 ≤ 9223372036854775807) (w : World) (hl : LxLaid w) : Calls Tryd.prog 6 #[.string s, tok28 x] w fun e w' => e = .returned (.bool true) ∧ Below w.heap.size w w' := by
  have HL := Lib.hid hl
  clear hl
  have HTX := Lib.hid (fun W (h : Below w.heap.size w W) => text_calls x hx W (HL.out.below h))
  have HRT := Lib.hid (fun W (h : Below w.heap.size w W) => reftext_calls x hx W (HL.out.below h))
  have HWD := Lib.hid (fun W => word_calls s hs W)
  have HRW := Lib.hid (fun W => refword_calls s hs W)
  have HSC := Lib.hid (fun W (h : Below w.heap.size w W) => scan_calls s hs W (HL.out.below h))
  have HRS := Lib.hid (fun W => refscan_calls s W)
  have HRA := Lib.hid (fun W => refall_calls s W)
  have U : tok28 x = .agg #[.int .i64 x.f0, .string x.f1, .int .i64 x.f2, .int .i64 x.f3] := rfl
  rw [U] at HTX HRT ⊢
  clear hx
  refine (callsIn_wide (n := 5)).1 ?_
  refine callsIn_of_wp_marks Tryd.func6 rfl trivial ?_ rfl
  simp only [Tryd.ntmps6, List.size_toArray, List.length_cons, List.length_nil, Nat.reduceAdd, Nat.reduceSub, Array.replicate_succ, Array.replicate_zero, List.push_toArray, List.append_toArray, List.nil_append, List.cons_append]
  refine wpIn_wide.2 ?_
  obtain ⟨W1, hW1⟩ : ∃ W1, (w.alloc (.cells #[.int .i64 x.f0, .string x.f1, .int .i64 x.f2, .int .i64 x.f3] 28)).alloc (.cells #[.bool false] 4) = W1 := ⟨_, rfl⟩
  have hb1 : Below w.heap.size w W1 := by rw [← hW1]; exact ((Below.refl _ w).alloc (Nat.le_refl _) _).alloc (by simp) _
  have hx1 : W1.heap[w.heap.size]? = some (.cells #[.int .i64 x.f0, .string x.f1, .int .i64 x.f2, .int .i64 x.f3] 28 (0, 0)) := by
    rw [← hW1]
    exact (Below.heap_alloc _ _ _ (by simp)).trans (World.alloc_heap_new _ _)
  have hr1 : Boxed W1 (w.heap.size + 1) 4 (.bool false) := by
    rw [← hW1]
    have := Boxed.new (w.alloc (.cells #[.int .i64 x.f0, .string x.f1, .int .i64 x.f2, .int .i64 x.f3] 28)) 4 (.bool false)
    rw [World.size_alloc] at this
    exact this
  have HB1 := Lib.hid hb1; have HX1 := Lib.hid hx1; have HR1 := Lib.hid hr1
  clear hb1 hx1 hr1
  go_wp2_with fail
  clear hW1
  refine (HSC.out _ HB1.out).mono ?_
  rintro e w2 ⟨A, m, c, hcap, rfl, hC, hb2⟩
  have HC := Lib.hid hC; have HB2 := Lib.hid hb2
  clear hC hb2
  go_wp2_with fail
  refine (HRS.out _).mono ?_
  rintro e w3 ⟨v3, rfl, hR3, hb3⟩
  have hrow3 := R28_row hR3
  obtain ⟨A2, c2, rfl⟩ := row_form hrow3
  have hcap2 := row_cap hrow3
  obtain ⟨A2', c2', e2, hC2⟩ := row28 hrow3 rfl
  injection e2 with e2 _ e3
  subst e2
  subst e3
  have hlenL : ((scanL (ll s)).1.map tokS).length ≤ 70000 := by
    rw [List.length_map]
    unfold scanL
    have := allL_len (ll s)
    dsimp only
    split
    · omega
    · exact Nat.zero_le _
  have hm : m = ((scanL (ll s)).1.map tokS).length := HC.out.1.symm
  subst hm
  have hS0 : ScanS w x A A2 ((scanL (ll s)).1.map tokS) w3.drew := by
    have h1 : ScanS w x A A2 ((scanL (ll s)).1.map tokS) w3 := ⟨below_step (below_step HB1.out HB2.out) hb3, ((hb3.block _ (Nat.lt_of_lt_of_le (blk_lt HX1.out) HB2.out.size)).trans (HB2.out.block _ (blk_lt HX1.out))).trans HX1.out, boxed_below (boxed_below HR1.out HB2.out) hb3, Kd.C_below HC.out hb3, hC2⟩
    exact h1.step ((Below.refl _ _).drew)
  have hS := hS0
  clear hS0
  have HSM := Lib.hid (fun W (h : ScanS w x A A2 ((scanL (ll s)).1.map tokS) W) => jigsawref15_Same.calls _ A c _ A2 c2 _ true W h.2.2.2.1 hcap h.2.2.2.2 hcap2 (same_refl _ hlenL))
  have HL70 := Lib.hid hlenL
  clear hR3 hrow3 hC2 HB1 HX1 HR1 HC HB2 hb3 hlenL
  generalize (scanL (ll s)).1.map tokS = L at *
  generalize (scanL (ll s)).2.1 = why at *
  generalize (scanL (ll s)).2.2 = pl at *
  clear hcap hcap2
  go_upto_region 3 with fail
  go_region_held3 (fun v => v.cell? ⟨w.heap.size, 0, none⟩ = some (.int .i64 x.f0) ∧ v.cell? ⟨w.heap.size, 1, none⟩ = some (.string x.f1) ∧ v.cell? ⟨w.heap.size, 2, none⟩ = some (.int .i64 x.f2) ∧ v.cell? ⟨w.heap.size, 3, none⟩ = some (.int .i64 x.f3) ∧ ScanS w x A A2 L v)
    (first | exact hS.all)
    (first
      | (go_at_call 10; refine (HSM.out _ hS).mono ?_; rintro e w1 ⟨rfl, hb⟩; have hS := hS.step hb.below)
      | (go_at_call 11; refine (HTX.out _ hS.1).mono ?_; rintro e w1 ⟨rfl, hb⟩; have hS := hS.step hb)
      | (go_at_call 15; refine (HRT.out _ hS.1).mono ?_; rintro e w1 ⟨rfl, hb⟩; have hS := hS.step hb)
      | (go_at_call 12; refine (HWD.out _).mono ?_; rintro e w1 ⟨rfl, rfl⟩)
      | (go_at_call 16; refine (HRW.out _).mono ?_; rintro e w1 ⟨rfl, hb⟩; have hS := hS.step hb))
  obtain ⟨wa, hwa⟩ : ∃ wa, wa = w1 := ⟨_, rfl⟩
  rw [← hwa] at hS ⊢
  have HSS := Lib.hid hS
  clear hS hb hwa
  go_wp2_with fail
  refine (HRA.out _).mono ?_
  rintro e w5 ⟨v5, rfl, hR5, hb5⟩
  have hrow5 := R28_row hR5
  obtain ⟨A5, c5, rfl⟩ := row_form hrow5
  have hS5 := HSS.out.step hb5
  have HS5 := Lib.hid hS5; have HROW5 := Lib.hid hrow5
  clear hR5 hb5 hrow5 hS5 HTX HRT HWD HRW HSC HRS HSM HRA
  have hTl := allL_len (ll s)
  have HTL := Lib.hid hTl
  clear hTl
  go_upto_if 65 with fail
  have hbwlt : w.heap.size + 1 < w5.heap.size := HS5.out.2.2.1.lt
  rw [List.length_map] at HROW5
  generalize hT : (allL (ll s)).1 = T at *
  have HT := Lib.hid hT
  clear hT
  go_cut [] from 17 (fun wc => WantS w w5.heap.size T wc)
  case first =>
    have hbw5 := Boxed.new w5 22 (.slice A5 T.length c5)
    have hbR5 : Boxed (w5.alloc (.cells #[.slice A5 T.length c5] 22)) (w.heap.size + 1) 4 (.bool false) := HS5.out.2.2.1.alloc _
    have hB5 : Below w.heap.size w (w5.alloc (.cells #[.slice A5 T.length c5] 22)) := HS5.out.1.alloc HS5.out.1.size _
    have hbl := HSS.out.1.size
    have hrow5 := (own_weaken HROW5.out hbl).alloc (.cells #[.slice A5 T.length c5] 22)
    have hc5 := hbw5.cell; have hf5 := hbw5.frozen
    by_cases hbig : 65536 < s.size
    · have hb : decide ((s.size : Int) > 65536) = true := decide_eq_true (by omega)
      have hT0 : T = [] := by rw [← HT.out, allL_big hbig]
      have HB5 := Lib.hid hB5; have HBW := Lib.hid hbw5; have HBR := Lib.hid hbR5
      clear hB5 hbw5 hbR5 hrow5
      go_wp2_with fail
      go_meet
      case rel =>
        subst hT0
        exact ⟨none, 0, Boxed.new w5 22 _, World.ownsRow_nil _ _ _ _, HS5.out.2.2.1.alloc _, HS5.out.1.alloc HS5.out.1.size _⟩
    · have hb : decide ((s.size : Int) > 65536) = false := decide_eq_false (by omega)
      have HREL := Lib.hid (show WantS w w5.heap.size T (w5.alloc (.cells #[.slice A5 T.length c5] 22)) from ⟨A5, c5, hbw5, hrow5, hbR5, hB5⟩)
      clear hB5 hbw5 hbR5 hrow5 hc5 hf5
      go_wp2_with fail
      go_meet
      case rel => exact HREL.out
  case rest =>
    obtain ⟨A', c', hbw, hrow, hbR, hB⟩ := hcut
    have HBW := Lib.hid hbw; have HROW := Lib.hid hrow; have HBR := Lib.hid hbR; have HB := Lib.hid hB
    have hbw2 := hbw.lt
    have hwsz := hB.size
    clear HS5 HROW5 HSS hbw hrow hbR hB
    go_wp2_with fail
    refine (each_calls s _).mono ?_
    rintro e w7 ⟨rfl, rfl⟩
    have hnf := fun (b : Array Value) (W : World) => func_eql_nil (.func 27) #[] b W
    go_wp2_with fail
    have hb0 : Below w.heap.size w ((wc.alloc (.cells #[.string s] 9)).alloc (.cells #[.int .i64 0] 3)) := (HB.out.alloc HB.out.size _).alloc (by have := HB.out.size; simp; omega) _
    have bS := (Boxed.new wc 9 (.string s)).alloc (.cells #[.int .i64 0] 3)
    have bN := Boxed.new (wc.alloc (.cells #[.string s] 9)) 3 (.int .i64 0)
    simp only [World.size_alloc] at bN
    have bW := (HBW.out.alloc (.cells #[.string s] 9)).alloc (.cells #[.int .i64 0] 3)
    have bR := (HBR.out.alloc (.cells #[.string s] 9)).alloc (.cells #[.int .i64 0] 3)
    have bO := (HROW.out.alloc (.cells #[.string s] 9)).alloc (.cells #[.int .i64 0] 3)
    have hszW : ((wc.alloc (.cells #[.string s] 9)).alloc (.cells #[.int .i64 0] 3)).heap.size = wc.heap.size + 2 := by simp
    obtain ⟨W0, hW0⟩ : ∃ W0, (wc.alloc (.cells #[.string s] 9)).alloc (.cells #[.int .i64 0] 3) = W0 := ⟨_, rfl⟩
    rw [hW0] at hb0 bS bN bW bR bO hszW ⊢
    clear hW0
    have hst := lex_each_stops (5 - 1) (by decide) wc.heap.size (wc.heap.size + 1) (wc.heap.size + 1) s hs W0 bS (HL.out.below hb0) (by omega) (by omega)
    generalize (allL (ll s)).2.1 = e6 at *
    generalize (allL (ll s)).2.2 = p6 at *
    rw [HT.out] at hst
    have hTl := HTL.out
    have hI0 : ScI w s T (.slice A' T.length c') (wc.heap.size + 1) w5.heap.size (w.heap.size + 1) wc.heap.size [] W0 := ⟨bN, bW, bR, bS, bO, rfl, hb0⟩
    refine (wpIn_wide (n := 5)).1 ?_
    refine wpIn_rangeFunc_ownH rfl (by decide) (gf := 27) (lb := #[.pointer (some ⟨wc.heap.size, 0, none⟩)]) rfl trivial (enters_of Tryd.func27 (by kernel_rfl) rfl)
      hst (fun h k => keepsTwo_trans h k)
      (fun W l o o' hl ho hoc _ => ⟨by simp, fun b o1 h1 h2 h3 h4 => (World.putObj_heap_other (fun e => by subst e; rw [h3] at ho; injection ho with ho; subst ho; rw [h4] at hoc; cases hoc)).trans h3⟩)
      (Below.refl _ _) (fun _ => rfl)
      (ScI w s T (.slice A' T.length c') (wc.heap.size + 1) w5.heap.size (w.heap.size + 1) wc.heap.size)
      (fun _ pre _ => ¬ (pre <+: T))
      (ScI.own (by omega))
      (fun _ _ _ _ _ hs _ _ => hs)
      hI0
      (fun y a' W => ∃ Bx, wc.heap.size + 1 < Bx ∧ W.heap[Bx]? = some (.cells #[.int .i64 y.kind, .string (txt y), .int .i64 y.n, .int .i64 (y.pos : Nat)] 28 (0, 0)) ∧ a' = { tmps := #[.string s, .agg #[.int .i64 x.f0, .string x.f1, .int .i64 x.f2, .int .i64 x.f3], undef, .pointer (some ⟨w.heap.size, 0, none⟩), .pointer (some ⟨w.heap.size + 1, 0, none⟩), .slice A L.length c, .int .i64 why, .int .i64 (pl : Nat), .slice A2 L.length c2, .int .i64 why, .int .i64 (pl : Nat), .pointer (some ⟨w5.heap.size, 0, none⟩), .int .i64 e6, .int .i64 (p6 : Nat), .func (.func 27) #[] #[.pointer (some ⟨wc.heap.size, 0, none⟩)], .pointer (some ⟨wc.heap.size + 1, 0, none⟩), .pointer (some ⟨Bx, 0, none⟩), u17, u18, u19, u20, u21, u22, u23, u24, u25, u26, u27, u28, u29, u30, u31, u32, u33, u34, u35, u36, u37, u38, u39, u40, u41, u42, u43, u44, u45, u46, u47, u48, u49, u50, u51, u52, u53, u54, u55, u56, u57, u58, u59, u60, u61, u62, u63, u64, u65, .string s, .func (.func 27) #[] #[.pointer (some ⟨wc.heap.size, 0, none⟩)], .func (.func 27) #[] #[.pointer (some ⟨wc.heap.size, 0, none⟩)], .bool false, .func (.func 27) #[] #[.pointer (some ⟨wc.heap.size, 0, none⟩)], tok28 (tokS y), u72, u73, u74, u75, u76, u77, u78, u79, u80, u81, u82, u83, u84, u85, u86, u87, u88, u89, u90, u91, u92, u93, u94], defers := [] })
      (fun y a' _ X Y row hs hg hr => by
        obtain ⟨Bx, h1, h2, h3⟩ := hs
        refine ⟨Bx, h1, (hg.block Bx (blk_lt h2) (fun e => ?_)).trans h2, h3⟩
        obtain ⟨_, o, ho, hc⟩ := hr Bx e.symm
        rw [h2] at ho
        injection ho with ho
        subst ho
        cases hc)
      ?assign ?body ?done ?stop
    case assign =>
      rintro l pre y W K hI hK
      rw [show tok28 (tokS y) = .agg #[.int .i64 y.kind, .string (txt y), .int .i64 y.n, .int .i64 (y.pos : Nat)] from rfl]
      gi_wp2
      refine hK _ _ ((KeepsOthers.alloc _ _).from _) ⟨by simp, fun b o _ _ h _ => (Below.heap_alloc _ _ b (blk_lt h)).trans h⟩ ((ScI.own (B := W0.heap.size) (by omega)).alloc _ hI) ⟨W.heap.size, hI.1.lt, World.alloc_heap_new _ _, rfl⟩
    case body =>
      rintro l pre y a' W hl ⟨r, hr⟩ hI ⟨Bx, hBx, bX, rfl⟩ hlt
      have cX0 : W.cell? ⟨Bx, 0, none⟩ = some (.int .i64 y.kind) := blk_cell bX 0
      have cX1 : W.cell? ⟨Bx, 1, none⟩ = some (.string (txt y)) := blk_cell bX 1
      have cX2 : W.cell? ⟨Bx, 2, none⟩ = some (.int .i64 y.n) := blk_cell bX 2
      have cX3 : W.cell? ⟨Bx, 3, none⟩ = some (.int .i64 (y.pos : Nat)) := blk_cell bX 3
      have c1 := hI.1.cell; have f1 := hI.1.frozen; have c2 := hI.2.1.cell; have c3 := hI.2.2.1.cell; have f3 := hI.2.2.1.frozen
      have hpl : pre.length < 70000 := by omega
      have hpre := hI.2.2.2.2.2.1
      obtain ⟨A6, c6, e6', hC6⟩ := row28 hI.2.2.2.2.1 (by rw [List.length_map])
      injection e6' with e6a _ e6b
      subst e6a
      subst e6b
      obtain ⟨ad, hA, x0, x1, x2, x3⟩ := tok_at hC6 pre.length hlt
      subst hA
      have hwk : IntKind.i64.wrap ((pre.length : Int) + 1) = (pre.length : Int) + 1 := IntWalk.i64_in _ (by omega)
      have hge : decide ((pre.length : Int) ≥ (T.length : Nat)) = false := decide_eq_false (by omega)
      have hge2 : decide ((T.length : Int) ≤ (pre.length : Nat)) = false := decide_eq_false (by omega)
      have hge3 : decide (T.length ≤ pre.length) = false := decide_eq_false (by omega)
      have hix := fun W => index_at ad T.length c' (pre.length : Nat) (by omega) W
      simp only [Int.toNat_natCast] at hix
      have heq := tok_eqB T[pre.length] y
      have HI := Lib.hid hI; have HPRE := Lib.hid hpre
      clear hI hpre hC6 hr bX
      by_cases hy : T[pre.length] = y
      · have hyy := hy
        rw [decide_eq_true hy] at heq
        have HY := Lib.hid hy
        clear hy hyy
        gi_wp2
        refine region_quiet_round (by kernel_rfl) (by kernel_rfl) (by kernel_rfl) ?_
        repeat (gi_big_quiet_step (fail))
        refine wpQuietIn_nil ?_
        rintro _ ⟨nq, rfl⟩
        gi_wp2
        refine ⟨((keepsO_drawn W nq).trans (KeepsOthers.setCell _ _ _)).from _, ⟨by simp, fun b o h1 _ h3 _ => (Below.heap_setCell _ _ _ b h1).trans ((Drawn0.below (w := W) ⟨⟨nq, rfl⟩⟩).block b (blk_lt h3) |>.trans h3)⟩, ?_⟩
        exact HI.out.next hlt HY.out nq (by omega) (by omega) (by omega) (by omega)
      · rw [decide_eq_false hy] at heq
        have HY := Lib.hid hy
        clear hy
        gi_wp2
        refine region_quiet_round (by kernel_rfl) (by kernel_rfl) (by kernel_rfl) ?_
        repeat (gi_big_quiet_step (fail))
        refine wpQuietIn_nil ?_
        rintro _ ⟨nq, rfl⟩
        gi_wp2
        refine ⟨((keepsO_drawn W nq).trans (KeepsOthers.setCell _ _ _)).from _, ?_⟩
        rintro ⟨t, ht⟩
        apply HY.out
        simp [← ht]
    case done =>
      rintro D xs W hD rfl hI hK
      have hst2 := lex_each_stops (5 - 1) (by decide) wc.heap.size (wc.heap.size + 1) (wc.heap.size + 1) s hs W hI.2.2.2.1 (HL.out.below hI.2.2.2.2.2.2) hI.1.lt hI.1.lt
      rw [HT.out] at hst2
      have hWD : W0.heap.size ≤ W.heap.size := by have := (Array.getElem?_eq_some_iff.1 hK).1; omega
      have hWw := hI.2.2.2.2.2.2.size
      have hDl := (Array.getElem?_eq_some_iff.1 hK).1
      have hJ0 : ScI w s xs (.slice A' xs.length c') (wc.heap.size + 1) w5.heap.size (w.heap.size + 1) wc.heap.size xs W ∧ W.heap[D]? = some (.deferred (some [])) := ⟨hI, hK⟩
      clear hI hst hI0 hb0 bS bN bW bR bO
      gi_wp2_with fail
      go_wp2_with fail
      refine (wpIn_wide (n := 5)).1 ?_
      refine wpIn_rangeFunc_ownF rfl (by decide) (gf := 27) (lb := #[.pointer (some ⟨wc.heap.size, 0, none⟩)]) rfl trivial (enters_of Tryd.func27 (by kernel_rfl) rfl)
        hst2 (fun h k => keepsTwo_trans h k)
        (fun W l o o' hl ho hoc _ => ⟨by simp, fun b o1 h1 h2 h3 h4 => (World.putObj_heap_other (fun e => by subst e; rw [h3] at ho; injection ho with ho; subst ho; rw [h4] at hoc; cases hoc)).trans h3⟩)
        (Below.refl _ _) (fun _ => rfl)
        (fun (_ : List Tok) W => ScI w s xs (.slice A' xs.length c') (wc.heap.size + 1) w5.heap.size (w.heap.size + 1) wc.heap.size xs W ∧ W.heap[D]? = some (.deferred (some [])))
        (fun c _ W => c = .exit 2 ∧ (ScI w s xs (.slice A' xs.length c') (wc.heap.size + 1) w5.heap.size (w.heap.size + 1) wc.heap.size xs W ∧ W.heap[D]? = some (.deferred (some []))))
        (scJ_own hWw hDl)
        (fun c => OwnFrom.and (ownFrom_pure _ _) (scJ_own hWw hDl))
        hJ0
        (fun y => { tmps := #[.string s, .agg #[.int .i64 x.f0, .string x.f1, .int .i64 x.f2, .int .i64 x.f3], undef, .pointer (some ⟨w.heap.size, 0, none⟩), .pointer (some ⟨w.heap.size + 1, 0, none⟩), .slice A L.length c, .int .i64 why, .int .i64 (pl : Nat), .slice A2 L.length c2, .int .i64 why, .int .i64 (pl : Nat), .pointer (some ⟨w5.heap.size, 0, none⟩), .int .i64 e6, .int .i64 (p6 : Nat), .func (.func 27) #[] #[.pointer (some ⟨wc.heap.size, 0, none⟩)], .pointer (some ⟨wc.heap.size + 1, 0, none⟩), undef, u17, u18, u19, u20, u21, u22, u23, u24, u25, u26, u27, u28, u29, u30, u31, u32, u33, u34, u35, u36, u37, u38, u39, u40, u41, u42, u43, u44, u45, u46, u47, u48, u49, u50, u51, u52, u53, u54, u55, u56, u57, u58, u59, u60, u61, u62, u63, u64, u65, .string s, .func (.func 27) #[] #[.pointer (some ⟨wc.heap.size, 0, none⟩)], .func (.func 27) #[] #[.pointer (some ⟨wc.heap.size, 0, none⟩)], .bool false, .func (.func 27) #[] #[.pointer (some ⟨wc.heap.size, 0, none⟩)], u71, u72, u73, u74, u75, u76, u77, u78, u79, u80, u81, u82, u83, u84, u85, .func (.func 27) #[] #[.pointer (some ⟨wc.heap.size, 0, none⟩)], tok28 (tokS y), u88, u89, u90, u91, u92, u93, u94], defers := [] }) ?assign2 ?body2 ?done2 ?stop2
      case assign2 =>
        intro l y W K hK
        gi_wp2
        exact hK
      case body2 =>
        rintro l pre y W hI hlt
        gi_wp2
        exact ⟨KeepsOthers.refl _, rfl, hI⟩
      case done2 =>
        rintro D2 ys W2 hD2 hS ⟨hI2, hK1⟩ hK2
        have c1 := hI2.1.cell; have c2' := hI2.2.1.cell
        have HKN := Lib.hid (known_calls W2 (HL.out.below hI2.2.2.2.2.2.2))
        have hlt1 := (Array.getElem?_eq_some_iff.1 hK1).1
        have hlt2 := (Array.getElem?_eq_some_iff.1 hK2).1
        have HI2 := Lib.hid hI2; have HK1 := Lib.hid hK1; have HK2 := Lib.hid hK2
        clear hI2 hK1 hK2
        gi_wp2_with fail
        go_wp2_with fail
        refine HKN.out.mono ?_
        rintro e W5 ⟨rfl, hb5⟩
        have hR5 := boxed_below HI2.out.2.2.1 hb5
        have c3 := hR5.cell; have f3 := hR5.frozen
        have HR5 := Lib.hid hR5; have HB5 := Lib.hid hb5
        clear hb5 hR5
        go_wp2_with fail
        have gK2 : (W5.setCell ⟨w.heap.size + 1, 0, none⟩ (.bool true)).heap[D2]? = some (.deferred (some [])) := (Below.heap_setCell _ _ _ D2 (by show D2 ≠ w.heap.size + 1; omega)).trans ((HB5.out.block D2 hlt2).trans HK2.out)
        have gK1 : ((W5.setCell ⟨w.heap.size + 1, 0, none⟩ (.bool true)).putObj D2 (.deferred none)).heap[D]? = some (.deferred (some [])) := (World.putObj_heap_other (by omega)).trans ((Below.heap_setCell _ _ _ D (by show D ≠ w.heap.size + 1; omega)).trans ((HB5.out.block D hlt1).trans HK1.out))
        have gR : Boxed (((W5.setCell ⟨w.heap.size + 1, 0, none⟩ (.bool true)).putObj D2 (.deferred none)).putObj D (.deferred none)) (w.heap.size + 1) 4 (.bool true) := (World.putObj_heap_other (by omega)).trans ((World.putObj_heap_other (by omega)).trans (HR5.out.set _))
        have gc := gR.cell
        refine ⟨by simp, .inl ⟨_, _, rfl, run_takeDeferred gK2, by simp, .inl ⟨_, _, rfl, run_takeDeferred gK1, ?_⟩⟩⟩
        refine ⟨_, by simp [results, Tryd.results6, go_sem, gc], rfl, ?_⟩
        exact (((below_step HI2.out.2.2.2.2.2.2 HB5.out).setCell (p := ⟨w.heap.size + 1, 0, none⟩) (by show w.heap.size ≤ w.heap.size + 1; omega) _).trans (belowK_b (w := w) (Nat.le_refl _) _ D2 _ _ (by omega) gK2 rfl rfl)).trans (belowK_b (w := w) (Nat.le_refl _) _ D _ _ (by omega) gK1 rfl rfl)
      case stop2 =>
        rintro D2 c pre W2 hD2 hSp ⟨rfl, hI2, hK1⟩ hK2
        have c1 := hI2.1.cell; have c2' := hI2.2.1.cell
        have HKN := Lib.hid (known_calls W2 (HL.out.below hI2.2.2.2.2.2.2))
        have hlt1 := (Array.getElem?_eq_some_iff.1 hK1).1
        have hlt2 := (Array.getElem?_eq_some_iff.1 hK2).1
        have HI2 := Lib.hid hI2; have HK1 := Lib.hid hK1; have HK2 := Lib.hid hK2
        clear hI2 hK1 hK2
        gi_wp2_with fail
        go_wp2_with fail
        refine HKN.out.mono ?_
        rintro e W5 ⟨rfl, hb5⟩
        have hR5 := boxed_below HI2.out.2.2.1 hb5
        have c3 := hR5.cell; have f3 := hR5.frozen
        have HR5 := Lib.hid hR5; have HB5 := Lib.hid hb5
        clear hb5 hR5
        go_wp2_with fail
        have gK2 : (W5.setCell ⟨w.heap.size + 1, 0, none⟩ (.bool true)).heap[D2]? = some (.deferred (some [])) := (Below.heap_setCell _ _ _ D2 (by show D2 ≠ w.heap.size + 1; omega)).trans ((HB5.out.block D2 hlt2).trans HK2.out)
        have gK1 : ((W5.setCell ⟨w.heap.size + 1, 0, none⟩ (.bool true)).putObj D2 (.deferred none)).heap[D]? = some (.deferred (some [])) := (World.putObj_heap_other (by omega)).trans ((Below.heap_setCell _ _ _ D (by show D ≠ w.heap.size + 1; omega)).trans ((HB5.out.block D hlt1).trans HK1.out))
        have gR : Boxed (((W5.setCell ⟨w.heap.size + 1, 0, none⟩ (.bool true)).putObj D2 (.deferred none)).putObj D (.deferred none)) (w.heap.size + 1) 4 (.bool true) := (World.putObj_heap_other (by omega)).trans ((World.putObj_heap_other (by omega)).trans (HR5.out.set _))
        have gc := gR.cell
        refine ⟨by simp, .inl ⟨_, _, rfl, run_takeDeferred gK2, by simp, .inl ⟨_, _, rfl, run_takeDeferred gK1, ?_⟩⟩⟩
        refine ⟨_, by simp [results, Tryd.results6, go_sem, gc], rfl, ?_⟩
        exact (((below_step HI2.out.2.2.2.2.2.2 HB5.out).setCell (p := ⟨w.heap.size + 1, 0, none⟩) (by show w.heap.size ≤ w.heap.size + 1; omega) _).trans (belowK_b (w := w) (Nat.le_refl _) _ D2 _ _ (by omega) gK2 rfl rfl)).trans (belowK_b (w := w) (Nat.le_refl _) _ D _ _ (by omega) gK1 rfl rfl)
    case stop =>
      rintro D c pre W _ hp h _
      exact absurd hp h

end Go.Proofs.YtgpdahgpopmjiaaDoor.PL
