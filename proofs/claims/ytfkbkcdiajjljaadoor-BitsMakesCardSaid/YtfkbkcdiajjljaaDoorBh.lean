/- Parts of the laws of bits: functions of the program, each with the proof of what it answers; the conditions are those of each theorem. -/
import Derived.Test.YtfkbkcdiajjljaaDoorBg
namespace Go.Proofs.YtfkbkcdiajjljaaDoor.PBitsSteps
open Go.RowKit Go.Proofs.YtfkbkcdiajjljaaDoorW.PrintWords Go.Proofs.YtfkbkcdiajjljaaDoorW.PrintLast Go.Proofs.YtfkbkcdiajjljaaDoorW.PrintMore
set_option linter.unusedVariables false
set_option linter.unusedSimpArgs false
attribute [local go_sem] Oper.semAt_some
open Go.Shelf in
set_option maxRecDepth 100000 in
set_option maxHeartbeats 4000000 in
theorem SetAt.ranges {w : World} {g gp : Nat} {f r : Int} {M : Int → Bool} (h : SetAt w g gp f r M) (hL : TabLaid w) :
    Calls Tryd.prog 13 #[setP g] w fun e w' => (4096 < (rg (vals M f r)).length ∧ e = .returned (.tuple #[.slice none 0 0, .int .i64 4]) ∨ (rg (vals M f r)).length ≤ 4096 ∧ ∃ v, e = .returned (.tuple #[v, .int .i64 0]) ∧ w'.ownsRow w.heap.size 71 2 v (rg (vals M f r)).length (flat71 (rg (vals M f r)))) ∧ Below w.heap.size w w' := by
  have hlt := h.lt
  obtain ⟨i0, hi, hz0, hz1, hz2⟩ := info_parts Tryd.info71
  have hs0 := h
  obtain ⟨n, c, ws, cs, h1, h2, h3, h4, h5, h6⟩ := h
  have hr := h6.room
  have hin := h6.inn
  have HS := Lib.hid hs0; have HL := Lib.hid hL; have HIN := Lib.hid hin
  clear h1 h2 h3 h4 h5 h6 hs0 hL hin
  refine (callsIn_wide (n := 5)).1 ?_
  refine callsIn_of_wp_marks Tryd.func13 rfl trivial ?_ rfl
  simp only [Tryd.ntmps13, List.size_toArray, List.length_cons, List.length_nil, Nat.reduceAdd, Nat.reduceSub, Array.replicate_succ, Array.replicate_zero, List.push_toArray, List.append_toArray, List.nil_append, List.cons_append]
  refine wpIn_wide.2 ?_
  have U : setP g = .pointer (some ⟨g, 0, none⟩) := rfl
  rw [U]
  go_wp2_with fail
  rw [← U]
  have hB1 : Below w.heap.size w (w.alloc (.cells #[.slice none 0 0] 22)) := (Below.refl _ w).alloc (Nat.le_refl _) _
  have bO := Boxed.new w 22 (.slice none 0 0)
  refine ((HS.out.below hB1).each).mono ?_
  rintro e W0 ⟨B, gs, gp', rfl, ⟨k1, k2, k3⟩, k4, k5, k6⟩
  go_wp2_with fail
  have hsz1 : (w.alloc (.cells #[.slice none 0 0] 22)).heap.size = w.heap.size + 1 := by simp
  rw [hsz1] at k1 k2 k3
  have hB2 : Below w.heap.size w W0 := hB1.trans (k6.mono (by rw [hsz1]; omega))
  have hbO : Boxed W0 w.heap.size 22 (.slice none 0 0) := boxed_below bO k6
  have hz : 0 < w.heap.size := World.block_lt_of_cell? w _ (HL.out 0 (by decide))
  have hL0 : TabLaid W0 := tab_keep HL.out (hB2.block 0 hz)
  have hltB := k4.lt
  have hlt' := k5.lt
  have hbs : ∀ b ∈ [0, B, gs, gp'], b < W0.heap.size ∧ b ≠ w.heap.size := by
    intro b hb
    simp only [List.mem_cons, List.not_mem_nil, or_false] at hb
    omega
  have hn1 : w.heap.size ≤ W0.heap.size := hB2.size
  have HBO := Lib.hid hbO; have HB2 := Lib.hid hB2; have HBS := Lib.hid hbs; have HBS1 := Lib.hid (fun b hb => (hbs b hb).1)
  have hst := each_stops (5 - 1) (by decide) B gs gp' f r M W0 k4 k5 hL0 (by omega) ⟨hr.2.1, hr.2.2.1, hr.2.2.2⟩ HIN.out
  clear k4 k5 k6 hB1 bO hbO hB2 hbs hL0 hltB hlt'
  refine (wpIn_wide (n := 5)).1 ?_
  refine wpIn_rangeFunc_ownF rfl (by decide) (gf := 61) (lb := #[.pointer (some ⟨B, 0, none⟩)]) rfl trivial (enters_of Tryd.func61 (by kernel_rfl) rfl)
    hst (fun h k => keepsB_trans h k)
    (fun W l o o' hl ho hoc _ b hb => World.putObj_heap_other (by have := HBS1.out b hb; omega))
    (Below.refl _ _) (fun _ => rfl)
    (fun (pre : List (Val M)) W => ((OutAt W w.heap.size W0.heap.size (rg (valL pre)) ∧ keepsB [0, B, gs, gp'] W0 W) ∧ W0.heap.size ≤ W.heap.size) ∧ Below w.heap.size w W)
    (fun _ _ _ => False)
    (OwnFrom.and (OwnFrom.and (OwnFrom.and (ownFrom_out _ _ _ (fun pre : List (Val M) => rg (valL pre))) (ownFrom_keepsB _ _ HBS1.out)) (ownFrom_size _ _)) (ownFrom_below (Nat.le_refl _) hn1))
    (fun _ _ _ _ _ hs _ _ => hs)
    ⟨⟨⟨⟨_, HBO.out, World.ownsRow_nil _ _ _ _⟩, fun b _ => rfl⟩, Nat.le_refl _⟩, HB2.out⟩
    (fun x => { tmps := #[.pointer (some ⟨g, 0, none⟩), undef, .slice none 0 0, .int .i64 0, .pointer (some ⟨w.heap.size, 0, none⟩), .int .i64 x.1, undef, .pointer (some ⟨g, 0, none⟩), .bool false, .pointer (some ⟨g, 0, none⟩), .func (.func 61) #[] #[.pointer (some ⟨B, 0, none⟩)], .int .i64 x.1, undef, undef, undef, undef, undef, undef, undef, undef, undef, undef, undef, undef, undef, undef, undef, undef, undef, undef, undef, undef, undef, undef, undef, undef, undef, undef, undef, undef, undef, undef], defers := [] }) ?assign ?body ?done ?stop
  case assign =>
    intro l x W K hK
    gi_wp2
    exact hK
  case body =>
    rintro l pre x W ⟨⟨⟨⟨v, hv, hrow⟩, hk⟩, hsz⟩, hB⟩ hlt
    obtain ⟨A, c, rfl⟩ := row_form hrow
    have hc := hv.cell
    have hval := HIN.out x.1 x.2
    have hprops := rg_props (fun s => -1000000 ≤ s.f1 ∧ s.f1 ≤ 1000000) (fun v => -1000000 ≤ v ∧ v ≤ 1000000) (fun v h => h) (fun s v _ h => h) (valL pre) (fun v hv => by
      simp only [valL, List.mem_map] at hv
      obtain ⟨y, _, rfl⟩ := hv
      have := HIN.out y.1 y.2
      omega)
    rw [show (valL pre).length = pre.length by simp [valL]] at hprops
    obtain ⟨hp1, hp2⟩ := hprops
    have hsn : rg (valL (pre ++ [x])) = rgStep (rg (valL pre)) x.1 := by rw [valL_snoc]; exact rg_snoc _ _
    have HSN := Lib.hid hsn; clear hsn
    generalize rg (valL pre) = out at hv hrow hc hp1 hp2 HSN
    rcases snoc_cases out with rfl | ⟨ys, s, rfl⟩
    · have HV := Lib.hid hv; have HR := Lib.hid hrow; have HK := Lib.hid hk; have HBB := Lib.hid hB; have HSZ := Lib.hid hsz
      clear hv hrow hk hB hsz hp1
      have HR2 : Hid (W.ownsRow W0.heap.size 71 2 (.slice A 0 c) 0 []) := HR
      have hc2 : W.cell? ⟨w.heap.size, 0, none⟩ = some (.slice A 0 c) := hc
      clear hc HR
      gi_wp2_with (gi_at_builtin; refine wpListIn_append_own _ rfl _ _ 22 rfl W0.heap.size 71 i0 _ 2 16 Tryd.underlying22 hi hz0 hz1 hz2 rfl (by decide) _ _ _ rfl (HR2.out.alloc _) ⟨W.heap.size, 0, none⟩ 1 1 [.int .i64 x.1, .int .i64 x.1] rfl rfl (cell_pair_new _ _ _ _) (by simp [Value.oneCell']) (by simp only [maxLen]; omega) (by omega) (by have := HSZ.out; simp; omega) ?_; intro v' w1 hown' hgrow _; obtain ⟨g', cap', rfl⟩ := ownsRow_succ hown'; obtain ⟨q1, q2, q3, q4, q5, q6, q7⟩ := out_put (bs := [0, B, gs, gp']) HV.out HR2.out HSZ.out hn1 (Nat.le_refl _) HBS.out hown' hgrow; have hc1 := q1.cell; have hf1 := q1.frozen)
      exact ⟨q4, q6, ⟨⟨⟨_, q2, by rw [HSN.out, rgStep_nil]; exact q3⟩, keepsB_trans HK.out q6⟩, q7⟩, HBB.out.trans q5⟩
    · have hs1 := hp1 s (by simp)
      have hrow1 : W.ownsRow W0.heap.size 71 2 (.slice A (ys ++ [s]).length c) (ys.length + 1) (flat71 (ys ++ [s])) := by rw [List.length_append] at hrow ⊢; exact hrow
      obtain ⟨g1, cap, hA⟩ := ownsRow_succ hrow1
      rw [hA] at hv hrow1 hc
      have hcell : W.cell? ⟨g1, ys.length * 2 + 1, none⟩ = some (.int .i64 s.f1) := (hrow1.cellAt _ (by omega)).trans (flat71_last ys s)
      have hfz := hrow1.frozenAt (ys.length * 2 + 1)
      have hyl : ys.length + 1 ≤ 65536 := by rw [List.length_append] at hp2; simp only [List.length_cons, List.length_nil] at hp2; omega
      have hput := out_last (bs := [0, B, gs, gp']) hv hrow1 hn1 HBS1.out (ys.length * 2 + 1) (.int .i64 x.1)
      rw [flat71_set] at hput
      have HV := Lib.hid hv; have HR2 := Lib.hid hrow1; have HK := Lib.hid hk; have HBB := Lib.hid hB; have HSZ := Lib.hid hsz; have HPUT := Lib.hid hput
      clear hv hrow hrow1 hk hB hsz hp1 hp2 hput hA
      generalize hm : ys.length = m at *
      have HM := Lib.hid hm; clear hm
      by_cases hx : s.f1 + 1 = x.1
      · gi_wp2_with fail
        obtain ⟨q2, q3, q4, q5, q6⟩ := HPUT.out
        exact ⟨q4, q6, ⟨⟨⟨_, q2, by rw [HSN.out, rgStep_hit ys s _ hx, show (ys ++ [(⟨s.f0, x.1⟩ : S71)]).length = m + 1 by rw [List.length_append, HM.out]; rfl]; exact q3⟩, keepsB_trans HK.out q6⟩, Nat.le_trans HSZ.out q4.size⟩, HBB.out.trans q5⟩
      · have hx2 : (s.f1 + 1 == x.1) = false := by rw [beq_eq_false_iff_ne]; exact hx
        gi_wp2_with (gi_at_builtin; refine wpListIn_append_own _ rfl _ _ 22 rfl W0.heap.size 71 i0 _ 2 16 Tryd.underlying22 hi hz0 hz1 hz2 rfl (by decide) _ _ _ rfl (HR2.out.alloc _) ⟨W.heap.size, 0, none⟩ 1 1 [.int .i64 x.1, .int .i64 x.1] rfl rfl (cell_pair_new _ _ _ _) (by simp [Value.oneCell']) (by simp only [maxLen]; omega) (by omega) (by have := HSZ.out; simp; omega) ?_; intro v' w1 hown' hgrow _; obtain ⟨g', cap', rfl⟩ := ownsRow_succ hown'; obtain ⟨q1, q2, q3, q4, q5, q6, q7⟩ := out_put (bs := [0, B, gs, gp']) HV.out HR2.out HSZ.out hn1 (Nat.le_refl _) HBS.out hown' hgrow; have hc1 := q1.cell; have hf1 := q1.frozen)
        exact ⟨q4, q6, ⟨⟨⟨_, q2, by rw [HSN.out, rgStep_miss ys s _ hx, show (ys ++ [s] ++ [(⟨x.1, x.1⟩ : S71)]).length = m + 1 + 1 by rw [List.length_append, List.length_append, HM.out]; rfl, flat71_snoc]; exact q3⟩, keepsB_trans HK.out q6⟩, q7⟩, HBB.out.trans q5⟩
  case done =>
    rintro D xs W hD hS ⟨⟨⟨⟨v, hv, hrow⟩, hk⟩, hsz⟩, hB⟩ hK
    have hxs : valL xs = vals M f r := hS
    rw [hxs] at hrow
    obtain ⟨A, c, rfl⟩ := row_form hrow
    have hc := hv.cell
    have hlen : (rg (vals M f r)).length ≤ 65536 := by
      have h1 := (rg_props (fun _ => True) (fun _ => True) (fun _ _ => trivial) (fun _ _ _ _ => trivial) (vals M f r) (fun _ _ => trivial)).2
      have h2 := valsTo_len M f r.toNat
      unfold vals at h1 ⊢
      omega
    have HS2 := Lib.hid hrow; have HB3 := Lib.hid hB; have HK1 := Lib.hid hK
    clear hS hrow hB hk hst
    by_cases hbig : 4096 < (rg (vals M f r)).length
    · have hb1 : decide (4096 < ((rg (vals M f r)).length : Int)) = true := decide_eq_true (by omega)
      gi_wp2_with fail
      go_wp2_with fail
      refine ⟨by simp, .inl ⟨_, _, rfl, run_takeDeferred hK, ?_⟩⟩
      refine ⟨_, by simp [results, Tryd.results13, go_sem]; rfl, ?_⟩
      exact ⟨.inl ⟨hbig, rfl⟩, HB3.out.trans (belowK_b (w := w) (Nat.le_refl _) W D _ _ (by omega) hK rfl rfl)⟩
    · have hb1 : decide (4096 < ((rg (vals M f r)).length : Int)) = false := decide_eq_false (by omega)
      gi_wp2_with fail
      go_wp2_with fail
      refine ⟨by simp, .inl ⟨_, _, rfl, run_takeDeferred hK, ?_⟩⟩
      refine ⟨_, by simp [results, Tryd.results13, go_sem]; rfl, ?_⟩
      exact ⟨.inr ⟨by omega, _, rfl, own_weaken (ownsRow_putObj HS2.out _ hK rfl) hn1⟩, HB3.out.trans (belowK_b (w := w) (Nat.le_refl _) W D _ _ (by omega) hK rfl rfl)⟩
  case stop =>
    rintro D c pre W _ _ h _
    exact h.elim

end Go.Proofs.YtfkbkcdiajjljaaDoor.PBitsSteps
