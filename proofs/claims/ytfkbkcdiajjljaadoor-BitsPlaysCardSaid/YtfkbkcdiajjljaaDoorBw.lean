/- Parts of the laws of bits: functions of the program, each with the proof of what it answers; the conditions are those of each theorem. -/
import Derived.Test.YtfkbkcdiajjljaaDoorBv
namespace Go.Proofs.YtfkbkcdiajjljaaDoor.PBitsSteps
open Go.RowKit Go.Proofs.YtfkbkcdiajjljaaDoorW.PrintWords Go.Proofs.YtfkbkcdiajjljaaDoorW.PrintLast Go.Proofs.YtfkbkcdiajjljaaDoorW.PrintMore
set_option linter.unusedVariables false
set_option linter.unusedSimpArgs false
attribute [local go_sem] Oper.semAt_some
open Go.Shelf in
set_option maxRecDepth 100000 in
set_option maxHeartbeats 4000000 in
theorem keep_minus {w : World} {g gp : Nat} {f r : Int} {M0 Mo : Int → Bool} {p : Value} {bs : List Nat} {bx : Nat} (hbx : Boxed w bx 23 p) (hbg : bx ≠ gp) (n0 : Nat) (h : SetAt w g gp f r M0) (hL : TabLaid w) (ho : OSet w p bs Mo) (hbs : gp ∉ bs) (hg0 : 0 < gp) (hn : n0 ≤ gp ∧ n0 ≤ w.heap.size) :
    Calls Tryd.prog 58 #[setP g, .func (.func 59) #[] #[.pointer (some ⟨bx, 0, none⟩)]] w fun e w' => e = .returned (.bool (anyOut (fun x => !Mo x) (vals M0 f r))) ∧ SetAt w' g gp f r (fun x => M0 x && (fun x => !Mo x) x) ∧ keepX [gp] w w' ∧ Below n0 w w' := by
  have hs0 := h
  have hr : 0 < r ∧ r ≤ 65536 ∧ -1000000 ≤ f ∧ f + r ≤ 1000001 := by
    obtain ⟨n, c, ws, cs, h1, h2, h3, h4, h5, h6⟩ := h
    exact ⟨h6.room.2.1, h6.room.2.2.1, h6.room.2.2.2⟩
  have hin := fun v => h.inn v
  have hlt := h.lt
  have hz : 0 < w.heap.size := by omega
  have hob := ho.lt
  have HS := Lib.hid hs0; have HL := Lib.hid hL; have HIN := Lib.hid hin; have HO := Lib.hid ho; have HOB := Lib.hid hob; have HBS := Lib.hid hbs
  have HBX := Lib.hid hbx; have hbxl := hbx.lt
  clear hbx
  clear hs0 h hL hin ho hob hbs
  refine (callsIn_wide (n := 5)).1 ?_
  refine callsIn_of_wp_marks Tryd.func58 rfl trivial ?_ rfl
  simp only [Tryd.ntmps58, List.size_toArray, List.length_cons, List.length_nil, Nat.reduceAdd, Nat.reduceSub, Array.replicate_succ, Array.replicate_zero, List.push_toArray, List.append_toArray, List.nil_append, List.cons_append]
  refine wpIn_wide.2 ?_
  have U : setP g = .pointer (some ⟨g, 0, none⟩) := rfl
  rw [U]
  go_wp2_with fail
  rw [← U]
  generalize hW3 : World.alloc _ (.cells #[.bool false] 4) = W3
  have hsz3 : W3.heap.size = w.heap.size + 3 := by rw [← hW3]; simp
  have hB3 : Below w.heap.size w W3 := by rw [← hW3]; exact (((Below.refl _ w).alloc (Nat.le_refl _) _).alloc (by simp) _).alloc (by simp; omega) _
  have bxs : Boxed W3 w.heap.size 23 (setP g) := by
    rw [← hW3]; exact ((Boxed.new w 23 _).alloc _).alloc _
  have bxw : Boxed W3 (w.heap.size + 1) 31 (.func (.func 59) #[] #[.pointer (some ⟨bx, 0, none⟩)]) := by
    rw [← hW3]
    have := Boxed.new (w.alloc (.cells #[setP g] 23)) 31 (.func (.func 59) #[] #[.pointer (some ⟨bx, 0, none⟩)])
    rw [World.size_alloc] at this
    exact this.alloc _
  have bxa : Boxed W3 (w.heap.size + 1 + 1) 4 (.bool false) := by
    rw [← hW3]
    have := Boxed.new ((w.alloc (.cells #[setP g] 23)).alloc (.cells #[.func (.func 59) #[] #[.pointer (some ⟨bx, 0, none⟩)]] 31)) 4 (.bool false)
    rw [World.size_alloc, World.size_alloc] at this
    exact this
  clear hW3
  refine ((HS.out.below hB3).each).mono ?_
  rintro e W0 ⟨B, gc, gpc, rfl, ⟨k1, k2, k3⟩, k4, k5, k6⟩
  rw [hsz3] at k1 k2 k3
  have hBW : Below w.heap.size w W0 := below_step hB3 k6
  have hS0 := HS.out.below hBW
  have b1 := boxed_below bxs k6
  have b2 := boxed_below bxw k6
  have b3 := boxed_below bxa k6
  have hL0 : TabLaid W0 := tab_keep HL.out (hBW.block 0 hz)
  have hO0 := HO.out.below hBW
  have hltB := k4.lt
  have hlt' := k5.lt
  have hws := k6.size
  rw [hsz3] at hws
  have hst := each_stops (5 - 1) (by decide) B gc gpc f r M0 W0 k4 k5 hL0 (by omega) hr HIN.out
  have HB1 := Lib.hid b1; have HB2 := Lib.hid b2; have HB3 := Lib.hid b3; have HS0 := Lib.hid hS0; have HO0 := Lib.hid hO0; have HBW := Lib.hid (hBW.mono hn.2)
  have hKX : keepX [gp] w W0 := ⟨hBW.size, fun b hb _ => hBW.block b hb⟩
  have HKX := Lib.hid hKX
  clear b1 b2 b3 hS0 hO0 hBW hKX k4 k5 k6 hB3 bxs bxw bxa hL0
  go_wp2_with fail
  refine (wpIn_wide (n := 5)).1 ?_
  refine wpIn_rangeFunc_ownF rfl (by decide) (gf := 61) (lb := #[.pointer (some ⟨B, 0, none⟩)]) rfl trivial (enters_of Tryd.func61 (by kernel_rfl) rfl)
    hst (fun h k => keepsB_trans h k)
    (fun W l o o' hl ho hoc _ b hb => World.putObj_heap_other (by simp only [List.mem_cons, List.not_mem_nil, or_false] at hb; omega))
    (Below.refl _ _) (fun _ => rfl)
    (fun (pre : List (Val M0)) W => ((SetAt W g gp f r (keptM M0 (fun x => !Mo x) (valL pre)) ∧ Boxed W (w.heap.size + 1 + 1) 4 (.bool (anyOut (fun x => !Mo x) (valL pre)))) ∧ keepX [gp, w.heap.size + 1 + 1] W0 W) ∧ Below n0 w W)
    (fun _ _ _ => False)
    (OwnFrom.and (OwnFrom.and (OwnFrom.and (ownFrom_setAt _ g gp (by omega) (by omega) _ _ (fun pre : List (Val M0) => keptM M0 (fun x => !Mo x) (valL pre))) (Own.from (boxed_own (w.heap.size + 1 + 1) 4 (fun pre : List (Val M0) => .bool (anyOut (fun x => !Mo x) (valL pre)))) _)) (ownFrom_keepX _ _)) (ownFrom_below hn.2 (by omega)))
    (fun _ _ _ _ _ hs _ _ => hs)
    ⟨⟨⟨HS0.out.ext (fun x => (keptM_nil _ _ x).symm), HB3.out⟩, keepX.refl _ _⟩, HBW.out⟩
    (fun x => { tmps := #[.pointer (some ⟨g, 0, none⟩), .func (.func 59) #[] #[.pointer (some ⟨bx, 0, none⟩)], .pointer (some ⟨w.heap.size, 0, none⟩), .pointer (some ⟨w.heap.size + 1, 0, none⟩), .bool false, .pointer (some ⟨w.heap.size + 1 + 1, 0, none⟩), .int .i64 x.1, .pointer (some ⟨g, 0, none⟩), .func (.func 61) #[] #[.pointer (some ⟨B, 0, none⟩)], .int .i64 x.1, undef, undef, undef, undef, undef, undef, undef, undef], defers := [] }) ?assign ?body ?done ?stop
  case assign =>
    intro l x W K hK
    gi_wp2
    exact hK
  case body =>
    rintro l pre x W ⟨⟨⟨hs, hba⟩, hk⟩, hB⟩ hlt2
    have hx := HIN.out x.1 x.2
    have c1 : W.cell? ⟨w.heap.size, 0, none⟩ = some (.pointer (some ⟨g, 0, none⟩)) := Boxed.cell (t := 23) ((hk.2 _ (by omega) (by simp; omega)).trans HB1.out)
    have c2 : W.cell? ⟨w.heap.size + 1, 0, none⟩ = some (.func (.func 59) #[] #[.pointer (some ⟨bx, 0, none⟩)]) := Boxed.cell (t := 31) ((hk.2 _ (by omega) (by simp; omega)).trans HB2.out)
    have hOW : OSet W p bs Mo := HO0.out.keep (hk.keepsB (fun b hb => ⟨by have := HOB.out b hb; omega, by
      have := HOB.out b hb
      simp only [List.mem_cons, List.not_mem_nil, or_false, not_or]
      exact ⟨fun e => HBS.out (e ▸ hb), by omega⟩⟩))
    have hcall := minus1_calls hOW (bx := bx) ((hk.2 bx (by omega) (by simp only [List.mem_cons, List.not_mem_nil, or_false, not_or]; omega)).trans ((HKX.out.2 bx hbxl (by simp only [List.mem_cons, List.not_mem_nil, or_false]; exact hbg)).trans HBX.out)) x.1
    have HSB := Lib.hid hs; have HBA := Lib.hid hba; have HK := Lib.hid hk; have HBB := Lib.hid hB
    clear hs hba hk hB hst hOW
    have hcall : Calls Tryd.prog 59 #[.int .i64 x.1, .pointer (some ⟨bx, 0, none⟩)] W fun e w' => e = .returned (.bool ((fun x => !Mo x) x.1)) ∧ Drawn0 W w' := hcall
    cases hMo : (fun x => !Mo x) x.1 with
    | true =>
      rw [hMo] at hcall
      have HC := Lib.hid hcall
      clear hcall
      gi_wp2_with (refine ⟨trivial, (CallsIn.inRound l (callsIn_wide.2 HC.out)).mono ?_⟩; rintro e w' ⟨rfl, ⟨⟨m, rfl⟩⟩⟩)
      refine ⟨⟨Nat.le_refl _, fun _ _ h _ => h⟩, fun b hb => rfl, ⟨⟨(HSB.out.drawn m).ext (fun y => ?_), ?_⟩, HK.out⟩, pw_below_drewN HBB.out m⟩
      · rw [valL_snoc]; exact keptM_stay _ _ _ _ hMo y
      · have e : anyOut (fun x => !Mo x) (valL (pre ++ [x])) = anyOut (fun x => !Mo x) (valL pre) := by rw [valL_snoc]; simp only [anyOut, List.any_append, List.any_cons, List.any_nil, Bool.or_false]; simp [hMo]
        rw [e]; exact HBA.out
    | false =>
      rw [hMo] at hcall
      have HC := Lib.hid hcall
      clear hcall
      gi_wp2_with (refine ⟨trivial, (CallsIn.inRound l (callsIn_wide.2 HC.out)).mono ?_⟩; rintro e w' ⟨rfl, ⟨⟨m, rfl⟩⟩⟩)
      rw [← U]
      refine ⟨trivial, (CallsIn.inRound l (callsIn_wide.2 ((HSB.out.drawn m).del2 x.1 n0 hn.1))).mono ?_⟩
      rintro e w' ⟨rfl, hs', hk', hb'⟩
      have hba' : Boxed w' (w.heap.size + 1 + 1) 4 (.bool (anyOut (fun x => !Mo x) (valL pre))) := (hk' _ (by omega)).trans HBA.out
      have cA := hba'.cell
      have fA := hba'.frozen
      have HS' := Lib.hid hs'; have HK' := Lib.hid hk'; have HB' := Lib.hid hb'; have HBA' := Lib.hid hba'
      clear hs' hk' hb' hba'
      rw [U]
      gi_wp2
      have hbig : w'.heap.size = w'.heap.size := rfl
      have hkeepW : ∀ b, b ≠ gp → b ≠ w.heap.size + 1 + 1 → (w'.setCell ⟨w.heap.size + 1 + 1, 0, none⟩ (.bool true)).heap[b]? = W.heap[b]? := fun b h1 h2 => (Below.heap_setCell w' ⟨w.heap.size + 1 + 1, 0, none⟩ (.bool true) b h2).trans (HK'.out b h1)
      have hsz' : W.heap.size ≤ w'.heap.size := HB'.out.size
      have hsz'' : (w'.setCell ⟨w.heap.size + 1 + 1, 0, none⟩ (.bool true)).heap.size = w'.heap.size := by simp [World.setCell]
      refine ⟨⟨by rw [hsz'']; exact hsz', fun k o hk ho => ?_⟩, fun b hb => ?_, ⟨⟨?_, ?_⟩, Nat.le_trans HK.out.1 (by rw [hsz'']; exact hsz'), fun b hb hx => ?_⟩, ?_⟩
      · rw [hkeepW k (fun e => ?_) (fun e => ?_)]
        · exact hk
        · subst e
          obtain ⟨_, _, _, _, _, q2, _⟩ := HSB.out
          rw [q2] at hk; cases hk; cases ho
        · subst e
          rw [show W.heap[w.heap.size + 1 + 1]? = _ from HBA.out] at hk; cases hk; cases ho
      · simp only [List.mem_cons, List.not_mem_nil, or_false] at hb
        exact hkeepW b (by omega) (by omega)
      · refine (HS'.out.keep (Below.heap_setCell w' ⟨w.heap.size + 1 + 1, 0, none⟩ (.bool true) g (by show g ≠ w.heap.size + 1 + 1; omega)) (Below.heap_setCell w' ⟨w.heap.size + 1 + 1, 0, none⟩ (.bool true) gp (by show gp ≠ w.heap.size + 1 + 1; omega))).ext (fun y => ?_)
        rw [valL_snoc]; exact keptM_drop _ _ _ _ hMo y
      · have e : anyOut (fun x => !Mo x) (valL (pre ++ [x])) = true := by rw [valL_snoc]; simp only [anyOut, List.any_append, List.any_cons, List.any_nil, Bool.or_false]; simp [hMo]
        rw [e]; exact HBA'.out.set (.bool true)
      · simp only [List.mem_cons, List.not_mem_nil, or_false, not_or] at hx
        rw [hkeepW b hx.1 hx.2]
        exact HK.out.2 b hb (by simp only [List.mem_cons, List.not_mem_nil, or_false, not_or]; exact hx)
      · exact ((HBB.out.trans (pw_below_drewN (Below.refl _ _) m)).trans HB'.out).setCell (p := ⟨w.heap.size + 1 + 1, 0, none⟩) (by show n0 ≤ w.heap.size + 1 + 1; omega) (.bool true)
  case done =>
    rintro D xs W hD hS ⟨⟨⟨hs, hba⟩, hk⟩, hB⟩ hK
    have hxs : valL xs = vals M0 f r := hS
    rw [hxs] at hs hba
    have cA := hba.cell
    have HSB := Lib.hid hs; have HK := Lib.hid hk; have HBB := Lib.hid hB
    clear hs hk hB hst hS
    gi_wp2_with fail
    go_wp2_with fail
    refine ⟨by simp, .inl ⟨_, _, rfl, run_takeDeferred hK, ?_⟩⟩
    refine ⟨_, by simp [results, Tryd.results58, go_sem]; rfl, ?_⟩
    refine ⟨rfl, ?_, ⟨?_, fun b hb hx => ?_⟩, HBB.out.trans (belowK_b (w := w) hn.2 W D _ _ (by omega) hK rfl rfl)⟩
    · refine (HSB.out.keep (World.putObj_heap_other (by omega)) (World.putObj_heap_other (by omega))).ext (fun y => ?_)
      exact keptM_all _ _ _ (fun v hv => (mem_vals M0 f r HIN.out v).2 hv) y
    · have := HK.out.1
      simp
      omega
    · rw [World.putObj_heap_other (by omega)]
      simp only [List.mem_cons, List.not_mem_nil, or_false] at hx
      by_cases e : b = w.heap.size + 1 + 1
      · omega
      · rw [HK.out.2 b (by omega) (by simp only [List.mem_cons, List.not_mem_nil, or_false, not_or]; exact ⟨hx, e⟩)]
        exact HKX.out.2 b hb (by simp; exact hx)
  case stop =>
    rintro D c pre W _ _ h _
    exact h.elim

end Go.Proofs.YtfkbkcdiajjljaaDoor.PBitsSteps
