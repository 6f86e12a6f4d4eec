/- Parts of the laws of bits: functions of the program, each with the proof of what it answers; the conditions are those of each theorem. -/
import Derived.Test.YtfkbkcdiajjljaaDoorBzcd
namespace Go.Proofs.YtfkbkcdiajjljaaDoor.PBitsSteps
open Go.RowKit Go.Proofs.YtfkbkcdiajjljaaDoorW.PrintWords Go.Proofs.YtfkbkcdiajjljaaDoorW.PrintLast Go.Proofs.YtfkbkcdiajjljaaDoorW.PrintMore
set_option linter.unusedVariables false
set_option linter.unusedSimpArgs false
/-! ### Or of two sets -/
def joinM (M : Int → Bool) (pre : List Int) (x : Int) : Bool := decide (x ∈ pre) || M x
theorem joinM_nil (M : Int → Bool) (x : Int) : M x = joinM M [] x := by simp [joinM]
theorem joinM_snoc (M : Int → Bool) (pre : List Int) (v x : Int) : (x == v || joinM M pre x) = joinM M (pre ++ [v]) x := by
  unfold joinM
  by_cases e : x = v
  · subst e; simp
  · simp [e]
theorem joinM_any (M : Int → Bool) (pre : List Int) (v : Int) : (anyOut M pre || !joinM M pre v) = anyOut M (pre ++ [v]) := by
  unfold joinM
  rw [anyOut_snoc]
  by_cases e : v ∈ pre
  · cases hm : M v with
    | true => simp [hm]
    | false =>
      have : anyOut M pre = true := by unfold anyOut; rw [List.any_eq_true]; exact ⟨v, e, by simp [hm]⟩
      simp [this]
  · simp [e]
theorem SetAt.fits {w : World} {g gp : Nat} {f r : Int} {M : Int → Bool} (h : SetAt w g gp f r M) (v : Int) :
    Calls Tryd.prog 41 #[setP g, .int .i64 v] w fun e w' => e = .returned (.bool (decide (f ≤ v ∧ v < f + r))) ∧ Drawn0 w w' := by
  obtain ⟨n, c, ws, cs, h1, h2, h3, h4, h5, h6⟩ := h
  have := bits_fits.calls g f r _ n c v w h1
  rw [h6.fits] at this
  exact this
theorem SetAt.add2 {w : World} {g gp : Nat} {f r : Int} {M : Int → Bool} (h : SetAt w g gp f r M) (v : Int) (hv : f ≤ v ∧ v < f + r) (B : Nat) (hB : B ≤ gp) :
    Calls Tryd.prog 21 #[setP g, .int .i64 v] w fun e w' => e = .returned (.tuple #[.bool (!M v), .int .i64 0]) ∧ SetAt w' g gp f r (fun x => x == v || M x) ∧ (∀ b, b ≠ gp → w'.heap[b]? = w.heap[b]?) ∧ Below B w w' := by
  refine (h.add v hv).mono ?_
  rintro e w' ⟨rfl, ⟨m, i, u, rfl⟩, hs⟩
  exact ⟨rfl, hs, fun b hb => Below.heap_setCell _ ⟨gp, i, none⟩ u b hb, (pw_below_drewN (Below.refl _ _) m).setCell (p := ⟨gp, i, none⟩) hB u⟩
theorem fits_any {w : World} {g gp : Nat} {f r : Int} {M : Int → Bool} (h : SetAt w g gp f r M) (v : Int) (b : Bool) (hb : decide (f ≤ v ∧ v < f + r) = b) (m : Nat) :
    Calls Tryd.prog 41 #[.pointer (some ⟨g, 0, none⟩), .int .i64 v] (w.drewN m) fun e w'' => e = .returned (.bool b) ∧ ∃ k, w'' = w.drewN k := by
  rw [← hb]
  exact quiet_drawn ((h.drawn m).fits v)
attribute [local go_sem] Oper.semAt_some
open Go.Shelf in
set_option maxRecDepth 100000 in
set_option maxHeartbeats 16000000 in
theorem SetAt.or {w : World} {g gp g2 gp2 : Nat} {f r f2 r2 : Int} {M Mo : Int → Bool} (n0 : Nat) (h : SetAt w g gp f r M) (hL : TabLaid w) (ho : SetAt w g2 gp2 f2 r2 Mo) (hg0 : 0 < gp) (hn : n0 ≤ gp ∧ n0 ≤ w.heap.size) (hfit : ∀ x, Mo x = true → f ≤ x ∧ x < f + r) :
    Calls Tryd.prog 30 #[setP g, setP g2] w fun e w' => e = .returned (.tuple #[.bool (anyOut M (vals Mo f2 r2)), .int .i64 0]) ∧ SetAt w' g gp f r (fun x => Mo x || M x) ∧ keepX [gp] w w' ∧ Below n0 w w' := by
  have hs0 := h
  have hr : 0 < r2 ∧ r2 ≤ 65536 ∧ -1000000 ≤ f2 ∧ f2 + r2 ≤ 1000001 := by
    obtain ⟨n, c, ws, cs, h1, h2, h3, h4, h5, h6⟩ := ho
    exact ⟨h6.room.2.1, h6.room.2.2.1, h6.room.2.2.2⟩
  have hin : ∀ v, Mo v = true → f2 ≤ v ∧ v < f2 + r2 := fun v => ho.inn v
  have hlt := h.lt
  have hlt2 := ho.lt
  have hz : 0 < w.heap.size := by omega
  have HS := Lib.hid hs0; have HL := Lib.hid hL; have HIN := Lib.hid hin; have HO := Lib.hid ho; have HFIT := Lib.hid hfit
  clear hs0 h hL hin ho hfit
  refine (callsIn_wide (n := 5)).1 ?_
  refine callsIn_of_wp_marks Tryd.func30 rfl trivial ?_ rfl
  simp only [Tryd.ntmps30, List.size_toArray, List.length_cons, List.length_nil, Nat.reduceAdd, Nat.reduceSub, Array.replicate_succ, Array.replicate_zero, List.push_toArray, List.append_toArray, List.nil_append, List.cons_append]
  refine wpIn_wide.2 ?_
  have U : setP g = .pointer (some ⟨g, 0, none⟩) := rfl
  have U2 : setP g2 = .pointer (some ⟨g2, 0, none⟩) := rfl
  rw [U, U2]
  have hb1 : Below w.heap.size w (w.alloc (.cells #[.pointer (some ⟨g, 0, none⟩)] 23)) := (Below.refl _ w).alloc (Nat.le_refl _) _
  have bx1 : Boxed (w.alloc (.cells #[.pointer (some ⟨g, 0, none⟩)] 23)) w.heap.size 23 (.pointer (some ⟨g, 0, none⟩)) := Boxed.new w 23 _
  have HB1 := Lib.hid hb1; have HX1 := Lib.hid bx1
  clear hb1 bx1
  go_wp2_with fail
  rw [← U2]
  generalize hW1 : w.alloc (.cells #[.pointer (some ⟨g, 0, none⟩)] 23) = W1 at *
  have hsz1 : W1.heap.size = w.heap.size + 1 := by rw [← hW1]; simp
  clear hW1
  refine ((HO.out.below HB1.out).min (tab_keep HL.out (HB1.out.block 0 hz))).mono ?_
  rintro e w1 ⟨⟨lo, ok, rfl, hlo⟩, ⟨⟨m1, rfl⟩⟩⟩
  rw [U2]
  go_wp2_with fail
  rw [← U2]
  refine (((HO.out.below HB1.out).drawn m1).max).mono ?_
  rintro e w2 ⟨⟨hi, is, rfl, hhi⟩, ⟨⟨m2, rfl⟩⟩⟩
  rw [U2]
  have c1 := HX1.out.cell
  have HSF := Lib.hid (HS.out.below HB1.out)
  have hcase : (ok = false ∧ ∀ x, Mo x = false) ∨ (ok = true ∧ decide (f ≤ lo ∧ lo < f + r) = true ∧ decide (f ≤ hi ∧ hi < f + r) = true) := by
    rcases hlo with ⟨rfl, _, h1, _⟩ | ⟨rfl, _, h2⟩
    · rcases hhi with ⟨_, h3, _⟩ | ⟨_, _, h4⟩
      · exact .inr ⟨rfl, decide_eq_true (HFIT.out lo h1), decide_eq_true (HFIT.out hi h3)⟩
      · rw [h4 lo] at h1; cases h1
    · refine .inl ⟨rfl, fun x => ?_⟩
      cases hm : Mo x with
      | false => rfl
      | true => rw [h2 x (HIN.out x hm).1] at hm; cases hm
  clear hlo hhi
  have HQ : Hid (Boxed W1 w.heap.size 23 (.pointer (some ⟨g, 0, none⟩))) := HX1
  rcases hcase with ⟨rfl, h0⟩ | ⟨rfl, h1, h2⟩
  · clear h0
    go_wp2_with fail
    generalize hW3 : World.alloc _ (.cells #[.bool false] 4) = W3
    have hq : ∃ k, W3 = (W1.drewN k).alloc (.cells #[.bool false] 4) := ⟨_, hW3.symm⟩
    clear hW3 c1
    revert hq
    intro hq
    have hq1 : W3.heap.size = w.heap.size + 1 + 1 ∧ Below W1.heap.size W1 W3 ∧ Boxed W3 (w.heap.size + 1) 4 (.bool false) := by
      obtain ⟨k, rfl⟩ := hq
      refine ⟨by rw [World.size_alloc]; show W1.heap.size + 1 = _; rw [hsz1], (pw_below_drewN (Below.refl _ _) k).alloc (Nat.le_refl _) _, ?_⟩
      have := Boxed.new (W1.drewN k) 4 (.bool false)
      rw [show (W1.drewN k).heap.size = w.heap.size + 1 from hsz1] at this
      exact this
    clear hq
    obtain ⟨hsz3, hB3, bxa⟩ := hq1
    have hB3' : Below w.heap.size w W3 := below_step HB1.out hB3
    have bxs : Boxed W3 w.heap.size 23 (.pointer (some ⟨g, 0, none⟩)) := boxed_below HQ.out hB3
    rw [← U2]
    refine ((HO.out.below hB3').each).mono ?_
    rintro e W0 ⟨B, gc, gpc, rfl, ⟨k1, k2, k3⟩, k4, k5, k6⟩
    rw [hsz3] at k1 k2 k3
    have hBW : Below w.heap.size w W0 := below_step hB3' k6
    have hS0 := HS.out.below hBW
    have b1 := boxed_below bxs k6
    have b3 := boxed_below bxa k6
    have hL0 : TabLaid W0 := tab_keep HL.out (hBW.block 0 hz)
    have hltB := k4.lt
    have hlt' := k5.lt
    have hws := k6.size
    rw [hsz3] at hws
    have hst := each_stops (5 - 1) (by decide) B gc gpc f2 r2 Mo W0 k4 k5 hL0 (by omega) hr HIN.out
    have HBX1 := Lib.hid b1; have HBX3 := Lib.hid b3; have HS0 := Lib.hid hS0; have HBW := Lib.hid (hBW.mono hn.2)
    have hKX : keepX [gp] w W0 := ⟨hBW.size, fun b hb _ => hBW.block b hb⟩
    have HKX := Lib.hid hKX
    clear b1 b3 hS0 hBW hKX k4 k5 k6 hB3 hB3' bxs bxa hL0
    go_wp2_with fail
    refine (wpIn_wide (n := 5)).1 ?_
    refine wpIn_rangeFunc_ownF rfl (by decide) (gf := 61) (lb := #[.pointer (some ⟨B, 0, none⟩)]) rfl trivial (enters_of Tryd.func61 (by kernel_rfl) rfl)
      hst (fun h k => keepsB_trans h k)
      (fun W l o o' hl ho hoc _ b hb => World.putObj_heap_other (by simp only [List.mem_cons, List.not_mem_nil, or_false] at hb; omega))
      (Below.refl _ _) (fun _ => rfl)
      (fun (pre : List (Val Mo)) W => ((SetAt W g gp f r (joinM M (valL pre)) ∧ Boxed W (w.heap.size + 1) 4 (.bool (anyOut M (valL pre)))) ∧ keepX [gp, w.heap.size + 1] W0 W) ∧ Below n0 w W)
      (fun _ _ _ => False)
      (OwnFrom.and (OwnFrom.and (OwnFrom.and (ownFrom_setAt _ g gp (by omega) (by omega) _ _ (fun pre : List (Val Mo) => joinM M (valL pre))) (Own.from (boxed_own (w.heap.size + 1) 4 (fun pre : List (Val Mo) => .bool (anyOut M (valL pre)))) _)) (ownFrom_keepX _ _)) (ownFrom_below hn.2 (by omega)))
      (fun _ _ _ _ _ hs _ _ => hs)
      ⟨⟨⟨HS0.out.ext (fun x => joinM_nil _ x), HBX3.out⟩, keepX.refl _ _⟩, HBW.out⟩
      ?act1 ?assign1 ?body1 ?done1 ?stop1
    case assign1 =>
      intro l x W K hK
      gi_wp2
      exact hK
    case body1 =>
      rintro l pre x W ⟨⟨⟨hs, hba⟩, hk⟩, hB⟩ hlt2'
      have hx := HFIT.out x.1 x.2
      have c1 : W.cell? ⟨w.heap.size, 0, none⟩ = some (.pointer (some ⟨g, 0, none⟩)) := Boxed.cell (t := 23) ((hk.2 _ (by omega) (by simp; omega)).trans HBX1.out)
      have hcall := hs.add2 x.1 hx n0 hn.1
      rw [U] at hcall
      have hany := joinM_any M (valL pre) x.1
      have HSB := Lib.hid hs; have HBA := Lib.hid hba; have HK := Lib.hid hk; have HBB := Lib.hid hB; have HC := Lib.hid hcall; have HANY := Lib.hid hany
      clear hs hba hk hB hst hcall hany
      gi_wp2_with (refine ⟨trivial, (CallsIn.inRound l (callsIn_wide.2 HC.out)).mono ?_⟩; rintro e w' ⟨rfl, hs', hk', hb'⟩; have hba' : Boxed w' (w.heap.size + 1) 4 (.bool (anyOut M (valL pre))) := (hk' _ (by omega)).trans HBA.out; have cA := hba'.cell; have fA := hba'.frozen; have HS' := Lib.hid hs'; have HK' := Lib.hid hk'; have HB' := Lib.hid hb'; have HBA' := Lib.hid hba'; clear hs' hk' hb' hba'; generalize joinM M (valL pre) x.1 = jm at *; generalize hao : anyOut M (valL pre) = ao at *; have HAO := Lib.hid hao; clear hao; cases ao)
      all_goals (
        obtain ⟨bv, hbv⟩ : ∃ bv, bv = anyOut M (valL (pre ++ [x])) := ⟨_, rfl⟩
        have hval : valL (pre ++ [x]) = valL pre ++ [x.1] := valL_snoc pre x
        have hfin : ∀ nb : Bool, nb = bv → ownPostK (keepsB [0, B, gc, gpc]) (fun (pre : List (Val Mo)) W => ((SetAt W g gp f r (joinM M (valL pre)) ∧ Boxed W (w.heap.size + 1) 4 (.bool (anyOut M (valL pre)))) ∧ keepX [gp, w.heap.size + 1] W0 W) ∧ Below n0 w W) (fun _ _ _ => False) (pre ++ [x]) W .normal ⟨#[], []⟩ (w'.setCell ⟨w.heap.size + 1, 0, none⟩ (.bool nb)) := by
          rintro nb rfl
          have hkeepW : ∀ b, b ≠ gp → b ≠ w.heap.size + 1 → (w'.setCell ⟨w.heap.size + 1, 0, none⟩ (.bool nb)).heap[b]? = W.heap[b]? := fun b h1 h2 => (Below.heap_setCell w' ⟨w.heap.size + 1, 0, none⟩ (.bool nb) b h2).trans (HK'.out b h1)
          have hsz' : W.heap.size ≤ w'.heap.size := HB'.out.size
          have hsz'' : (w'.setCell ⟨w.heap.size + 1, 0, none⟩ (.bool nb)).heap.size = w'.heap.size := by simp [World.setCell]
          refine ⟨⟨by rw [hsz'']; exact hsz', fun k o hk ho => ?_⟩, fun b hb => ?_, ⟨⟨?_, ?_⟩, Nat.le_trans HK.out.1 (by rw [hsz'']; exact hsz'), fun b hb hx => ?_⟩, ?_⟩
          · rw [hkeepW k (fun e => ?_) (fun e => ?_)]
            · exact hk
            · subst e
              obtain ⟨_, _, _, _, _, q2, _⟩ := HSB.out
              rw [q2] at hk; cases hk; cases ho
            · subst e
              rw [show W.heap[w.heap.size + 1]? = _ from HBA.out] at hk; cases hk; cases ho
          · simp only [List.mem_cons, List.not_mem_nil, or_false] at hb
            exact hkeepW b (by omega) (by omega)
          · refine (HS'.out.keep (Below.heap_setCell w' ⟨w.heap.size + 1, 0, none⟩ (.bool nb) g (by show g ≠ w.heap.size + 1; omega)) (Below.heap_setCell w' ⟨w.heap.size + 1, 0, none⟩ (.bool nb) gp (by show gp ≠ w.heap.size + 1; omega))).ext (fun y => ?_)
            rw [hval]; exact joinM_snoc _ _ _ _
          · rw [← hbv]; exact HBA'.out.set (.bool nb)
          · simp only [List.mem_cons, List.not_mem_nil, or_false, not_or] at hx
            rw [hkeepW b hx.1 hx.2]
            exact HK.out.2 b hb (by simp only [List.mem_cons, List.not_mem_nil, or_false, not_or]; exact hx)
          · exact (HBB.out.trans HB'.out).setCell (p := ⟨w.heap.size + 1, 0, none⟩) (by show n0 ≤ w.heap.size + 1; omega) (.bool nb)
        refine hfin _ ?_
        rw [hbv, hval, ← HANY.out]
        simp)
    case done1 =>
      rintro D xs W hD hS ⟨⟨⟨hs, hba⟩, hk⟩, hB⟩ hK
      have hxs : valL xs = vals Mo f2 r2 := hS
      rw [hxs] at hs hba
      have cA := hba.cell
      have HSB := Lib.hid hs; have HK := Lib.hid hk; have HBB := Lib.hid hB
      clear hs hk hB hst hS
      gi_wp2_with fail
      go_wp2_with fail
      refine ⟨by simp, .inl ⟨_, _, rfl, run_takeDeferred hK, ?_⟩⟩
      refine ⟨_, by simp [results, Tryd.results30, go_sem]; rfl, ?_⟩
      refine ⟨rfl, ?_, ⟨?_, fun b hb hx => ?_⟩, HBB.out.trans (belowK_b (w := w) hn.2 W D _ _ (by omega) hK rfl rfl)⟩
      · refine (HSB.out.keep (World.putObj_heap_other (by omega)) (World.putObj_heap_other (by omega))).ext (fun y => ?_)
        unfold joinM
        congr 1
        rw [Bool.eq_iff_iff, decide_eq_true_iff]
        exact mem_vals Mo f2 r2 HIN.out y
      · have := HK.out.1
        simp
        omega
      · rw [World.putObj_heap_other (by omega)]
        simp only [List.mem_cons, List.not_mem_nil, or_false] at hx
        by_cases e : b = w.heap.size + 1
        · omega
        · rw [HK.out.2 b (by omega) (by simp only [List.mem_cons, List.not_mem_nil, or_false, not_or]; exact ⟨hx, e⟩)]
          exact HKX.out.2 b hb (by simp; exact hx)
    case stop1 =>
      rintro D c pre W _ _ h _
      exact h.elim
  · have H1 := Lib.hid (fits_any ((HS.out.below HB1.out)) lo true h1)
    have H2 := Lib.hid (fits_any ((HS.out.below HB1.out)) hi true h2)
    clear h1 h2
    go_wp2_with fail
    refine (H1.out _).mono ?_
    rintro e w3 ⟨rfl, k3, rfl⟩
    go_wp2_with fail
    refine (H2.out _).mono ?_
    rintro e w3 ⟨rfl, k4, rfl⟩
    go_wp2_with fail
    generalize hW3 : World.alloc _ (.cells #[.bool false] 4) = W3
    have hq : ∃ k, W3 = (W1.drewN k).alloc (.cells #[.bool false] 4) := ⟨_, hW3.symm⟩
    clear hW3 c1
    revert hq
    intro hq
    have hq1 : W3.heap.size = w.heap.size + 1 + 1 ∧ Below W1.heap.size W1 W3 ∧ Boxed W3 (w.heap.size + 1) 4 (.bool false) := by
      obtain ⟨k, rfl⟩ := hq
      refine ⟨by rw [World.size_alloc]; show W1.heap.size + 1 = _; rw [hsz1], (pw_below_drewN (Below.refl _ _) k).alloc (Nat.le_refl _) _, ?_⟩
      have := Boxed.new (W1.drewN k) 4 (.bool false)
      rw [show (W1.drewN k).heap.size = w.heap.size + 1 from hsz1] at this
      exact this
    clear hq
    obtain ⟨hsz3, hB3, bxa⟩ := hq1
    have hB3' : Below w.heap.size w W3 := below_step HB1.out hB3
    have bxs : Boxed W3 w.heap.size 23 (.pointer (some ⟨g, 0, none⟩)) := boxed_below HQ.out hB3
    rw [← U2]
    refine ((HO.out.below hB3').each).mono ?_
    rintro e W0 ⟨B, gc, gpc, rfl, ⟨k1, k2, k3⟩, k4, k5, k6⟩
    rw [hsz3] at k1 k2 k3
    have hBW : Below w.heap.size w W0 := below_step hB3' k6
    have hS0 := HS.out.below hBW
    have b1 := boxed_below bxs k6
    have b3 := boxed_below bxa k6
    have hL0 : TabLaid W0 := tab_keep HL.out (hBW.block 0 hz)
    have hltB := k4.lt
    have hlt' := k5.lt
    have hws := k6.size
    rw [hsz3] at hws
    have hst := each_stops (5 - 1) (by decide) B gc gpc f2 r2 Mo W0 k4 k5 hL0 (by omega) hr HIN.out
    have HBX1 := Lib.hid b1; have HBX3 := Lib.hid b3; have HS0 := Lib.hid hS0; have HBW := Lib.hid (hBW.mono hn.2)
    have hKX : keepX [gp] w W0 := ⟨hBW.size, fun b hb _ => hBW.block b hb⟩
    have HKX := Lib.hid hKX
    clear b1 b3 hS0 hBW hKX k4 k5 k6 hB3 hB3' bxs bxa hL0
    go_wp2_with fail
    refine (wpIn_wide (n := 5)).1 ?_
    refine wpIn_rangeFunc_ownF rfl (by decide) (gf := 61) (lb := #[.pointer (some ⟨B, 0, none⟩)]) rfl trivial (enters_of Tryd.func61 (by kernel_rfl) rfl)
      hst (fun h k => keepsB_trans h k)
      (fun W l o o' hl ho hoc _ b hb => World.putObj_heap_other (by simp only [List.mem_cons, List.not_mem_nil, or_false] at hb; omega))
      (Below.refl _ _) (fun _ => rfl)
      (fun (pre : List (Val Mo)) W => ((SetAt W g gp f r (joinM M (valL pre)) ∧ Boxed W (w.heap.size + 1) 4 (.bool (anyOut M (valL pre)))) ∧ keepX [gp, w.heap.size + 1] W0 W) ∧ Below n0 w W)
      (fun _ _ _ => False)
      (OwnFrom.and (OwnFrom.and (OwnFrom.and (ownFrom_setAt _ g gp (by omega) (by omega) _ _ (fun pre : List (Val Mo) => joinM M (valL pre))) (Own.from (boxed_own (w.heap.size + 1) 4 (fun pre : List (Val Mo) => .bool (anyOut M (valL pre)))) _)) (ownFrom_keepX _ _)) (ownFrom_below hn.2 (by omega)))
      (fun _ _ _ _ _ hs _ _ => hs)
      ⟨⟨⟨HS0.out.ext (fun x => joinM_nil _ x), HBX3.out⟩, keepX.refl _ _⟩, HBW.out⟩
      ?act2 ?assign2 ?body2 ?done2 ?stop2
    case assign2 =>
      intro l x W K hK
      gi_wp2
      exact hK
    case body2 =>
      rintro l pre x W ⟨⟨⟨hs, hba⟩, hk⟩, hB⟩ hlt2'
      have hx := HFIT.out x.1 x.2
      have c1 : W.cell? ⟨w.heap.size, 0, none⟩ = some (.pointer (some ⟨g, 0, none⟩)) := Boxed.cell (t := 23) ((hk.2 _ (by omega) (by simp; omega)).trans HBX1.out)
      have hcall := hs.add2 x.1 hx n0 hn.1
      rw [U] at hcall
      have hany := joinM_any M (valL pre) x.1
      have HSB := Lib.hid hs; have HBA := Lib.hid hba; have HK := Lib.hid hk; have HBB := Lib.hid hB; have HC := Lib.hid hcall; have HANY := Lib.hid hany
      clear hs hba hk hB hst hcall hany
      gi_wp2_with (refine ⟨trivial, (CallsIn.inRound l (callsIn_wide.2 HC.out)).mono ?_⟩; rintro e w' ⟨rfl, hs', hk', hb'⟩; have hba' : Boxed w' (w.heap.size + 1) 4 (.bool (anyOut M (valL pre))) := (hk' _ (by omega)).trans HBA.out; have cA := hba'.cell; have fA := hba'.frozen; have HS' := Lib.hid hs'; have HK' := Lib.hid hk'; have HB' := Lib.hid hb'; have HBA' := Lib.hid hba'; clear hs' hk' hb' hba'; generalize joinM M (valL pre) x.1 = jm at *; generalize hao : anyOut M (valL pre) = ao at *; have HAO := Lib.hid hao; clear hao; cases ao)
      all_goals (
        obtain ⟨bv, hbv⟩ : ∃ bv, bv = anyOut M (valL (pre ++ [x])) := ⟨_, rfl⟩
        have hval : valL (pre ++ [x]) = valL pre ++ [x.1] := valL_snoc pre x
        have hfin : ∀ nb : Bool, nb = bv → ownPostK (keepsB [0, B, gc, gpc]) (fun (pre : List (Val Mo)) W => ((SetAt W g gp f r (joinM M (valL pre)) ∧ Boxed W (w.heap.size + 1) 4 (.bool (anyOut M (valL pre)))) ∧ keepX [gp, w.heap.size + 1] W0 W) ∧ Below n0 w W) (fun _ _ _ => False) (pre ++ [x]) W .normal ⟨#[], []⟩ (w'.setCell ⟨w.heap.size + 1, 0, none⟩ (.bool nb)) := by
          rintro nb rfl
          have hkeepW : ∀ b, b ≠ gp → b ≠ w.heap.size + 1 → (w'.setCell ⟨w.heap.size + 1, 0, none⟩ (.bool nb)).heap[b]? = W.heap[b]? := fun b h1 h2 => (Below.heap_setCell w' ⟨w.heap.size + 1, 0, none⟩ (.bool nb) b h2).trans (HK'.out b h1)
          have hsz' : W.heap.size ≤ w'.heap.size := HB'.out.size
          have hsz'' : (w'.setCell ⟨w.heap.size + 1, 0, none⟩ (.bool nb)).heap.size = w'.heap.size := by simp [World.setCell]
          refine ⟨⟨by rw [hsz'']; exact hsz', fun k o hk ho => ?_⟩, fun b hb => ?_, ⟨⟨?_, ?_⟩, Nat.le_trans HK.out.1 (by rw [hsz'']; exact hsz'), fun b hb hx => ?_⟩, ?_⟩
          · rw [hkeepW k (fun e => ?_) (fun e => ?_)]
            · exact hk
            · subst e
              obtain ⟨_, _, _, _, _, q2, _⟩ := HSB.out
              rw [q2] at hk; cases hk; cases ho
            · subst e
              rw [show W.heap[w.heap.size + 1]? = _ from HBA.out] at hk; cases hk; cases ho
          · simp only [List.mem_cons, List.not_mem_nil, or_false] at hb
            exact hkeepW b (by omega) (by omega)
          · refine (HS'.out.keep (Below.heap_setCell w' ⟨w.heap.size + 1, 0, none⟩ (.bool nb) g (by show g ≠ w.heap.size + 1; omega)) (Below.heap_setCell w' ⟨w.heap.size + 1, 0, none⟩ (.bool nb) gp (by show gp ≠ w.heap.size + 1; omega))).ext (fun y => ?_)
            rw [hval]; exact joinM_snoc _ _ _ _
          · rw [← hbv]; exact HBA'.out.set (.bool nb)
          · simp only [List.mem_cons, List.not_mem_nil, or_false, not_or] at hx
            rw [hkeepW b hx.1 hx.2]
            exact HK.out.2 b hb (by simp only [List.mem_cons, List.not_mem_nil, or_false, not_or]; exact hx)
          · exact (HBB.out.trans HB'.out).setCell (p := ⟨w.heap.size + 1, 0, none⟩) (by show n0 ≤ w.heap.size + 1; omega) (.bool nb)
        refine hfin _ ?_
        rw [hbv, hval, ← HANY.out]
        simp)
    case done2 =>
      rintro D xs W hD hS ⟨⟨⟨hs, hba⟩, hk⟩, hB⟩ hK
      have hxs : valL xs = vals Mo f2 r2 := hS
      rw [hxs] at hs hba
      have cA := hba.cell
      have HSB := Lib.hid hs; have HK := Lib.hid hk; have HBB := Lib.hid hB
      clear hs hk hB hst hS
      gi_wp2_with fail
      go_wp2_with fail
      refine ⟨by simp, .inl ⟨_, _, rfl, run_takeDeferred hK, ?_⟩⟩
      refine ⟨_, by simp [results, Tryd.results30, go_sem]; rfl, ?_⟩
      refine ⟨rfl, ?_, ⟨?_, fun b hb hx => ?_⟩, HBB.out.trans (belowK_b (w := w) hn.2 W D _ _ (by omega) hK rfl rfl)⟩
      · refine (HSB.out.keep (World.putObj_heap_other (by omega)) (World.putObj_heap_other (by omega))).ext (fun y => ?_)
        unfold joinM
        congr 1
        rw [Bool.eq_iff_iff, decide_eq_true_iff]
        exact mem_vals Mo f2 r2 HIN.out y
      · have := HK.out.1
        simp
        omega
      · rw [World.putObj_heap_other (by omega)]
        simp only [List.mem_cons, List.not_mem_nil, or_false] at hx
        by_cases e : b = w.heap.size + 1
        · omega
        · rw [HK.out.2 b (by omega) (by simp only [List.mem_cons, List.not_mem_nil, or_false, not_or]; exact ⟨hx, e⟩)]
          exact HKX.out.2 b hb (by simp; exact hx)
    case stop2 =>
      rintro D c pre W _ _ h _
      exact h.elim

end Go.Proofs.YtfkbkcdiajjljaaDoor.PBitsSteps
