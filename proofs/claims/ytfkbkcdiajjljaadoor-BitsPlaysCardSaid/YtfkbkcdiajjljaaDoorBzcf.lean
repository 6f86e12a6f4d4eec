/- Parts of the laws of bits: functions of the program, each with the proof of what it answers; the conditions are those of each theorem. -/
import Derived.Test.YtfkbkcdiajjljaaDoorBzce
namespace Go.Proofs.YtfkbkcdiajjljaaDoor.PBitsSteps
open Go.RowKit Go.Proofs.YtfkbkcdiajjljaaDoorW.PrintWords Go.Proofs.YtfkbkcdiajjljaaDoorW.PrintLast Go.Proofs.YtfkbkcdiajjljaaDoorW.PrintMore
set_option linter.unusedVariables false
set_option linter.unusedSimpArgs false
theorem sorted_sub : ∀ (l2 l1 : List Int), l1.Pairwise (· < ·) → l2.Pairwise (· < ·) → (∀ x ∈ l1, x ∈ l2) → l1.length ≤ l2.length ∧ (l1.length = l2.length → l1 = l2)
  | [], l1, _, _, h => by
    cases l1 with
    | nil => simp
    | cons x t => have := h x (by simp); cases this
  | y :: t2, [], _, _, _ => by simp
  | y :: t2, x :: t1, h1, h2, h => by
    rw [List.pairwise_cons] at h1 h2
    by_cases e : x = y
    · subst e
      have := sorted_sub t2 t1 h1.2 h2.2 (fun z hz => by
        have h3 := h z (by simp [hz])
        have h4 := h1.1 z hz
        simp only [List.mem_cons] at h3
        rcases h3 with rfl | h3
        · omega
        · exact h3)
      refine ⟨by simp [this.1], fun hl => ?_⟩
      rw [this.2 (by simpa using hl)]
    · have hx : x ∈ t2 := by have := h x (by simp); simp only [List.mem_cons] at this; exact this.resolve_left e
      have hyx := h2.1 x hx
      have := sorted_sub t2 (x :: t1) (by rw [List.pairwise_cons]; exact h1) h2.2 (fun z hz => by
        have h3 := h z hz
        simp only [List.mem_cons] at h3 hz
        rcases h3 with rfl | h3
        · exfalso
          rcases hz with rfl | hz
          · exact e rfl
          · have := h1.1 z hz; omega
        · exact h3)
      have h5 := this.1
      exact ⟨by simp only [List.length_cons] at h5 ⊢; omega, fun hl => by simp only [List.length_cons] at h5 hl; omega⟩
set_option maxRecDepth 100000 in
set_option maxHeartbeats 8000000 in
theorem SetAt.or_out {w : World} {g gp g2 gp2 : Nat} {f r f2 r2 : Int} {M Mo : Int → Bool} (h : SetAt w g gp f r M) (hL : TabLaid w) (ho : SetAt w g2 gp2 f2 r2 Mo) (hout : ∃ x, Mo x = true ∧ ¬ (f ≤ x ∧ x < f + r)) :
    Calls Tryd.prog 30 #[setP g, setP g2] w fun e w' => e = .returned (.tuple #[.bool false, .int .i64 20]) ∧ Below w.heap.size w w' := by
  have hin : ∀ v, Mo v = true → f2 ≤ v ∧ v < f2 + r2 := fun v => ho.inn v
  have hlt := h.lt
  have hz : 0 < w.heap.size := by omega
  have HS := Lib.hid h; have HL := Lib.hid hL; have HIN := Lib.hid hin; have HO := Lib.hid ho; have HOUT := Lib.hid hout
  clear h hL hin ho hout
  have U : setP g = .pointer (some ⟨g, 0, none⟩) := rfl
  have U2 : setP g2 = .pointer (some ⟨g2, 0, none⟩) := rfl
  rw [U, U2]
  have hb1 : Below w.heap.size w (w.alloc (.cells #[.pointer (some ⟨g, 0, none⟩)] 23)) := (Below.refl _ w).alloc (Nat.le_refl _) _
  have bx1 : Boxed (w.alloc (.cells #[.pointer (some ⟨g, 0, none⟩)] 23)) w.heap.size 23 (.pointer (some ⟨g, 0, none⟩)) := Boxed.new w 23 _
  have HB1 := Lib.hid hb1; have HX1 := Lib.hid bx1
  clear hb1 bx1
  go_enter Tryd.func30, Tryd.ntmps30
  go_wp2_with fail
  rw [← U2]
  generalize hW1 : w.alloc (.cells #[.pointer (some ⟨g, 0, none⟩)] 23) = W1 at *
  clear hW1
  refine ((HO.out.below HB1.out).min (tab_keep HL.out (HB1.out.block 0 hz))).mono ?_
  rintro e w1 ⟨⟨lo, ok, rfl, hlo⟩, ⟨⟨m1, rfl⟩⟩⟩
  rw [U2]
  go_wp2_with fail
  rw [← U2]
  refine (((HO.out.below HB1.out).drawn m1).max).mono ?_
  rintro e w2 ⟨⟨hi, is, rfl, hhi⟩, ⟨⟨m2, rfl⟩⟩⟩
  rw [U2]
  have c1 := HX1.out.cell
  have hcase : ok = true ∧ (decide (f ≤ lo ∧ lo < f + r) = false ∨ decide (f ≤ lo ∧ lo < f + r) = true ∧ decide (f ≤ hi ∧ hi < f + r) = false) := by
    obtain ⟨x, hx, hxf⟩ := HOUT.out
    rcases hlo with ⟨rfl, _, h1, h1b⟩ | ⟨rfl, _, h2⟩
    · refine ⟨rfl, ?_⟩
      rcases hhi with ⟨_, h3, h3b⟩ | ⟨_, _, h4⟩
      · have q1 : lo ≤ x := by
          rcases Int.lt_or_le x lo with hl | hl
          · rw [h1b x (HIN.out x hx).1 hl] at hx; cases hx
          · exact hl
        have q2 : x ≤ hi := by
          rcases Int.lt_or_le hi x with hl | hl
          · rw [h3b x hl] at hx; cases hx
          · exact hl
        by_cases e1 : f ≤ lo ∧ lo < f + r
        · exact .inr ⟨decide_eq_true e1, decide_eq_false (by omega)⟩
        · exact .inl (decide_eq_false e1)
      · rw [h4 lo] at h1; cases h1
    · rw [h2 x (HIN.out x hx).1] at hx; cases hx
  clear hlo hhi
  obtain ⟨rfl, h1 | ⟨h1, h2⟩⟩ := hcase
  · have H1 := Lib.hid (fits_any ((HS.out.below HB1.out)) lo false h1)
    clear h1
    go_wp2_with fail
    refine (H1.out _).mono ?_
    rintro e w3 ⟨rfl, k3, rfl⟩
    go_wp2_with fail
    go_ret2
    exact ⟨rfl, pw_below_drewN HB1.out _⟩
  · have H1 := Lib.hid (fits_any ((HS.out.below HB1.out)) lo true h1)
    have H2 := Lib.hid (fits_any ((HS.out.below HB1.out)) hi false h2)
    clear h1 h2
    go_wp2_with fail
    refine (H1.out _).mono ?_
    rintro e w3 ⟨rfl, k3, rfl⟩
    go_wp2_with fail
    refine (H2.out _).mono ?_
    rintro e w3 ⟨rfl, k4, rfl⟩
    go_wp2_with fail
    go_ret2
    exact ⟨rfl, pw_below_drewN HB1.out _⟩
def SameS (w : World) (g2 n0 n1 : Nat) (v : World) : Prop := Boxed v n0 23 (.pointer (some ⟨g2, 0, none⟩)) ∧ Boxed v n1 4 (.bool false) ∧ Below w.heap.size w v
theorem SameS.all {w : World} {g2 n0 n1 : Nat} {v : World} (h : SameS w g2 n0 n1 v) : v.cell? ⟨n0, 0, none⟩ = some (.pointer (some ⟨g2, 0, none⟩)) ∧ SameS w g2 n0 n1 v := ⟨h.1.cell, h⟩
theorem SameS.step {w : World} {g2 n0 n1 : Nat} {v v' : World} (h : SameS w g2 n0 n1 v) (hb : Below v.heap.size v v') : SameS w g2 n0 n1 v' := ⟨boxed_below h.1 hb, boxed_below h.2.1 hb, below_step h.2.2 hb⟩
attribute [local go_sem] Oper.semAt_some
open Go.Shelf in
set_option maxRecDepth 100000 in
set_option maxHeartbeats 16000000 in
theorem SetAt.same {w : World} {g gp g2 gp2 : Nat} {f r f2 r2 : Int} {M Mo : Int → Bool} (h : SetAt w g gp f r M) (hL : TabLaid w) (ho : SetAt w g2 gp2 f2 r2 Mo) :
    Calls Tryd.prog 26 #[setP g, setP g2] w fun e w' => e = .returned (.bool (decide (vals M f r = vals Mo f2 r2))) ∧ Below w.heap.size w w' := by
  have hin2 : ∀ v, Mo v = true → f2 ≤ v ∧ v < f2 + r2 := fun v => ho.inn v
  have hin : ∀ v, M v = true → f ≤ v ∧ v < f + r := fun v => h.inn v
  have hr : 0 < r ∧ r ≤ 65536 ∧ -1000000 ≤ f ∧ f + r ≤ 1000001 := by
    obtain ⟨n, c, ws, cs, h1, h2, h3, h4, h5, h6⟩ := h
    exact ⟨h6.room.2.1, h6.room.2.2.1, h6.room.2.2.2⟩
  have hlt := h.lt
  have hlt2 := ho.lt
  have hz : 0 < w.heap.size := by omega
  have HS := Lib.hid h; have HL := Lib.hid hL; have HIN := Lib.hid hin; have HIN2 := Lib.hid hin2; have HO := Lib.hid ho
  clear h hL hin hin2 ho
  have hb1 : Below w.heap.size w ((w.alloc (.cells #[.pointer (some ⟨g2, 0, none⟩)] 23)).alloc (.cells #[.bool false] 4)) := ((Below.refl _ w).alloc (Nat.le_refl _) _).alloc (by simp) _
  have bx1 : Boxed ((w.alloc (.cells #[.pointer (some ⟨g2, 0, none⟩)] 23)).alloc (.cells #[.bool false] 4)) w.heap.size 23 (.pointer (some ⟨g2, 0, none⟩)) := (Boxed.new w 23 _).alloc _
  have bx2 : Boxed ((w.alloc (.cells #[.pointer (some ⟨g2, 0, none⟩)] 23)).alloc (.cells #[.bool false] 4)) (w.heap.size + 1) 4 (.bool false) := by
    have := Boxed.new (w.alloc (.cells #[.pointer (some ⟨g2, 0, none⟩)] 23)) 4 (.bool false)
    rw [World.size_alloc] at this
    exact this
  have hS : SameS w g2 w.heap.size (w.heap.size + 1) ((w.alloc (.cells #[.pointer (some ⟨g2, 0, none⟩)] 23)).alloc (.cells #[.bool false] 4)).drew := ⟨bx1, bx2, hb1.drew⟩
  have hsz1 : ((w.alloc (.cells #[.pointer (some ⟨g2, 0, none⟩)] 23)).alloc (.cells #[.bool false] 4)).heap.size = w.heap.size + 1 + 1 := by simp
  clear hb1 bx1 bx2
  have U : setP g = .pointer (some ⟨g, 0, none⟩) := rfl
  have U2 : setP g2 = .pointer (some ⟨g2, 0, none⟩) := rfl
  obtain ⟨n1, hn1⟩ : ∃ n, n = (vals M f r).length := ⟨_, rfl⟩
  obtain ⟨n2, hn2⟩ : ∃ n, n = (vals Mo f2 r2).length := ⟨_, rfl⟩
  have HS1 := Lib.hid (fun W (hb : Below w.heap.size w W) => (HS.out.below hb).size)
  have HO1 := Lib.hid (fun W (hb : Below w.heap.size w W) => (HO.out.below hb).size)
  rw [← hn1, U] at HS1
  rw [← hn2, U2] at HO1
  have HN1 := Lib.hid hn1; have HN2 := Lib.hid hn2
  clear hn1 hn2
  by_cases hne : n1 = n2
  · subst hne
    rw [U, U2]
    refine (callsIn_wide (n := 5)).1 ?_
    refine callsIn_of_wp_marks Tryd.func26 rfl trivial ?_ rfl
    simp only [Tryd.ntmps26, List.size_toArray, List.length_cons, List.length_nil, Nat.reduceAdd, Nat.reduceSub, Array.replicate_succ, Array.replicate_zero, List.push_toArray, List.append_toArray, List.nil_append, List.cons_append]
    refine wpIn_wide.2 ?_
    go_wp2_with fail
    generalize (w.alloc (.cells #[.pointer (some ⟨g2, 0, none⟩)] 23)).alloc (.cells #[.bool false] 4) = W3 at *
    have HX := Lib.hid (fun (a : Nat) (W : World) (ha : a = g ∨ a = g2) (hb : Below w.heap.size w W) => (show Calls Tryd.prog 35 #[.pointer (some ⟨a, 0, none⟩)] W fun e w' => e = .returned (.int .i64 (n1 : Nat)) ∧ Below W.heap.size W w' from by rcases ha with rfl | rfl; exact HS1.out W hb; exact HO1.out W hb))
    clear HS1 HO1
    go_region_held3 (fun v => v.cell? ⟨w.heap.size, 0, none⟩ = some (.pointer (some ⟨g2, 0, none⟩)) ∧ SameS w g2 w.heap.size (w.heap.size + 1) v)
      (first | exact hS.all)
      (first | (go_at_call 35; refine (HX.out _ _ ?_ hS.2.2).mono ?_; (first | (with_reducible exact Or.inl rfl) | (with_reducible exact Or.inr rfl)); rintro e w1 ⟨rfl, hb⟩; have hS := hS.step hb))
    have hSw := hS.2.2
    have hsw : w.heap.size + 1 + 1 ≤ w1.heap.size := by
      rename_i hb2 _ _
      have h1 := hb.size
      have h2 := hb2.size
      have h3 : W3.drew.heap.size = w.heap.size + 1 + 1 := hsz1
      omega
    have HS1 := Lib.hid (HS.out.below hSw); have HSW := Lib.hid hS
    have hL1 := tab_keep HL.out (hSw.block 0 hz)
    have HL1 := Lib.hid hL1
    clear hS hL1 hSw hb
    rename_i hH
    clear hH
    go_wp2_with fail
    rw [← U]
    refine (HS1.out.each).mono ?_
    rintro e W0 ⟨B, gc, gpc, rfl, ⟨k1, k2, k3⟩, k4, k5, k6⟩
    have hws := k6.size
    have hltB := k4.lt
    have hlt' := k5.lt
    have hst := each_stops (5 - 1) (by decide) B gc gpc f r M W0 k4 k5 (tab_keep HL1.out (k6.block 0 (by omega))) (by omega) hr HIN.out
    have HSW0 := Lib.hid (HSW.out.step k6)
    have hO0 := HO.out.below HSW0.out.2.2
    have HO0 := Lib.hid hO0
    clear k4 k5 k6 hO0
    go_wp2_with fail
    refine (wpIn_wide (n := 5)).1 ?_
    refine wpIn_rangeFunc_ownF rfl (by decide) (gf := 61) (lb := #[.pointer (some ⟨B, 0, none⟩)]) rfl trivial (enters_of Tryd.func61 (by kernel_rfl) rfl)
      hst (fun h k => keepsB_trans h k)
      (fun W l o o' hl ho hoc _ b hb => World.putObj_heap_other (by simp only [List.mem_cons, List.not_mem_nil, or_false] at hb; omega))
      (Below.refl _ _) (fun _ => rfl)
      (fun (pre : List (Val M)) W => (((∀ y ∈ valL pre, Mo y = true) ∧ Boxed W (w.heap.size + 1) 4 (.bool false)) ∧ keepX [w.heap.size + 1] W0 W) ∧ Below w.heap.size w W)
      (fun c (pre : List (Val M)) W => (((c = .ret ∧ ∃ y ∈ valL pre, Mo y = false) ∧ Boxed W (w.heap.size + 1) 4 (.bool false)) ∧ True) ∧ Below w.heap.size w W)
      (OwnFrom.and (OwnFrom.and (OwnFrom.and (fun _ _ _ _ hs _ _ => hs) (Own.from (boxed_own (w.heap.size + 1) 4 (fun pre : List (Val M) => .bool false)) _)) (ownFrom_keepX _ _)) (ownFrom_below (Nat.le_refl _) (by omega)))
      (fun c => OwnFrom.and (OwnFrom.and (OwnFrom.and (fun _ _ _ _ hs _ _ => hs) (Own.from (boxed_own (w.heap.size + 1) 4 (fun pre : List (Val M) => .bool false)) _)) (fun _ _ _ _ hs _ _ => hs)) (ownFrom_below (Nat.le_refl _) (by omega)))
      ⟨⟨⟨by simp [valL], HSW0.out.2.1⟩, keepX.refl _ _⟩, HSW0.out.2.2⟩
      ?act ?assign ?body ?done ?stop
    case assign =>
      intro l x W K hK
      gi_wp2
      exact hK
    case body =>
      rintro l pre x W ⟨⟨⟨hal, hba⟩, hk⟩, hB⟩ hlt2'
      have hx := HIN.out x.1 x.2
      have hbs : Boxed W w.heap.size 23 (.pointer (some ⟨g2, 0, none⟩)) := (hk.2 _ (by omega) (by simp)).trans HSW0.out.1
      have c1 := hbs.cell
      have hcall := (HO0.out.keep (hk.2 g2 (by have := HO0.out.lt; omega) (by simp; omega)) (hk.2 gp2 (by have := HO0.out.lt; omega) (by simp; omega))).has x.1
      rw [U2] at hcall
      have HK := Lib.hid hk; have HBB := Lib.hid hB; have HAL := Lib.hid hal
      clear hk hB hst hal hbs
      cases hMo : Mo x.1 with
      | true =>
        rw [hMo] at hcall
        have HC := Lib.hid hcall; have HBA := Lib.hid hba; have HMO := Lib.hid hMo
        clear hcall hba hMo
        gi_wp2_with (refine ⟨trivial, (CallsIn.inRound l (callsIn_wide.2 HC.out)).mono ?_⟩; rintro e w' ⟨rfl, ⟨⟨m, rfl⟩⟩⟩)
        refine ⟨⟨Nat.le_refl _, fun _ _ h _ => h⟩, fun b hb => rfl, ⟨⟨fun y hy => ?_, HBA.out⟩, HK.out⟩, pw_below_drewN HBB.out m⟩
        rw [valL_snoc] at hy
        simp only [List.mem_append, List.mem_singleton] at hy
        rcases hy with hy | rfl
        · exact HAL.out y hy
        · exact HMO.out
      | false =>
        rw [hMo] at hcall
        have cA := hba.cell
        have fA := hba.frozen
        have HC := Lib.hid hcall; have HBA := Lib.hid hba; have HMO := Lib.hid hMo
        clear hcall hba hMo
        gi_wp2_with (refine ⟨trivial, (CallsIn.inRound l (callsIn_wide.2 HC.out)).mono ?_⟩; rintro e w' ⟨rfl, ⟨⟨m, rfl⟩⟩⟩)
        refine ⟨(by have := KeepsOthers.setCell (W.drewN m) ⟨w.heap.size + 1, 0, none⟩ (.bool false); exact ⟨this.1, this.2⟩), ⟨⟨⟨rfl, x.1, by rw [valL_snoc]; simp, HMO.out⟩, ?_⟩, trivial⟩, ?_⟩
        · exact (show Boxed (W.drewN m) (w.heap.size + 1) 4 (.bool false) from HBA.out).set (.bool false)
        · exact (pw_below_drewN HBB.out m).setCell (p := ⟨w.heap.size + 1, 0, none⟩) (by show w.heap.size ≤ w.heap.size + 1; omega) _
    case done =>
      rintro D xs W hD hS ⟨⟨⟨hal, hba⟩, hk⟩, hB⟩ hK
      have hxs : valL xs = vals M f r := hS
      rw [hxs] at hal
      have cA := hba.cell
      have fA := hba.frozen
      have hba2 := hba.set (.bool true)
      have hK2 : (W.setCell ⟨w.heap.size + 1, 0, none⟩ (.bool true)).heap[D]? = some (.deferred (some [])) := (Below.heap_setCell W ⟨w.heap.size + 1, 0, none⟩ (.bool true) D (by show D ≠ w.heap.size + 1; omega)).trans hK
      have hB2 := hB.setCell (p := ⟨w.heap.size + 1, 0, none⟩) (by show w.heap.size ≤ w.heap.size + 1; omega) (.bool true)
      have c5 : ((W.setCell ⟨w.heap.size + 1, 0, none⟩ (.bool true)).putObj D (.deferred none)).cell? ⟨w.heap.size + 1, 0, none⟩ = some (.bool true) := Boxed.cell (t := 4) ((World.putObj_heap_other (by omega)).trans hba2)
      have HAL := Lib.hid hal; have HB2 := Lib.hid hB2; have HK2 := Lib.hid hK2
      clear hal hB hst hS hba hba2 hk hB2
      gi_wp2_with fail
      go_wp2_with fail
      refine ⟨by simp, .inl ⟨_, _, rfl, run_takeDeferred HK2.out, ?_⟩⟩
      refine ⟨.bool true, by simp [results, Tryd.results26, go_sem, c5], ?_, HB2.out.trans (belowK_b (w := w) (Nat.le_refl _) _ D _ _ (by omega) HK2.out rfl rfl)⟩
      have := (sorted_sub _ _ (vals_sorted M f r) (vals_sorted Mo f2 r2) (fun x hx => (mem_vals Mo f2 r2 HIN2.out x).2 (HAL.out x hx))).2 (HN1.out.symm.trans HN2.out)
      rw [decide_eq_true this]
    case stop =>
      rintro D c pre W hD hpre ⟨⟨⟨⟨rfl, y, hy, hm⟩, hba⟩, _⟩, hB⟩ hK
      have c5 : (W.putObj D (.deferred none)).cell? ⟨w.heap.size + 1, 0, none⟩ = some (.bool false) := Boxed.cell (t := 4) ((World.putObj_heap_other (by omega)).trans hba)
      have HP := Lib.hid hpre; have HY := Lib.hid hy; have HM := Lib.hid hm; have HB := Lib.hid hB
      clear hpre hy hm hst hB
      gi_wp2_with fail
      refine ⟨by simp, .inl ⟨_, _, rfl, run_takeDeferred hK, ?_⟩⟩
      refine ⟨.bool false, by simp [results, Tryd.results26, go_sem, c5], ?_, HB.out.trans (belowK_b (w := w) (Nat.le_refl _) _ D _ _ (by omega) hK rfl rfl)⟩
      rw [decide_eq_false]
      intro e
      have h1 : y ∈ vals M f r := HP.out.subset HY.out
      rw [e] at h1
      rw [(mem_vals Mo f2 r2 HIN2.out y).1 h1] at HM
      cases HM.out
  · rw [U, U2]
    have hne2 : (((n1 : Nat) : Int) != ((n2 : Nat) : Int)) = true := by rw [bne_iff_ne]; omega
    have HX := Lib.hid (fun (a nn : Nat) (W : World) (ha : (a = g ∧ nn = n1) ∨ (a = g2 ∧ nn = n2)) (hb : Below w.heap.size w W) => (show Calls Tryd.prog 35 #[.pointer (some ⟨a, 0, none⟩)] W fun e w' => e = .returned (.int .i64 (nn : Nat)) ∧ Below W.heap.size W w' from by rcases ha with ⟨rfl, rfl⟩ | ⟨rfl, rfl⟩; exact HS1.out W hb; exact HO1.out W hb))
    have HNE := Lib.hid hne
    clear HS1 HO1 hne
    go_enter Tryd.func26, Tryd.ntmps26
    go_wp2_with fail
    generalize (w.alloc (.cells #[.pointer (some ⟨g2, 0, none⟩)] 23)).alloc (.cells #[.bool false] 4) = W3 at *
    go_region_held3 (fun v => v.cell? ⟨w.heap.size, 0, none⟩ = some (.pointer (some ⟨g2, 0, none⟩)) ∧ SameS w g2 w.heap.size (w.heap.size + 1) v)
      (first | exact hS.all)
      (first | (go_at_call 35; (first | (refine (HX.out _ n1 _ ?_ hS.2.2).mono ?_; (with_reducible exact Or.inl ⟨rfl, rfl⟩)) | (refine (HX.out _ n2 _ ?_ hS.2.2).mono ?_; (with_reducible exact Or.inr ⟨rfl, rfl⟩))); rintro e w1 ⟨rfl, hb⟩; have hS := hS.step hb))
    have hba := hS.2.1
    have cA := hba.cell
    have fA := hba.frozen
    have hba2 := (hba.set (.bool false)).cell
    have HB2 := Lib.hid (hS.2.2.setCell (p := ⟨w.heap.size + 1, 0, none⟩) (by show w.heap.size ≤ w.heap.size + 1; omega) (.bool false))
    clear hS hba
    rename_i hH
    clear hH
    go_wp2_with fail
    refine ⟨rfl, .bool false, ?_, ?_, HB2.out⟩
    · simp [results, Tryd.results26, go_sem, hba2]
    · rw [decide_eq_false]
      intro e
      apply HNE.out
      rw [HN1.out, HN2.out, e]

end Go.Proofs.YtfkbkcdiajjljaaDoor.PBitsSteps
