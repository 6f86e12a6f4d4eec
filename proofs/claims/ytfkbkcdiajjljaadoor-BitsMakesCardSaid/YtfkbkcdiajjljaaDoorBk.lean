/- Parts of the laws of bits: functions of the program, each with the proof of what it answers; the conditions are those of each theorem. -/
import Derived.Test.YtfkbkcdiajjljaaDoorBj
namespace Go.Proofs.YtfkbkcdiajjljaaDoor.PBitsSteps
open Go.RowKit Go.Proofs.YtfkbkcdiajjljaaDoorW.PrintWords Go.Proofs.YtfkbkcdiajjljaaDoorW.PrintLast Go.Proofs.YtfkbkcdiajjljaaDoorW.PrintMore
set_option linter.unusedVariables false
set_option linter.unusedSimpArgs false
/-! ### bits.Of -/
theorem new_set (lo hi : Int) (w : World) (h1 : -1000000 ≤ lo) (h2 : hi ≤ 1000000) (h3 : lo ≤ hi) (h4 : hi - lo < 65536) :
    Calls Tryd.prog 17 #[.int .i64 lo, .int .i64 hi] w fun e w' => ∃ g gp, e = .returned (.tuple #[setP g, .int .i64 0]) ∧ (w.heap.size ≤ g ∧ w.heap.size ≤ gp) ∧ SetAt w' g gp lo (hi - lo + 1) (fun _ => false) ∧ Below w.heap.size w w' := by
  refine (bits_New.made lo hi w h1 h2 h3 h4).mono ?_
  rintro e w' ⟨rfl, rfl⟩
  refine ⟨w.heap.size + 1, w.heap.size, rfl, ⟨by omega, by omega⟩, ⟨((hi - lo + 1 + 1024 - 1) / 1024).toNat, ((hi - lo + 1 + 1024 - 1) / 1024).toNat, fun _ => 0, madeCells (Array.replicate 16 (Value.int .u64 0)) (((hi - lo + 1 + 1024 - 1) / 1024).toNat * 16), ?_, ?_, by omega, ?_, Nat.le_refl _, ?_⟩, ?_⟩
  · have := World.alloc_heap_new (w.alloc (.cells (madeCells (Array.replicate 16 (Value.int .u64 0)) (((hi - lo + 1 + 1024 - 1) / 1024).toNat * 16)) 86)) (.cells #[.int .i64 lo, .int .i64 (hi - lo + 1), .slice (some ⟨w.heap.size, 0, none⟩) ((hi - lo + 1 + 1024 - 1) / 1024).toNat ((hi - lo + 1 + 1024 - 1) / 1024).toNat] 75)
    rw [World.size_alloc] at this
    exact this
  · exact (Below.heap_alloc _ _ w.heap.size (by rw [World.size_alloc]; omega)).trans (World.alloc_heap_new _ _)
  · intro i hi
    exact made_get _ i hi
  · exact ⟨fun _ _ => by simp, by omega, fun p _ => by simp, fun v hv => by cases hv⟩
  · exact ((Below.refl _ _).alloc (Nat.le_refl _) _).alloc (by simp) _
theorem keepsCells_set (W : World) (m gp i : Nat) (u : Value) : KeepsOthers W ((W.drewN m).setCell ⟨gp, i, none⟩ u) ∧ keepsCells gp W ((W.drewN m).setCell ⟨gp, i, none⟩ u) := by
  have k : KeepsOthers W ((W.drewN m).setCell ⟨gp, i, none⟩ u) := KeepsOthers.trans (show KeepsOthers W (W.drewN m) from ⟨Nat.le_refl _, fun _ _ h _ => h⟩) (KeepsOthers.setCell (W.drewN m) ⟨gp, i, none⟩ u)
  refine ⟨k, k.size, fun b o hb ho _ => ?_⟩
  exact (Below.heap_setCell _ ⟨gp, i, none⟩ u b hb).trans ho
theorem keepsCells_trans {gp : Nat} {A B C : World} (h : keepsCells gp A B) (k : keepsCells gp B C) : keepsCells gp A C := ⟨Nat.le_trans h.1 k.1, fun b o hb ho hc => k.2 b o hb (h.2 b o hb ho hc) hc⟩
theorem keepsCells_put {gp : Nat} (W : World) (l : Nat) (o o' : Obj) (hl : W.heap[l]? = some o) (ho : o.isCells = false) : keepsCells gp W (W.putObj l o') := by
  refine ⟨by simp, fun b p _ hp hc => ?_⟩
  by_cases e : l = b
  · subst e
    rw [hl] at hp
    cases hp
    rw [ho] at hc
    cases hc
  · first | exact (World.putObj_heap_other e).trans hp | exact (World.putObj_heap_other (fun h => e h.symm)).trans hp
theorem SetAt.ext {w : World} {g gp : Nat} {f r : Int} {M M' : Int → Bool} (h : SetAt w g gp f r M) (e : ∀ x, M x = M' x) : SetAt w g gp f r M' := by
  obtain rfl : M = M' := funext e
  exact h
theorem ownFrom_setAt {β : Type} (n g gp : Nat) (hg : g < n) (hgp : gp < n) (f r : Int) (F : β → Int → Bool) : OwnFrom n (fun s W => SetAt W g gp f r (F s)) := by
  intro s W W' row hs hg2 hr
  have hl := hs.lt
  exact hs.keep (hg2.block g hl.1 (fun e => by have := (hr g e.symm).1; omega)) (hg2.block gp hl.2.1 (fun e => by have := (hr gp e.symm).1; omega))
def elts {l : List S71} (pre : List (Elt l)) : List Int := pre.map (·.1)
def inL (l : List Int) (x : Int) : Bool := decide (x ∈ l)
def firstS (l : List S71) : Int := (minS l).1
def lastS (l : List S71) : Int := (maxS l).1
def okS (l : List S71) : Bool := rightS l && !l.isEmpty
theorem minS_ok (l : List S71) : (minS l).2 = okS l := by
  unfold minS okS
  cases rightS l
  · rfl
  · cases l <;> rfl
/-- what stands of ranges that are right, and some -/
theorem ok_bounds {l : List S71} (h : okS l = true) : rightS l = true ∧ 0 < l.length ∧ l.length ≤ 4096 ∧ -1000000 ≤ firstS l ∧ firstS l ≤ lastS l ∧ lastS l ≤ 1000000 ∧ ∀ x ∈ spanAll l, firstS l ≤ x ∧ x ≤ lastS l := by
  unfold okS at h
  rw [Bool.and_eq_true] at h
  obtain ⟨hR, hne⟩ := h
  obtain ⟨h1, h2, h3⟩ := right_mem hR
  have hsort : ∀ (l : List S71) (e : Int), -1000002 ≤ e → rightL e l = true → ∀ s ∈ l, ∀ y ∈ l.getLast?, e < s.f0 ∧ s.f1 ≤ y.f1 := by
    intro l
    induction l with
    | nil => intro e he h s hs; cases hs
    | cons t l ih =>
      intro e he h s hs y hy
      have hm := rightL_mem (t :: l) e he h
      have h' : rightL t.f1 l = true := by
        unfold rightL at h
        split at h
        · cases h
        · split at h
          · cases h
          · split at h
            · cases h
            · exact h
      have ht := hm t (by simp)
      cases l with
      | nil =>
        simp at hy hs
        subst hy; subst hs
        omega
      | cons u l =>
        rw [List.getLast?_cons_cons] at hy
        rcases List.mem_cons.1 hs with rfl | hs
        · have := ih s.f1 (by omega) h' u (by simp) y hy
          have := hm u (by simp)
          omega
        · have := ih t.f1 (by omega) h' s hs y hy
          omega
  cases l with
  | nil => cases hne
  | cons t l =>
    have e1 : firstS (t :: l) = t.f0 := by unfold firstS minS; rw [hR]; rfl
    obtain ⟨y, hy⟩ : ∃ y, (t :: l).getLast? = some y := ⟨_, List.getLast?_eq_some_getLast (List.cons_ne_nil t l)⟩
    have e2 : lastS (t :: l) = y.f1 := by unfold lastS maxS; rw [hR, if_pos rfl, hy]
    have hs := hsort (t :: l) _ (by omega) h2
    have hy' : y ∈ (t :: l).getLast? := hy
    have h' : rightL t.f1 l = true := by
      unfold rightL at h2
      split at h2
      · cases h2
      · split at h2
        · cases h2
        · split at h2
          · cases h2
          · exact h2
    have ht := h3 t (by simp)
    have hymem : y ∈ t :: l := List.mem_of_getLast? hy
    have hy3 := h3 y hymem
    have hty := hs t (by simp) y hy'
    refine ⟨hR, by simp, h1, by omega, by omega, by omega, fun x hx => ?_⟩
    obtain ⟨s, hsm, hx1, hx2⟩ := (mem_spanAll _ _).1 hx
    have hsy := hs s hsm y hy'
    rcases List.mem_cons.1 hsm with rfl | hsm'
    · omega
    · have := rightL_mem l t.f1 (by omega) h' s hsm'
      omega
theorem cells_of_cell {w : World} {b i : Nat} {v : Value} (h : w.cell? ⟨b, i, none⟩ = some v) : ∃ o, w.heap[b]? = some o ∧ o.isCells = true := by
  unfold World.cell? at h
  cases hb : w.heap[b]? with
  | none => simp [hb] at h
  | some o =>
    cases o with
    | cells cs t fz => exact ⟨_, rfl, rfl⟩
    | _ => simp [hb] at h

attribute [local go_sem] Oper.semAt_some
set_option maxHeartbeats 4000000 in
theorem of_dom (A : Option Addr) (c : Nat) (l : List S71) (w : World) (h : Kd.C k71 w A l.length l) (hc : l.length ≤ c) (hN : okS l = false) :
    Calls Tryd.prog 7 #[.slice A l.length c] w fun e w' => e = .returned (.tuple #[.pointer none, .int .i64 20]) ∧ Below w.heap.size w w' := by
  have hm := min_calls A c l w h hc
  have e := minS_ok l
  rw [hN] at e
  rw [e] at hm
  have HM := Lib.hid hm
  clear hm h hc hN e
  generalize (minS l).1 = x at *
  go_enter Tryd.func7, Tryd.ntmps7
  go_wp2_with fail
  refine HM.out.mono ?_
  rintro e w1 ⟨rfl, hb⟩
  go_wp2_with fail
  go_ret2
  exact ⟨rfl, hb⟩
theorem maxS_ok {l : List S71} (h : okS l = true) : (maxS l).2 = true := by
  unfold okS at h
  rw [Bool.and_eq_true] at h
  unfold maxS
  rw [h.1, if_pos rfl]
  rcases snoc_cases l with rfl | ⟨ys, s, rfl⟩
  · cases h.2
  · simp
set_option maxHeartbeats 4000000 in
theorem of_full (A : Option Addr) (c : Nat) (l : List S71) (w : World) (h : Kd.C k71 w A l.length l) (hc : l.length ≤ c) (hN : okS l = true) (hbig : 65536 ≤ lastS l - firstS l) :
    Calls Tryd.prog 7 #[.slice A l.length c] w fun e w' => e = .returned (.tuple #[.pointer none, .int .i64 4]) ∧ Below w.heap.size w w' := by
  have hm := min_calls A c l w h hc
  have e := minS_ok l
  rw [hN] at e
  rw [e] at hm
  have hx := maxS_ok hN
  have hb := ok_bounds hN
  have HM : Hid (Calls Tryd.prog 38 #[.slice A l.length c] w fun e w' => e = .returned (.tuple #[.int .i64 (firstS l), .bool true]) ∧ Below w.heap.size w w') := hm
  have HC := Lib.hid h; have HCC := Lib.hid hc; have HX := Lib.hid hx
  have hlast : (maxS l).1 = lastS l := rfl
  have HLAST := Lib.hid hlast
  obtain ⟨b1, b2, b3, b4, b5, b6, b7⟩ := hb
  clear hm h hc hN e hx b1 b7 hlast
  go_enter Tryd.func7, Tryd.ntmps7
  go_wp2_with fail
  refine HM.out.mono ?_
  rintro e w1 ⟨rfl, hb1⟩
  go_wp2_with fail
  refine (max_calls A c l _ (Kd.C_below HC.out hb1) HCC.out).mono ?_
  rw [HX.out, HLAST.out]
  rintro e w2 ⟨rfl, hb2⟩
  have HB := Lib.hid (below_step hb1 hb2)
  clear hb1 hb2
  generalize firstS l = lo at *
  generalize lastS l = hi at *
  go_wp2_with fail
  refine (bits_New.full lo hi _ b4 b6 b5 hbig).mono ?_
  rintro e w3 ⟨rfl, rfl⟩
  go_wp2_with fail
  go_ret2
  exact ⟨rfl, HB.out.alloc HB.out.size _⟩
open Go.Shelf in
set_option maxRecDepth 100000 in
set_option maxHeartbeats 4000000 in
theorem of_made (A : Option Addr) (c : Nat) (l : List S71) (w : World) (h : Kd.C k71 w A l.length l) (hc : l.length ≤ c) (hN : okS l = true) (hsm : lastS l - firstS l < 65536) :
    Calls Tryd.prog 7 #[.slice A l.length c] w fun e w' => ∃ g gp, e = .returned (.tuple #[setP g, .int .i64 0]) ∧ (w.heap.size ≤ g ∧ w.heap.size ≤ gp) ∧ SetAt w' g gp (firstS l) (lastS l - firstS l + 1) (inL (spanAll l)) ∧ Below w.heap.size w w' := by
  have hm := min_calls A c l w h hc
  have e := minS_ok l
  rw [hN] at e
  rw [e] at hm
  have hx := maxS_ok hN
  have hb := ok_bounds hN
  have HM : Hid (Calls Tryd.prog 38 #[.slice A l.length c] w fun e w' => e = .returned (.tuple #[.int .i64 (firstS l), .bool true]) ∧ Below w.heap.size w w') := hm
  have HC := Lib.hid h; have HCC := Lib.hid hc; have HX := Lib.hid hx
  have hlast : (maxS l).1 = lastS l := rfl
  have HLAST := Lib.hid hlast
  obtain ⟨b1, b2, b3, b4, b5, b6, b7⟩ := hb
  have HR := Lib.hid b1; have HIN := Lib.hid b7
  clear hm h hc hN e hx b1 b7 hlast
  refine (callsIn_wide (n := 5)).1 ?_
  refine callsIn_of_wp_marks Tryd.func7 rfl trivial ?_ rfl
  simp only [Tryd.ntmps7, List.size_toArray, List.length_cons, List.length_nil, Nat.reduceAdd, Nat.reduceSub, Array.replicate_succ, Array.replicate_zero, List.push_toArray, List.append_toArray, List.nil_append, List.cons_append]
  refine wpIn_wide.2 ?_
  go_wp2_with fail
  refine HM.out.mono ?_
  rintro e w1 ⟨rfl, hb1⟩
  go_wp2_with fail
  refine (max_calls A c l _ (Kd.C_below HC.out hb1) HCC.out).mono ?_
  rw [HX.out, HLAST.out]
  rintro e w2 ⟨rfl, hb2⟩
  have hb3 := below_step hb1 hb2
  have HC2 := Lib.hid (Kd.C_below HC.out hb3)
  have HB := Lib.hid hb3
  clear hb1 hb2 hb3
  generalize hlo : firstS l = lo at *
  generalize hhi : lastS l = hi at *
  have HLO := Lib.hid hlo; have HHI := Lib.hid hhi
  clear hlo hhi
  go_wp2_with fail
  refine (new_set lo hi _ b4 b6 b5 hsm).mono ?_
  rintro e w3 ⟨g, gp, rfl, ⟨k1, k2⟩, k3, k4⟩
  have U : setP g = .pointer (some ⟨g, 0, none⟩) := rfl
  rw [U]
  have hC3 := Kd.C_below HC2.out k4
  have hb3 := below_step HB.out k4
  have hbox := Boxed.new w3 23 (.pointer (some ⟨g, 0, none⟩))
  have hB4 : Below w3.heap.size w3 (w3.alloc (.cells #[.pointer (some ⟨g, 0, none⟩)] 23)) := (Below.refl _ _).alloc (Nat.le_refl _) _
  go_wp2_with fail
  obtain ⟨ad, rfl, -⟩ := hC3.2.2 b2
  refine (dom_each_calls ad c l _ (Kd.C_below hC3 hB4) HCC.out b2 HR.out).mono ?_
  rintro e W0 ⟨B, g', cap, rfl, ⟨q1, q2, q3⟩, q4, q5, q6⟩
  go_wp2_with fail
  rw [World.size_alloc] at q1 q2
  have hs4 := (k3.below hB4).below q6
  have hb4 := boxed_below hbox q6
  have hbW : Below w.heap.size w W0 := below_step (below_step hb3 hB4) q6
  have hlt := k3.lt
  have hw3 := q6.size
  rw [World.size_alloc] at hw3
  have hw23 := hb3.size
  obtain ⟨ad', ea, a0, -⟩ := at_T71 q5 0 (by omega) (by omega)
  injection ea with ea
  subst ea
  rw [add_zero_off] at a0
  have hst := dom_each_stops (5 - 1) (by decide) B g' gp cap l W0 q4 q5 ⟨q3, cells_of_cell a0⟩ ⟨by omega, by omega, by omega⟩ HR.out
  have HS4 := Lib.hid hs4; have HB4 := Lib.hid hb4; have HBW := Lib.hid hbW
  have hg0 : w.heap.size ≤ g ∧ w.heap.size ≤ gp := by have := HB.out.size; omega
  clear hs4 hb4 hbW a0 q4 q5 q6 hbox hB4 k3 k4 hC3 hb3
  generalize hbs : w3.heap.size = bs at *
  refine (wpIn_wide (n := 5)).1 ?_
  refine wpIn_rangeFunc_ownF rfl (by decide) (gf := 67) (lb := #[.pointer (some ⟨B, 0, none⟩)]) rfl trivial (enters_of Tryd.func67 (by kernel_rfl) rfl)
    hst (fun h k => keepsCells_trans h k)
    (fun W l o o' _ ho hoc _ => keepsCells_put W l o o' ho hoc)
    (Below.refl _ _) (fun _ => rfl)
    (fun (pre : List (Elt l)) W => (SetAt W g gp lo (hi - lo + 1) (inL (elts pre)) ∧ Boxed W bs 23 (.pointer (some ⟨g, 0, none⟩))) ∧ Below w.heap.size w W)
    (fun _ _ _ => False)
    (OwnFrom.and (OwnFrom.and (ownFrom_setAt _ g gp (by omega) (by omega) _ _ (fun pre : List (Elt l) => inL (elts pre))) (Own.from (boxed_own bs 23 (fun _ => .pointer (some ⟨g, 0, none⟩))) _)) (ownFrom_below (Nat.le_refl _) HBW.out.size))
    (fun _ _ _ _ _ hs _ _ => hs)
    ⟨⟨HS4.out, HB4.out⟩, HBW.out⟩
    (fun x => { tmps := #[.slice (some ad) l.length c, undef, .pointer none, .int .i64 0, .int .i64 lo, .bool true, .int .i64 hi, .bool true, .pointer (some ⟨bs, 0, none⟩), .int .i64 0, .int .i64 x.1, .tuple #[.int .i64 lo, .bool true], .slice (some ad) l.length c, .tuple #[.int .i64 lo, .bool true], .int .i64 lo, .bool true, .bool true, .bool false, .tuple #[.int .i64 hi, .bool true], .slice (some ad) l.length c, .tuple #[.int .i64 hi, .bool true], .int .i64 hi, .bool true, .tuple #[.pointer (some ⟨g, 0, none⟩), .int .i64 0], .int .i64 lo, .int .i64 hi, .tuple #[.pointer (some ⟨g, 0, none⟩), .int .i64 0], .pointer (some ⟨g, 0, none⟩), .int .i64 0, .int .i64 0, .bool false, undef, .slice (some ad) l.length c, .func (.func 67) #[] #[.pointer (some ⟨B, 0, none⟩)], .int .i64 x.1, undef, undef, undef, undef], defers := [] }) ?assign ?body ?done ?stop
  case assign =>
    intro l x W K hK
    gi_wp2
    exact hK
  case body =>
    rintro lo' pre x W ⟨⟨hs, hbx⟩, hB⟩ hlt
    have hc := hbx.cell
    have hx := HIN.out x.1 x.2
    have HS := Lib.hid hs; have HBX := Lib.hid hbx; have HBB := Lib.hid hB
    clear hs hbx hB hst
    gi_wp2_with (rw [← U]; refine ⟨trivial, (CallsIn.inRound lo' (callsIn_wide.2 (HS.out.add x.1 (by omega)))).mono ?_⟩; rintro e w' ⟨rfl, ⟨m, i, u, rfl⟩, hs'⟩)
    obtain ⟨k1', k2'⟩ := keepsCells_set W m gp i u
    refine ⟨k1', k2', ⟨hs'.ext (fun y => ?_), ?_⟩, ?_⟩
    · unfold inL elts
      rw [List.map_append, Bool.eq_iff_iff]
      simp [or_comm]
    · exact k2'.2 bs _ (by omega) HBX.out rfl
    · exact (pw_below_drewN HBB.out m).setCell (p := ⟨gp, i, none⟩) hg0.2 u
  case done =>
    rintro D xs W hD hS ⟨⟨hs, hbx⟩, hB⟩ hK
    have hc := hbx.cell
    have HS := Lib.hid hs; have HBX := Lib.hid hbx; have HBB := Lib.hid hB; have HSX := Lib.hid hS; have HK := Lib.hid hK
    clear hs hbx hB hst hS
    gi_wp2_with fail
    go_wp2_with fail
    refine ⟨by simp, .inl ⟨_, _, rfl, run_takeDeferred hK, ?_⟩⟩
    refine ⟨_, by simp [results, Tryd.results7, go_sem]; rfl, ?_⟩
    refine ⟨g, gp, rfl, hg0, ?_, HBB.out.trans (belowK_b (w := w) (Nat.le_refl _) W D _ _ (by have := HBW.out.size; omega) hK rfl rfl)⟩
    have hsD := HS.out.keep (w' := W.putObj D (.deferred none)) (World.putObj_heap_other (by omega)) (World.putObj_heap_other (by omega))
    have e : elts xs = spanAll l := HSX.out
    rw [e] at hsD
    rw [HLO.out, HHI.out]
    exact hsD
  case stop =>
    rintro D c pre W _ _ h _
    exact h.elim

end Go.Proofs.YtfkbkcdiajjljaaDoor.PBitsSteps
