/- Parts of the laws of bits: functions of the program, each with the proof of what it answers; the conditions are those of each theorem. -/
import Derived.Test.YtfkbkcdiajjljaaDoorBw
namespace Go.Proofs.YtfkbkcdiajjljaaDoor.PBitsSteps
open Go.RowKit Go.Proofs.YtfkbkcdiajjljaaDoorW.PrintWords Go.Proofs.YtfkbkcdiajjljaaDoorW.PrintLast Go.Proofs.YtfkbkcdiajjljaaDoorW.PrintMore
set_option linter.unusedVariables false
set_option linter.unusedSimpArgs false
set_option maxHeartbeats 4000000 in
theorem SetAt.and {w : World} {g gp : Nat} {f r : Int} {M0 Mo : Int → Bool} {p : Value} {bs : List Nat} (n0 : Nat) (h : SetAt w g gp f r M0) (hL : TabLaid w) (ho : OSet w p bs Mo) (hg0 : 0 < gp) (hn : n0 ≤ gp ∧ n0 ≤ w.heap.size) :
    Calls Tryd.prog 29 #[setP g, p] w fun e w' => e = .returned (.tuple #[.bool (anyOut Mo (vals M0 f r)), .int .i64 0]) ∧ SetAt w' g gp f r (fun x => M0 x && Mo x) ∧ keepX [gp] w w' ∧ Below n0 w w' := by
  have hmf : ∀ (fn : Fn) (first cap : Array Value) (w : World), (Instr.makeFunc fn first cap).run Tryd.prog w = .ok (.func fn first cap) w := fun _ _ _ _ => rfl
  have hlt := h.lt
  have HS := Lib.hid h; have HL := Lib.hid hL; have HO := Lib.hid ho
  clear h hL ho
  have U : setP g = .pointer (some ⟨g, 0, none⟩) := rfl
  rw [U]
  go_enter Tryd.func29, Tryd.ntmps29
  go_wp2_with fail
  refine HO.out.copy.mono ?_
  rintro e w1 ⟨p', bs', rfl, k1, k2, k3⟩
  have hz : 0 < w.heap.size := by omega
  have HS1 := Lib.hid (HS.out.below k3); have HL1 := Lib.hid (tab_keep HL.out (k3.block 0 hz)); have HO1 := Lib.hid k2; have HB1 := Lib.hid k3
  have hgb : gp ∉ bs' := fun hm => by have := k1 gp hm; omega
  have hsz := k3.size
  clear k1 k2 k3
  go_wp2_with fail
  rw [← U]
  refine (keep_and n0 HS1.out HL1.out HO1.out hgb hg0 ⟨hn.1, by omega⟩).mono ?_
  rintro e w2 ⟨rfl, q1, q2, q3⟩
  go_wp2_with fail
  go_ret2
  refine ⟨rfl, q1, keepX.trans ⟨hsz, fun b hb _ => HB1.out.block b hb⟩ q2, (HB1.out.mono hn.2).trans q3⟩
set_option maxHeartbeats 4000000 in
theorem SetAt.minus {w : World} {g gp : Nat} {f r : Int} {M0 Mo : Int → Bool} {p : Value} {bs : List Nat} (n0 : Nat) (h : SetAt w g gp f r M0) (hL : TabLaid w) (ho : OSet w p bs Mo) (hg0 : 0 < gp) (hn : n0 ≤ gp ∧ n0 ≤ w.heap.size) :
    Calls Tryd.prog 31 #[setP g, p] w fun e w' => e = .returned (.tuple #[.bool (anyOut (fun x => !Mo x) (vals M0 f r)), .int .i64 0]) ∧ SetAt w' g gp f r (fun x => M0 x && !Mo x) ∧ keepX [gp] w w' ∧ Below n0 w w' := by
  have hmf : ∀ (fn : Fn) (first cap : Array Value) (w : World), (Instr.makeFunc fn first cap).run Tryd.prog w = .ok (.func fn first cap) w := fun _ _ _ _ => rfl
  have hlt := h.lt
  have HS := Lib.hid h; have HL := Lib.hid hL; have HO := Lib.hid ho
  clear h hL ho
  have U : setP g = .pointer (some ⟨g, 0, none⟩) := rfl
  rw [U]
  go_enter Tryd.func31, Tryd.ntmps31
  go_wp2_with fail
  refine HO.out.copy.mono ?_
  rintro e w1 ⟨p', bs', rfl, k1, k2, k3⟩
  have hz : 0 < w.heap.size := by omega
  have hb2 : Below w.heap.size w (w1.alloc (.cells #[p'] 23)) := k3.alloc k3.size _
  have hbw : Below w1.heap.size w1 (w1.alloc (.cells #[p'] 23)) := (Below.refl _ _).alloc (Nat.le_refl _) _
  have HS1 := Lib.hid (HS.out.below hb2); have HL1 := Lib.hid (tab_keep HL.out (hb2.block 0 hz)); have HO1 := Lib.hid (k2.below hbw); have HB1 := Lib.hid hb2
  have hone := k2.one
  have hbx := Boxed.new w1 23 p'
  have HBX := Lib.hid hbx
  have hgb : gp ∉ bs' := fun hm => by have := k1 gp hm; omega
  have hsz := k3.size
  have hsz2 := hb2.size
  have hnotagg : ∀ cs, p' = Value.agg cs → False := by
    intro cs e
    rcases k2 with ⟨h, _⟩ | ⟨_, _, _, _, h, _⟩ <;> rw [h] at e <;> cases e
  clear k1 k2 k3 hbx hb2 hbw
  have hcase : p' = .pointer none ∨ ∃ g', p' = .pointer (some ⟨g', 0, none⟩) := by
    rcases HO1.out with ⟨h, _⟩ | ⟨g', _, _, _, h, _⟩
    · exact .inl h
    · exact .inr ⟨g', h⟩
  rcases hcase with rfl | ⟨g', rfl⟩
  all_goals (
    go_wp2_with fail
    rw [← U]
    refine (keep_minus HBX.out (by omega) n0 HS1.out HL1.out HO1.out hgb hg0 ⟨hn.1, by omega⟩).mono ?_
    rintro e w2 ⟨rfl, q1, q2, q3⟩
    go_wp2_with fail
    go_ret2
    exact ⟨rfl, q1, keepX.trans ⟨hsz2, fun b hb _ => HB1.out.block b hb⟩ q2, (HB1.out.mono hn.2).trans q3⟩)
attribute [local go_sem] Oper.semAt_some
open Go.Shelf in
set_option maxRecDepth 100000 in
set_option maxHeartbeats 4000000 in
theorem or_none {w : World} {g : Nat} :
    Calls Tryd.prog 30 #[setP g, .pointer none] w fun e w' => e = .returned (.tuple #[.bool false, .int .i64 0]) ∧ Below w.heap.size w w' := by
  refine (callsIn_wide (n := 5)).1 ?_
  refine callsIn_of_wp_marks Tryd.func30 rfl trivial ?_ rfl
  simp only [Tryd.ntmps30, List.size_toArray, List.length_cons, List.length_nil, Nat.reduceAdd, Nat.reduceSub, Array.replicate_succ, Array.replicate_zero, List.push_toArray, List.append_toArray, List.nil_append, List.cons_append]
  refine wpIn_wide.2 ?_
  have U : setP g = .pointer (some ⟨g, 0, none⟩) := rfl
  rw [U]
  go_wp2_with fail
  refine (min_nil _).mono ?_
  rintro e w1 ⟨rfl, rfl⟩
  go_wp2_with fail
  refine (max_nil _).mono ?_
  rintro e w1 ⟨rfl, rfl⟩
  go_wp2_with fail
  generalize hW3 : World.alloc _ (.cells #[.bool false] 4) = W3
  have hsz3 : W3.heap.size = w.heap.size + 2 := by rw [← hW3]; simp
  have hB3 : Below w.heap.size w W3 := by rw [← hW3]; exact ((Below.refl _ w).alloc (Nat.le_refl _) _).alloc (by simp) _
  have bxa : Boxed W3 (w.heap.size + 1) 4 (.bool false) := by
    rw [← hW3]
    have := Boxed.new (w.alloc (.cells #[.pointer (some ⟨g, 0, none⟩)] 23)) 4 (.bool false)
    rw [World.size_alloc] at this
    exact this
  clear hW3
  refine (each_nil _).mono ?_
  rintro e W0 ⟨B, rfl, k1, k2, k3⟩
  have hst := each_stops_nil (5 - 1) (by decide) B W0 k2 (fun x : Empty => x.elim) (fun _ _ => True)
  have HBX := Lib.hid (boxed_below bxa k3); have HBW := Lib.hid (below_step hB3 k3)
  have hws := k3.size
  clear k2 k3 bxa hB3
  go_wp2_with fail
  refine (wpIn_wide (n := 5)).1 ?_
  refine wpIn_rangeFunc_ownF rfl (by decide) (gf := 61) (lb := #[.pointer (some ⟨B, 0, none⟩)]) rfl trivial (enters_of Tryd.func61 (by kernel_rfl) rfl)
    hst (fun _ _ => trivial) (fun _ _ _ _ _ _ _ _ => trivial)
    (Below.refl _ _) (fun x => x.elim)
    (fun (pre : List Empty) W => Boxed W (w.heap.size + 1) 4 (.bool false) ∧ Below w.heap.size w W)
    (fun _ _ _ => False)
    (OwnFrom.and (Own.from (boxed_own (w.heap.size + 1) 4 (fun _ => .bool false)) _) (ownFrom_below (Nat.le_refl _) (by omega)))
    (fun _ _ _ _ _ hs _ _ => hs)
    ⟨HBX.out, HBW.out⟩
    (fun x => x.elim) ?assign ?body ?done ?stop
  case assign => exact fun _ x => x.elim
  case body => exact fun _ _ _ _ _ h => absurd h (by omega)
  case done =>
    rintro D xs W hD hS ⟨hba, hB⟩ hK
    have cA := hba.cell
    clear hst hS
    gi_wp2_with fail
    go_wp2_with fail
    refine ⟨by simp, .inl ⟨_, _, rfl, run_takeDeferred hK, ?_⟩⟩
    refine ⟨_, by simp [results, Tryd.results30, go_sem]; rfl, ?_⟩
    exact ⟨rfl, hB.trans (belowK_b (w := w) (Nat.le_refl _) W D _ _ (by omega) hK rfl rfl)⟩
  case stop =>
    rintro D c pre W _ _ h _
    exact h.elim

end Go.Proofs.YtfkbkcdiajjljaaDoor.PBitsSteps
