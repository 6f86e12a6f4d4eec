/- BitsPlays: whatever is handed in, the law answers true, and what was handed in reads as it did. Condition: the table of math/bits holds what its text says. -/
import Derived.Test.YtfkbkcdiajjljaaDoorBq
import Derived.Test.YtfkbkcdiajjljaaDoorBzcj
import Derived.Test.YtfkbkcdiajjljaaDoorRows
import Derived.Test.YtfkbkcdiajjljaaDoorTie
import Derived.Test.YtfkbkcdiajjljaaDoorCards
import Derived.ProofKit
import Derived.LaidMore
import Derived.OpenShut
import Derived.Stop.Joined
import Derived.SevenTiedAt
namespace Go.Proofs.YtfkbkcdiajjljaaDoor.PBitsSteps
open Go.RowKit Go.Proofs.YtfkbkcdiajjljaaDoorW.PrintWords Go.Proofs.YtfkbkcdiajjljaaDoorW.PrintLast Go.Proofs.YtfkbkcdiajjljaaDoorW.PrintMore
set_option linter.unusedVariables false
set_option linter.unusedSimpArgs false
theorem sized_ops {H : Type} {enc : TypeId × Value → H} {W : World} {base : Nat} {spare : Nat → Bool} {held : Bool} {a : Option Addr} {len cap : Nat} {d : DataW H} {ps : List MemPlace} {ts : List TypeId} {ds : List (DataW H)} {j : Nat}
    (hsz : (DataW.weightsEach Tryd.prog ts ds).all (· ≤ reachBytes) = true) (ht : ts[j]? = some 45) (hd : ds[j]? = some d) (h : DataW.Trod enc Tryd.prog W base spare held 45 (.slice a len cap) d ps) : len * 24 ≤ 140737488351232 := by
  obtain ⟨fuel, hf⟩ := h
  rcases Go.Deep.open_slice Tryd.underlying45 hf with ⟨hcs, _⟩ | ⟨x, l, c, m, n, D, Pl, hcs, _, hl, _, hm, hx, _⟩
  · simp [Value.cells] at hcs
    obtain ⟨rfl, rfl, rfl⟩ := hcs
    simp
  · simp [Value.cells] at hcs
    obtain ⟨rfl, rfl, rfl⟩ := hcs
    obtain ⟨hx, _⟩ := Prod.mk.inj hx
    subst hx
    have z := sized_slice hsz ht hd Tryd.underlying45
    rw [show Tryd.prog.bytesOf 50 = 24 by kernel_rfl, List.length_map, List.length_map, List.length_range, List.length_range] at z
    exact Nat.le_trans (Nat.mul_le_mul_right _ (by omega)) z
/-! ### the argument: a script that came in -/
theorem ops_C {w : World} {a : Addr} {len : Nat} (hb : 0 < len → a.block < w.heap.size) (h : ∀ i, i < len → ∃ o : Op3, (-9223372036854775808 ≤ o.v ∧ o.v ≤ 9223372036854775807) ∧ w.cell? (a.add (i * 3)) = some (.int .i64 o.kind) ∧ w.cell? ⟨(a.add (i * 3)).block, (a.add (i * 3)).off + 1, none⟩ = some (.int .i64 o.v) ∧ w.cell? ⟨(a.add (i * 3)).block, (a.add (i * 3)).off + 2, none⟩ = some (.bool o.on)) :
    ∃ l : List Op3, l.length = len ∧ OpsAt w (some a) l := by
  have key : ∀ k, k ≤ len → ∃ l : List Op3, l.length = k ∧ ∀ j (hj : j < l.length), (-9223372036854775808 ≤ l[j].v ∧ l[j].v ≤ 9223372036854775807) ∧ w.cell? (a.add (j * 3)) = some (.int .i64 l[j].kind) ∧ w.cell? ⟨(a.add (j * 3)).block, (a.add (j * 3)).off + 1, none⟩ = some (.int .i64 l[j].v) ∧ w.cell? ⟨(a.add (j * 3)).block, (a.add (j * 3)).off + 2, none⟩ = some (.bool l[j].on) := by
    intro k
    induction k with
    | zero => exact fun _ => ⟨[], rfl, fun j hj => by simp at hj⟩
    | succ k ih =>
      intro hk
      obtain ⟨l, hl, hcell⟩ := ih (by omega)
      obtain ⟨o, h1⟩ := h k (by omega)
      refine ⟨l ++ [o], by simp [hl], fun j hj => ?_⟩
      by_cases e : j < l.length
      · rw [List.getElem_append_left e]
        exact hcell j e
      · obtain rfl : j = k := by simp at hj; omega
        rw [List.getElem_append_right (by omega)]
        simpa [hl] using h1
  obtain ⟨l, hl, hcell⟩ := key len (Nat.le_refl _)
  refine ⟨l, hl, fun i hi => ?_⟩
  obtain ⟨h1, h2, h3, h4⟩ := hcell i hi
  exact ⟨h1, a, rfl, hb (by omega), h2, h3, h4⟩
theorem open_ops {H : Type} {enc : TypeId × Value → H} {W : World} {base : Nat} {spare : Nat → Bool} {held : Bool} {fuel : Nat} {cs : List Value} {x : DataW H × List MemPlace} (h : DataW.trod enc Tryd.prog W base spare held fuel 45 cs = some x) :
    ∃ A cap l, cs = [.slice A l.length cap] ∧ OpsAt W A l := by
  have h50 : Tryd.prog.cellsOf 50 = 3 := by kernel_rfl
  have h2 : Tryd.prog.cellsOf 2 = 1 := by kernel_rfl
  have h3 : Tryd.prog.cellsOf 3 = 1 := by kernel_rfl
  have h4 : Tryd.prog.cellsOf 4 = 1 := by kernel_rfl
  rcases Go.Deep.open_slice Tryd.underlying45 h with ⟨rfl, _⟩ | ⟨a, len, cap, m, n, D, Pl, rfl, _, hl, hm, hmm, _, hi⟩
  · exact ⟨none, 0, [], rfl, fun i hi => absurd hi (by simp)⟩
  · rw [h50] at hi
    have hlm : len ≤ m := by rw [hmm]; split <;> omega
    have hblk : 0 < len → a.block < W.heap.size := fun h0 => by
      obtain ⟨cs', hc, ht⟩ := hi 0 (by omega)
      obtain ⟨_, hcl, hat⟩ := World.cells?_some hc
      obtain ⟨_, _, _, _, hlen, _⟩ := DataW.trod_struct Tryd.underlying50 ht
      rw [h50] at hlen
      have g0 := hat 0 (by decide)
      match cs', hlen with
      | [u0, u1, u2], _ =>
        have g1 : W.cell? ((a.add (0 * 3)).add 0) = some u0 := g0
        exact World.block_lt_of_cell? W _ g1
    obtain ⟨l, rfl, hC⟩ := ops_C hblk (fun i hil => by
      obtain ⟨cs', hc, ht⟩ := hi i (by omega)
      obtain ⟨_, hcl, hat⟩ := World.cells?_some hc
      obtain ⟨ys, n', _, _, hlen, hyl, hf⟩ := DataW.trod_struct Tryd.underlying50 ht
      have f0 : DataW.trod enc Tryd.prog W base spare held n' 3 (List.take (Tryd.prog.cellsOf 3) (List.drop 0 cs')) = ys[0]? := hf 0 _ rfl
      have f1 : DataW.trod enc Tryd.prog W base spare held n' 2 (List.take (Tryd.prog.cellsOf 2) (List.drop 1 cs')) = ys[1]? := hf 1 _ rfl
      have f2 : DataW.trod enc Tryd.prog W base spare held n' 4 (List.take (Tryd.prog.cellsOf 4) (List.drop 2 cs')) = ys[2]? := hf 2 _ rfl
      have hy0 : ys[0]? = some (ys[0]'(by rw [hyl]; decide)) := List.getElem?_eq_getElem _
      have hy1 : ys[1]? = some (ys[1]'(by rw [hyl]; decide)) := List.getElem?_eq_getElem _
      have hy2 : ys[2]? = some (ys[2]'(by rw [hyl]; decide)) := List.getElem?_eq_getElem _
      obtain ⟨p0, e0, _⟩ := DataW.trod_int Tryd.underlying3 (f0.trans hy0)
      obtain ⟨p1, e1, _, wf1⟩ := DataW.trod_int Tryd.underlying2 (f1.trans hy1)
      obtain ⟨p2, e2, _⟩ := DataW.trod_bool Tryd.underlying4 (f2.trans hy2)
      rw [h50] at hlen
      have g0 := hat 0 (by decide)
      have g1 := hat 1 (by decide)
      have g2 := hat 2 (by decide)
      rw [addr_add_add] at g0
      rw [h3] at e0
      rw [h2] at e1
      rw [h4] at e2
      match cs', hlen with
      | [u0, u1, u2], _ =>
        have e0' : [u0] = [Value.int .i64 p0] := e0
        have e1' : [u1] = [Value.int .i64 p1] := e1
        have e2' : [u2] = [Value.bool p2] := e2
        injection e0' with e0'
        injection e1' with e1'
        injection e2' with e2'
        subst e0'
        subst e1'
        subst e2'
        exact ⟨⟨p0, p1, p2⟩, bounds_i64 wf1, g0, g1, g2⟩)
    exact ⟨some a, cap, l, rfl, hC⟩

end Go.Proofs.YtfkbkcdiajjljaaDoor.PBitsSteps
namespace Go.Proofs.YtfkbkcdiajjljaaDoor.bitsPlays
open Go.ChangeShapes Go.WideShapes Go.ChangeAt Go.RowKit Go.Proofs.YtfkbkcdiajjljaaDoor.PBitsSteps
theorem own : ownKnob Tryd.prog.godebug = none := by kernel_rfl
theorem laidOut : laidOutB Tryd.prog = true := by kernel_rfl
/-- The door's own heap meets the condition: closed facts. -/
theorem door_met (os : Os) (args : Array Value) : laidMetH Tryd.prog Rows.bitsPlaysRow.laid ((World.doorLaid Tryd.prog 400 os).forCall (fun _ _ => 0) ⟨#[], args, []⟩).memory :=
  laidMetH_of_parts3 (fuel := 8) (laidMet_of_run' 8 (by kernel_rfl) (by kernel_rfl)) (by kernel_rfl) (by kernel_rfl)
set_option maxRecDepth 100000 in
theorem lifted (os : Os) (started : os.Started) (H : Type) (enc : TypeId × Value → H) :
    ReturnsInHanded {} Tryd.checked os 5 .any (fun w args => (Rows.bitsPlaysSpec.pre enc Tryd.prog Tryd.f5 [] false w args ∧ laidMetH Tryd.prog Rows.bitsPlaysRow.laid w) ∧ sizedMet enc Tryd.prog Tryd.f5 (OpenSpec.ofChange Rows.bitsPlaysSpec) false w args)
      (Rows.bitsPlaysSpec.post enc Tryd.prog Tryd.f5 false true false false) := by
  refine returnsInHanded_of_change_and (C := Tryd.checked) (X := fun w _ => laidMetH Tryd.prog Rows.bitsPlaysRow.laid w) (fun _ _ _ hh h => h.of_heap hh) own started (by kernel_rfl) Tryd.func5
    (ChangeSpec.witness_shaped (enc := enc) (C := Tryd.checked) (os := os) (X := fun w _ => laidMetH Tryd.prog Rows.bitsPlaysRow.laid w) false (World.doorLaid Tryd.prog 400 os) #[.slice none 0 0, .slice none 0 0, .slice none 0 0] 8 rfl (World.shaped_of_RefB (by kernel_rfl) (by kernel_rfl)) (by kernel_rfl) (by kernel_rfl) (by kernel_rfl) (door_met os _)) ?_
  intro W base args ds gs before hval0 hW _ hsz hL _
  have hval : ∀ (j : Nat) t v, Tryd.f5.params[j]? = some t → args[j]? = some v → Value.okWide Tryd.prog W .any base t v := hval0
  have hW' := hW
  obtain ⟨p, q, hA0, hV, rfl, hfz, hnd⟩ := hW
  have hA : DataW.TrodAll enc Tryd.prog W 0 (fun _ => true) true Tryd.f5.params.toList args.toList ds p := hA0
  rw [Tryd.params5] at hA hval
  obtain ⟨v0, vs0, d0, ds0, p0, q0, hargs, rfl, rfl, h0, r0⟩ := trodAll_cons hA
  obtain ⟨v1, vs1, d1, ds1, p1, q1, rfl, rfl, rfl, h1, r1⟩ := trodAll_cons r0
  obtain ⟨v2, vs2, d2, ds2, p2, q2, rfl, rfl, rfl, h2, r2⟩ := trodAll_cons r1
  obtain ⟨rfl, rfl, rfl⟩ := trodAll_nil r2
  obtain rfl : args = #[v0, v1, v2] := by cases args; simp_all
  obtain ⟨rfl, rfl⟩ := trodVars_none hV
  obtain ⟨a0, len0, cap0, rfl⟩ := okWide_slice Tryd.underlying22 (hval 0 22 v0 rfl rfl)
  obtain ⟨a1, len1, cap1, rfl⟩ := okWide_slice Tryd.underlying22 (hval 1 22 v1 rfl rfl)
  obtain ⟨a2, len2, cap2, rfl⟩ := okWide_slice Tryd.underlying45 (hval 2 45 v2 rfl rfl)
  have k0 := h0
  have k1 := h1
  have k2 := h2
  have lt0 : ∀ x ∈ p0, x.block < W.heap.size := by obtain ⟨m, hm⟩ := k0; exact DataW.trod_lt m _ _ _ hm
  have lt1 : ∀ x ∈ p1, x.block < W.heap.size := by obtain ⟨m, hm⟩ := k1; exact DataW.trod_lt m _ _ _ hm
  have lt2 : ∀ x ∈ p2, x.block < W.heap.size := by obtain ⟨m, hm⟩ := k2; exact DataW.trod_lt m _ _ _ hm
  have hsz24 : len2 * 24 ≤ 140737488351232 := sized_ops hsz (j := 2) (by rw [Tryd.params5]; rfl) rfl h2
  obtain ⟨l, rfl, hc, hC⟩ : ∃ l : List S71, l.length = len0 ∧ l.length ≤ cap0 ∧ Go.Proofs.YtfkbkcdiajjljaaDoorW.PrintWords.Kd.C k71 W a0 l.length l := by
    obtain ⟨fuel, hf⟩ := h0
    obtain ⟨A, c, l, e, hc, hC⟩ := open_ranges hf
    simp [Value.cells] at e
    obtain ⟨rfl, rfl, rfl⟩ := e
    exact ⟨l, rfl, hc, hC⟩
  obtain ⟨l2, rfl, hc2, hC2⟩ : ∃ l : List S71, l.length = len1 ∧ l.length ≤ cap1 ∧ Go.Proofs.YtfkbkcdiajjljaaDoorW.PrintWords.Kd.C k71 W a1 l.length l := by
    obtain ⟨fuel, hf⟩ := h1
    obtain ⟨A, c, l, e, hc, hC⟩ := open_ranges hf
    simp [Value.cells] at e
    obtain ⟨rfl, rfl, rfl⟩ := e
    exact ⟨l, rfl, hc, hC⟩
  obtain ⟨l3, rfl, hO⟩ : ∃ l : List Op3, l.length = len2 ∧ OpsAt W a2 l := by
    obtain ⟨fuel, hf⟩ := h2
    obtain ⟨A, c, l, e, hO⟩ := open_ops hf
    simp [Value.cells] at e
    obtain ⟨rfl, rfl, rfl⟩ := e
    exact ⟨l, rfl, hO⟩
  clear hA0 hval0
  refine (plays_calls a0 cap0 l a1 cap1 l2 a2 cap2 l3 W (tab_of_laid hL) hC hc hC2 hc2 hO (by omega)).mono fun e W' ⟨he, bel⟩ => ?_
  subst he
  exact ⟨_, rfl, _, _, _, [], _, [], hW', trodAll_mk1 (shut_bool Tryd.underlying4 _), (trodAll_cons_mk (Below.trod laidOut (by kernel_rfl) (of_decide_eq_true (by kernel_rfl)) k0 bel lt0) (trodAll_cons_mk (Below.trod laidOut (by kernel_rfl) (of_decide_eq_true (by kernel_rfl)) k1 bel lt1) (trodAll_cons_mk (Below.trod laidOut (by kernel_rfl) (of_decide_eq_true (by kernel_rfl)) k2 bel lt2) trodAll_mk0))), rfl, bel.frame _, fun h => by cases h⟩

theorem bitsPlays_said : Rows.BitsPlaysSaid :=
  OpenClaim.holds_of_wide 5 Tryd.f5 rfl rfl rfl rfl rfl rfl rfl ⟨rfl, rfl, rfl, rfl, rfl⟩ rfl rfl rfl rfl rfl (by kernel_rfl) Tryd.func5 (by kernel_rfl)
    (of_decide_eq_true (by kernel_rfl)) (by unfold Func.isWrapper; first | (rw [if_pos (by decide +kernel)]; kernel_rfl) | (rw [if_neg (by decide +kernel)]; exact ⟨rfl, rfl⟩))
    (fun os started H enc _ => lifted os started H enc)
theorem card_holds : Rows.BitsPlaysCardSaid :=
  Claim7.holds_tied_plain_at .later [] [.data] true (true, "d25aee6728e6487eed409672a928bc21616ae340ea119442e754ba2c634bd23c") false
    bitsPlays_said (fun _ h => by cases h) (by kernel_rfl) (fun _ h => by cases h) bitsPlays_row_tie rfl ⟨rfl, rfl⟩ (by kernel_rfl) rfl
    (fun f fn hf hfn => by
      obtain rfl : f = 5 := Option.some.inj ((show Tryd.prog.funcNamed "jigsaw/jigsawlaw03.BitsPlays" = some 5 by kernel_rfl).symm.trans hf) |>.symm
      obtain rfl : fn = Tryd.f5 := (Option.some.inj (Tryd.func5.symm.trans hfn)).symm
      exact ⟨by kernel_rfl, fun j t ht => by
        rw [Tryd.params5] at ht
        have hm : t ∈ [22, 22, 45] := by simpa using Array.mem_of_getElem? ht
        have hall : ([22, 22, 45].all fun u => !Tryd.prog.wantsStandIn u) = true := by kernel_rfl
        exact (show Tryd.prog.wantsStandIn t = false by simpa using List.all_eq_true.1 hall t hm)⟩)
    (by kernel_rfl)
#print axioms card_holds
end Go.Proofs.YtfkbkcdiajjljaaDoor.bitsPlays
namespace Go.Proofs.YtfkbkcdiajjljaaDoor
/-- The card, under a short name, for the claim. -/
theorem bitsPlays_holds : Rows.BitsPlaysCardSaid := bitsPlays.card_holds
end Go.Proofs.YtfkbkcdiajjljaaDoor
