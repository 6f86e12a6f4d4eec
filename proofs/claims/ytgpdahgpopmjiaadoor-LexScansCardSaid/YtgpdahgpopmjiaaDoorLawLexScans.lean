/- LexScans: whatever is handed in, the law answers true, and what was handed in reads as it did. Condition: the library's variables hold what their texts say. -/
import Derived.Test.YtgpdahgpopmjiaaDoorLv
import Derived.Test.YtgpdahgpopmjiaaDoorRows
import Derived.Test.YtgpdahgpopmjiaaDoorTie
import Derived.Test.YtgpdahgpopmjiaaDoorCards
import Derived.ProofKit
import Derived.LaidMore
import Derived.LaidLaws
import Derived.Stop.LaidErr
import Derived.Lib.LaidTab
import Derived.OpenShut
import Derived.Stop.Joined
import Derived.SevenTiedAt
import Derived.ChangeMaps5
import Derived.SizedLaws
namespace Go.Proofs.YtgpdahgpopmjiaaDoor.PL
open Go.ChangeShapes Go.WideShapes Go.ChangeAt Go.RowKit Go.Proofs.YtgpdahgpopmjiaaDoorW.PrintWords Go.Proofs.YtgpdahgpopmjiaaDoorW.PrintLast Go.Proofs.YtgpdahgpopmjiaaDoorW.PrintMore
set_option linter.unusedVariables false
set_option linter.unusedSimpArgs false
/-! ### the laid variables -/
theorem star_es : "*" ++ "errors.errorString" = "*errors.errorString" := by decide
theorem row93 (u : TypeId) (h : Tryd.prog.typeName? 3 u = some "*errors.errorString") : u = 93 :=
  typeName_ptr_named (nm := "errors.errorString") (by rw [star_es]; kernel_rfl) (by kernel_rfl) (by decide) u (by rw [star_es]; exact h)
theorem lx_of_laid {W : World} (h : laidMetH Tryd.prog Rows.lexScansRow.laid W) : LxLaid W := by
  rw [MakeChecks.laidMetH_plain _ _ _ (by kernel_rfl)] at h
  have h1 := laidMet.tail (laidMet.tail h)
  have h3 := laidMet.tail h1
  have h4 := laidMet.tail h3
  obtain ⟨a, s, hr, _⟩ := laid_sentinel (g := 5) (ti := 64) h3 (by kernel_rfl) (by kernel_rfl) Tryd.underlying64 row93 Tryd.underlying93 Tryd.underlying95 rfl rfl Tryd.underlying9 (by kernel_rfl) (by kernel_rfl)
  obtain ⟨a', s', hs, _⟩ := laid_sentinel (g := 4) (ti := 64) h4 (by kernel_rfl) (by kernel_rfl) Tryd.underlying64 row93 Tryd.underlying93 Tryd.underlying95 rfl rfl Tryd.underlying9 (by kernel_rfl) (by kernel_rfl)
  refine ⟨⟨_, _, hs⟩, ⟨_, _, hr⟩, ?_⟩
  exact Lib.tabIs_of_head (g := 0) (t := 69) (e := 58) (by kernel_rfl) (by kernel_rfl) Tryd.underlying69 Tryd.underlying58 (by kernel_rfl) (by kernel_rfl) (rest := _) h1
/-! ### a token that comes in, read and read again -/
theorem cells_one {cs : List Value} {k : Nat} {v : Value} (h : (cs.drop k).take 1 = [v]) : cs[k]? = some v := by
  have h2 : ((cs.drop k).take 1)[0]? = some v := by rw [h]; rfl
  rw [List.getElem?_take, if_pos (by decide), List.getElem?_drop, Nat.add_zero] at h2
  exact h2
theorem open_tok {H : Type} {enc : TypeId × Value → H} {W : World} {base b0 : Nat} {sp : Nat → Bool} {held : Bool} {r : Reach} {v : Value} {d : DataW H} {ps : List MemPlace} (hval : Value.okWide Tryd.prog W r b0 28 v) (hd : DataW.Trod enc Tryd.prog W base sp held 28 v d ps) :
    ∃ x : S28, v = tok28 x ∧ d = .agg [.lit (.int .i64 x.f0), .lit (.string x.f1.data.toList), .lit (.int .i64 x.f2), .lit (.int .i64 x.f3)] ∧ ps = [] ∧ (Lit.int .i64 x.f0).wf = true ∧ x.f1.size ≤ maxLen ∧ (Lit.int .i64 x.f2).wf = true ∧ (Lit.int .i64 x.f3).wf = true := by
  obtain ⟨cs, rfl, hsz⟩ := okWide_struct Tryd.underlying28 hval
  rw [show Tryd.prog.cellsOf 28 = 4 by kernel_rfl] at hsz
  obtain ⟨fuel, hf⟩ := hd
  obtain ⟨xs, n, _, hx, hl, hlen, hfl⟩ := DataW.trod_struct Tryd.underlying28 hf
  have hc3 : Tryd.prog.cellsOf 3 = 1 := by kernel_rfl
  have hc9 : Tryd.prog.cellsOf 9 = 1 := by kernel_rfl
  have hc2 : Tryd.prog.cellsOf 2 = 1 := by kernel_rfl
  match xs, hlen with
  | [y0, y1, y2, y3], _ =>
    have h0 : DataW.trod enc Tryd.prog W base sp held n 3 (((Value.agg cs).cells.toList.drop 0).take (Tryd.prog.cellsOf 3)) = some y0 := hfl 0 _ rfl
    have h1 : DataW.trod enc Tryd.prog W base sp held n 9 (((Value.agg cs).cells.toList.drop 1).take (Tryd.prog.cellsOf 9)) = some y1 := hfl 1 _ rfl
    have h2 : DataW.trod enc Tryd.prog W base sp held n 2 (((Value.agg cs).cells.toList.drop 2).take (Tryd.prog.cellsOf 2)) = some y2 := hfl 2 _ rfl
    have h3 : DataW.trod enc Tryd.prog W base sp held n 3 (((Value.agg cs).cells.toList.drop 3).take (Tryd.prog.cellsOf 3)) = some y3 := hfl 3 _ rfl
    rw [hc3] at h0 h3
    rw [hc9] at h1
    rw [hc2] at h2
    obtain ⟨n0, e0, g0, w0⟩ := DataW.trod_int Tryd.underlying3 h0
    obtain ⟨s1, e1, g1, w1⟩ := DataW.trod_string Tryd.underlying9 h1
    obtain ⟨n2, e2, g2, w2⟩ := DataW.trod_int Tryd.underlying2 h2
    obtain ⟨n3, e3, g3, w3⟩ := DataW.trod_int Tryd.underlying3 h3
    have k0 := cells_one e0
    have k1 := cells_one e1
    have k2 := cells_one e2
    have k3 := cells_one e3
    subst g0 g1 g2 g3
    have hcs : cs = #[.int .i64 n0, .string s1, .int .i64 n2, .int .i64 n3] := by
      apply Array.ext'
      have hl4 : cs.toList.length = 4 := by simpa using hsz
      have hc : (Value.agg cs).cells.toList = cs.toList := rfl
      rw [hc] at k0 k1 k2 k3
      match hcl : cs.toList, hl4 with
      | [a, b, c, d], _ =>
        rw [hcl] at k0 k1 k2 k3
        injection k0 with k0
        injection k1 with k1
        injection k2 with k2
        injection k3 with k3
        subst k0 k1 k2 k3
        rfl
    subst hcs
    injection hx with hx1 hx2
    exact ⟨⟨n0, s1, n2, n3⟩, rfl, hx1, hx2, w0, w1, w2, w3⟩
theorem shut_tok {H : Type} {enc : TypeId × Value → H} {W : World} {base : Nat} {sp : Nat → Bool} {held : Bool} (x : S28) (w0 : (Lit.int .i64 x.f0).wf = true) (w1 : x.f1.size ≤ maxLen) (w2 : (Lit.int .i64 x.f2).wf = true) (w3 : (Lit.int .i64 x.f3).wf = true) :
    DataW.Trod enc Tryd.prog W base sp held 28 (tok28 x) (.agg [.lit (.int .i64 x.f0), .lit (.string x.f1.data.toList), .lit (.int .i64 x.f2), .lit (.int .i64 x.f3)]) [] := by
  have hc3 : Tryd.prog.cellsOf 3 = 1 := by kernel_rfl
  have hc9 : Tryd.prog.cellsOf 9 = 1 := by kernel_rfl
  have hc2 : Tryd.prog.cellsOf 2 = 1 := by kernel_rfl
  have hs : DataW.trod enc Tryd.prog W base sp held 1 9 [.string x.f1] = some (.lit (.string x.f1.data.toList), []) := by simp [DataW.trod, Tryd.underlying9, w1]
  have := trod_struct_mk (enc := enc) (w := W) (base := base) (spare := sp) (held := held) (n := 1) (cs := [.int .i64 x.f0, .string x.f1, .int .i64 x.f2, .int .i64 x.f3]) (xs := [(.lit (.int .i64 x.f0), []), (.lit (.string x.f1.data.toList), []), (.lit (.int .i64 x.f2), []), (.lit (.int .i64 x.f3), [])]) Tryd.underlying28 (by kernel_rfl)
    (by simp [hc3, hc9, hc2, trod_int_mk 0 Tryd.underlying3 w0, hs, trod_int_mk 0 Tryd.underlying2 w2, trod_int_mk 0 Tryd.underlying3 w3])
  refine ⟨2, ?_⟩
  show DataW.trod enc Tryd.prog W base sp held 2 28 [.int .i64 x.f0, .string x.f1, .int .i64 x.f2, .int .i64 x.f3] = _
  simpa using this

end Go.Proofs.YtgpdahgpopmjiaaDoor.PL
namespace Go.Proofs.YtgpdahgpopmjiaaDoor.lexScans
open Go.ChangeShapes Go.WideShapes Go.ChangeAt Go.RowKit Go.Proofs.YtgpdahgpopmjiaaDoor.PL
theorem own : ownKnob Tryd.prog.godebug = none := by kernel_rfl
theorem laidOut : laidOutB Tryd.prog = true := by kernel_rfl
/-- The door's own heap meets the condition: closed facts. -/
theorem door_met (os : Os) (args : Array Value) : laidMetH Tryd.prog Rows.lexScansRow.laid ((World.doorLaid Tryd.prog 400 os).forCall (fun _ _ => 0) ⟨#[], args, []⟩).memory :=
  laidMetH_of_parts3 (fuel := 8) (laidMet_of_run' 8 (by kernel_rfl) (by kernel_rfl)) (by kernel_rfl) (by kernel_rfl)
set_option maxRecDepth 100000 in
theorem lifted (os : Os) (started : os.Started) (H : Type) (enc : TypeId × Value → H) :
    ReturnsInHanded {} Tryd.checked os 6 .any (fun w args => (Rows.lexScansSpec.pre enc Tryd.prog Tryd.f6 [] false w args ∧ laidMetH Tryd.prog Rows.lexScansRow.laid w) ∧ sizedMet enc Tryd.prog Tryd.f6 (OpenSpec.ofChange Rows.lexScansSpec) false w args)
      (Rows.lexScansSpec.post enc Tryd.prog Tryd.f6 false true false false) := by
  refine returnsInHanded_of_change_and (C := Tryd.checked) (X := fun w _ => laidMetH Tryd.prog Rows.lexScansRow.laid w) (fun _ _ _ hh h => h.of_heap hh) own started (by kernel_rfl) Tryd.func6
    (ChangeSpec.witness_shaped (enc := enc) (C := Tryd.checked) (os := os) (X := fun w _ => laidMetH Tryd.prog Rows.lexScansRow.laid w) false (World.doorLaid Tryd.prog 400 os) #[.string ⟨#[]⟩, .agg #[.int .i64 0, .string ⟨#[]⟩, .int .i64 0, .int .i64 0]] 8 rfl (World.shaped_of_RefB (by kernel_rfl) (by kernel_rfl)) (by kernel_rfl) (by kernel_rfl) (by kernel_rfl) (door_met os _)) ?_
  intro W base args ds gs before hval0 hW _ hsz hL _
  have hval : ∀ (j : Nat) t v, Tryd.f6.params[j]? = some t → args[j]? = some v → Value.okWide Tryd.prog W .any base t v := hval0
  have hW' := hW
  obtain ⟨p, q, hA0, hV, rfl, hfz, hnd⟩ := hW
  have hA : DataW.TrodAll enc Tryd.prog W 0 (fun _ => true) true Tryd.f6.params.toList args.toList ds p := hA0
  rw [Tryd.params6] at hA hval
  obtain ⟨v0, vs0, d0, ds0, p0, q0, hargs, rfl, rfl, h0, r0⟩ := trodAll_cons hA
  obtain ⟨v1, vs1, d1, ds1, p1, q1, rfl, rfl, rfl, h1, r1⟩ := trodAll_cons r0
  obtain ⟨rfl, rfl, rfl⟩ := trodAll_nil r1
  obtain rfl : args = #[v0, v1] := by cases args; simp_all
  obtain ⟨rfl, rfl⟩ := trodVars_none hV
  obtain ⟨s0, rfl, rfl, rfl, z0⟩ := Go.ChangeMaps.open_string Tryd.underlying9 (hval 0 9 v0 rfl rfl) h0
  obtain ⟨x1, rfl, rfl, rfl, w0, w1, w2, w3⟩ := open_tok (hval 1 28 v1 rfl rfl) h1
  clear hA0 hval0
  have hz : s0.size ≤ 140737488351232 := sized_string hsz (j := 0) (by rw [Tryd.params6]; rfl) rfl
  have hb1 : -9223372036854775808 ≤ x1.f2 ∧ x1.f2 ≤ 9223372036854775807 := bounds_i64 w2
  refine (scans_calls s0 hz x1 hb1 W (lx_of_laid hL)).mono fun e W' ⟨he, bel⟩ => ?_
  subst he
  exact ⟨_, rfl, _, _, _, [], _, [], hW', trodAll_mk1 (shut_bool Tryd.underlying4 _), (trodAll_cons_mk (Go.ChangeMaps.shut_string Tryd.underlying9 z0) (trodAll_cons_mk (shut_tok x1 w0 w1 w2 w3) trodAll_mk0)), rfl, bel.frame _, fun h => by cases h⟩

theorem lexScans_said : Rows.LexScansSaid :=
  OpenClaim.holds_of_wide 6 Tryd.f6 rfl rfl rfl rfl rfl rfl rfl ⟨rfl, rfl, rfl, rfl, rfl⟩ rfl rfl rfl rfl rfl (by kernel_rfl) Tryd.func6 (by kernel_rfl)
    (of_decide_eq_true (by kernel_rfl)) (by unfold Func.isWrapper; first | (rw [if_pos (by decide +kernel)]; kernel_rfl) | (rw [if_neg (by decide +kernel)]; exact ⟨rfl, rfl⟩))
    (fun os started H enc _ => lifted os started H enc)
theorem card_holds : Rows.LexScansCardSaid :=
  Claim7.holds_tied_plain_at .later [] [.data, .data, .data, .sentinel, .sentinel] true (true, "55fe5db4f8807d98fda3587d1a20d9203d37e1094d2eb7d6349ba007bbd7556f") true
    lexScans_said (fun _ h => by cases h) (by kernel_rfl) (fun _ h => by cases h) lexScans_row_tie rfl ⟨rfl, rfl⟩ (by kernel_rfl) rfl
    (fun f fn hf hfn => by
      obtain rfl : f = 6 := Option.some.inj ((show Tryd.prog.funcNamed "jigsaw/jigsawlaw15.LexScans" = some 6 by kernel_rfl).symm.trans hf) |>.symm
      obtain rfl : fn = Tryd.f6 := (Option.some.inj (Tryd.func6.symm.trans hfn)).symm
      exact ⟨by kernel_rfl, fun j t ht => by
        rw [Tryd.params6] at ht
        have hm : t ∈ [9, 28] := by simpa using Array.mem_of_getElem? ht
        have hall : ([9, 28].all fun u => !Tryd.prog.wantsStandIn u) = true := by kernel_rfl
        exact (show Tryd.prog.wantsStandIn t = false by simpa using List.all_eq_true.1 hall t hm)⟩)
    (by kernel_rfl)
#print axioms card_holds
end Go.Proofs.YtgpdahgpopmjiaaDoor.lexScans
namespace Go.Proofs.YtgpdahgpopmjiaaDoor
/-- The card, under a short name, for the claim. -/
theorem lexScans_holds : Rows.LexScansCardSaid := lexScans.card_holds
end Go.Proofs.YtgpdahgpopmjiaaDoor
