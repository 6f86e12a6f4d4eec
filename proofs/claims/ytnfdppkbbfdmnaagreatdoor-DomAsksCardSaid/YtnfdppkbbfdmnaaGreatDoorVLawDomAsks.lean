/- DomAsks: whatever is handed in, the law answers true, and what was handed in reads as it did. Condition: the library's variables hold what their texts say. -/
import Derived.Test.YtnfdppkbbfdmnaaGreatDoorC13
import Derived.Test.YtnfdppkbbfdmnaaGreatDoorRows
import Derived.Test.YtnfdppkbbfdmnaaGreatDoorTie
import Derived.Test.YtnfdppkbbfdmnaaGreatDoorCards
import Derived.ProofKit
import Derived.LaidMore
import Derived.LaidLaws
import Derived.Stop.LaidErr
import Derived.Lib.LaidTab
import Derived.OpenShut
import Derived.Stop.Joined
import Derived.SevenTiedAt
import Derived.ChangeMaps5
import Derived.SizedLaws
import Derived.JoinedCond
import Derived.Deep.DeepHandedRow
import Derived.Deep.DeepWitnessRowRef
import Derived.Shelf.Vars
import Derived.Deep.Slices
import Derived.Lay
namespace Go.Proofs.YtnfdppkbbfdmnaaGreatDoor.PD
open Go.ChangeShapes Go.WideShapes Go.ChangeAt Go.RowKit Go.Proofs.YtnfdppkbbfdmnaaGreatDoorW.PrintWords Go.Proofs.YtnfdppkbbfdmnaaGreatDoorW.PrintLast Go.Proofs.YtnfdppkbbfdmnaaGreatDoorW.PrintMore
set_option linter.unusedVariables false
set_option linter.unusedSimpArgs false
/-! ### the laid variables, as the row gives them -/
theorem star_es : "*" ++ "errors.errorString" = "*errors.errorString" := by decide
theorem row146 (u : TypeId) (h : Tryz.prog.typeName? 3 u = some "*errors.errorString") : u = 146 :=
  typeName_ptr_named (nm := "errors.errorString") (by rw [star_es]; kernel_rfl) (by kernel_rfl) (by decide) u (by rw [star_es]; exact h)
theorem dom_of_laid {W : World} (h : laidMetH Tryz.prog Rows.domAsksRow.laid W) (hsh : W.ShapedOpen Tryz.prog) : DomLaid W := by
  rw [MakeChecks.laidMetH_plain _ _ _ (by kernel_rfl)] at h
  have h1 := laidMet.tail (laidMet.tail h)
  have h3 := laidMet.tail (laidMet.tail h1)
  have h4 := laidMet.tail h3
  obtain ⟨a, s, hr, _⟩ := laid_sentinel (g := 2) (ti := 69) h3 (by kernel_rfl) (by kernel_rfl) Tryz.underlying69 row146 Tryz.underlying146 Tryz.underlying148 rfl rfl Tryz.underlying9 (by kernel_rfl) (by kernel_rfl)
  obtain ⟨a', s', hs, _⟩ := laid_sentinel (g := 1) (ti := 69) h4 (by kernel_rfl) (by kernel_rfl) Tryz.underlying69 row146 Tryz.underlying146 Tryz.underlying148 rfl rfl Tryz.underlying9 (by kernel_rfl) (by kernel_rfl)
  refine ⟨⟨_, _, hs⟩, ⟨_, _, hr⟩, ?_, ?_⟩
  · exact Lib.tabIs_of_head (g := 3) (t := 141) (e := 102) (by kernel_rfl) (by kernel_rfl) Tryz.underlying141 Tryz.underlying102 (by kernel_rfl) (by kernel_rfl) (rest := _) h1
  · exact Go.Proofs.cell_of_shapedOpen_int (zero := #[.int .i64 0]) (t := 3) hsh (of_decide_eq_true (by kernel_rfl)) (by kernel_rfl) rfl (by kernel_rfl) (by kernel_rfl) Tryz.underlying3
/-! ### lists that came in -/
theorem addr_add_add' (a : Addr) (i j : Nat) : (a.add i).add j = a.add (i + j) := by
  by_cases hi : i = 0 <;> by_cases hj : j = 0 <;> simp [Addr.add, hi, hj, Nat.add_assoc]
theorem ranges_C {w : World} {a : Addr} {len cap : Nat} (hm : len ≤ cap) (hc : cap ≤ maxLen) (h : ∀ i, i < len → ∃ s : S57, w.cell? (a.add (i * 2)) = some (.int .i64 s.f0) ∧ w.cell? (a.add (i * 2 + 1)) = some (.int .i64 s.f1)) :
    ∃ l : List S57, l.length = len ∧ Kd.C k57 w (some a) len l := by
  have key : ∀ k, k ≤ len → ∃ l : List S57, l.length = k ∧ ∀ j s, l[j]? = some s → w.cell? (a.add (j * 2)) = some (.int .i64 s.f0) ∧ w.cell? (a.add (j * 2 + 1)) = some (.int .i64 s.f1) := by
    intro k
    induction k with
    | zero => exact fun _ => ⟨[], rfl, fun j s hj => by simp at hj⟩
    | succ k ih =>
      intro hk
      obtain ⟨l, hl, hcell⟩ := ih (by omega)
      obtain ⟨s, h1, h2⟩ := h k (by omega)
      refine ⟨l ++ [s], by simp [hl], fun j t hj => ?_⟩
      by_cases e : j < l.length
      · rw [List.getElem?_append_left e] at hj
        exact hcell j t hj
      · rw [List.getElem?_append_right (by omega)] at hj
        obtain rfl : j = k := by
          have := (List.getElem?_eq_some_iff.1 hj).1
          simp at this
          omega
        rw [hl, Nat.sub_self] at hj
        obtain rfl : s = t := by simpa using hj
        exact ⟨h1, h2⟩
  obtain ⟨l, hl, hcell⟩ := key len (Nat.le_refl _)
  refine ⟨l, hl, hl, by unfold maxLen at hc; omega, fun _ => ⟨a, rfl, fun j s hj => ?_⟩⟩
  obtain ⟨h1, h2⟩ := hcell j s hj
  refine ⟨_, rfl, k57_mk w s, fun i u hu => ?_⟩
  match i, hu with
  | 0, hu => obtain rfl := Option.some.inj hu; exact h1
  | 1, hu => obtain rfl := Option.some.inj hu; exact h2
set_option maxRecDepth 100000 in
theorem open_ranges0 {H : Type} {enc : TypeId × Value → H} {W : World} {base : Nat} {spare : Nat → Bool} {held : Bool} {fuel : Nat} {cs : List Value} {x : DataW H × List MemPlace} (h : DataW.trod enc Tryz.prog W base spare held fuel 23 cs = some x) :
    ∃ A cap l, cs = [.slice A l.length cap] ∧ l.length ≤ cap ∧ Kd.C k57 W A l.length l := by
  have h57 : Tryz.prog.cellsOf 57 = 2 := by kernel_rfl
  have h2 : Tryz.prog.cellsOf 2 = 1 := by kernel_rfl
  rcases Go.Deep.open_slice Tryz.underlying23 h with ⟨rfl, _⟩ | ⟨a, len, cap, m, n, D, Pl, rfl, _, hl, hm, hmm, _, hi⟩
  · exact ⟨none, 0, [], rfl, Nat.le_refl _, rfl, by decide, fun hn => absurd hn (by decide)⟩
  · rw [h57] at hi
    have hlm : len ≤ m := by rw [hmm]; split <;> omega
    obtain ⟨l, rfl, hC⟩ := ranges_C hl hm (fun i hil => by
      obtain ⟨cs', hc, ht⟩ := hi i (by omega)
      obtain ⟨_, hcl, hat⟩ := World.cells?_some hc
      obtain ⟨ys, n', _, _, hlen, hyl, hf⟩ := DataW.trod_struct Tryz.underlying57 ht
      have f0 : DataW.trod enc Tryz.prog W base spare held n' 2 (List.take (Tryz.prog.cellsOf 2) (List.drop 0 cs')) = ys[0]? := hf 0 _ rfl
      have f1 : DataW.trod enc Tryz.prog W base spare held n' 2 (List.take (Tryz.prog.cellsOf 2) (List.drop 1 cs')) = ys[1]? := hf 1 _ rfl
      have hy0 : ys[0]? = some (ys[0]'(by rw [hyl]; decide)) := List.getElem?_eq_getElem _
      have hy1 : ys[1]? = some (ys[1]'(by rw [hyl]; decide)) := List.getElem?_eq_getElem _
      obtain ⟨p0, e0, _⟩ := DataW.trod_int Tryz.underlying2 (f0.trans hy0)
      obtain ⟨p1, e1, _⟩ := DataW.trod_int Tryz.underlying2 (f1.trans hy1)
      rw [h57] at hlen
      have g0 := hat 0 (by decide)
      have g1 := hat 1 (by decide)
      rw [addr_add_add'] at g0 g1
      rw [h2] at e0 e1
      match cs', hlen with
      | [u0, u1], _ =>
        have e0' : [u0] = [Value.int .i64 p0] := e0
        have e1' : [u1] = [Value.int .i64 p1] := e1
        injection e0' with e0'
        injection e1' with e1'
        subst e0'
        subst e1'
        exact ⟨⟨p0, p1⟩, g0, g1⟩)
    exact ⟨some a, cap, l, rfl, hl, hC⟩
theorem open_ranges {H : Type} {enc : TypeId × Value → H} {W : World} {base : Nat} {spare : Nat → Bool} {held : Bool} {a : Option Addr} {len cap : Nat} {d : DataW H} {ps : List MemPlace} {ts : List TypeId} {ds : List (DataW H)} {j : Nat}
    (hsz : (DataW.weightsEach Tryz.prog ts ds).all (· ≤ reachBytes) = true) (ht : ts[j]? = some 23) (hd : ds[j]? = some d) (h : DataW.Trod enc Tryz.prog W base spare held 23 (.slice a len cap) d ps) :
    ∃ l : List S57, Lst W (.slice a len cap) l ∧ l.length * 16 ≤ 140737488351232 := by
  have hlen : len * 16 ≤ 140737488351232 := by
    obtain ⟨fuel, hf⟩ := h
    rcases Go.Deep.open_slice Tryz.underlying23 hf with ⟨hcs, _⟩ | ⟨x, l, c, m, n, D, Pl, hcs, _, hl, _, hm, hx, _⟩
    · simp [Value.cells] at hcs
      obtain ⟨rfl, rfl, rfl⟩ := hcs
      simp
    · simp [Value.cells] at hcs
      obtain ⟨rfl, rfl, rfl⟩ := hcs
      obtain ⟨hx, _⟩ := Prod.mk.inj hx
      subst hx
      have z := sized_slice hsz ht hd Tryz.underlying23
      rw [show Tryz.prog.bytesOf 57 = 16 by kernel_rfl, List.length_map, List.length_map, List.length_range, List.length_range] at z
      exact Nat.le_trans (Nat.mul_le_mul_right _ (by omega)) z
  obtain ⟨fuel, hf⟩ := h
  obtain ⟨A, c, l, e, hc, hC⟩ := open_ranges0 hf
  simp [Value.cells] at e
  obtain ⟨rfl, rfl, rfl⟩ := e
  exact ⟨l, ⟨_, _, rfl, hC, hc⟩, hlen⟩
end Go.Proofs.YtnfdppkbbfdmnaaGreatDoor.PD
namespace Go.Proofs.YtnfdppkbbfdmnaaGreatDoor.domAsks
open Go.ChangeShapes Go.WideShapes Go.ChangeAt Go.RowKit Go.Proofs.YtnfdppkbbfdmnaaGreatDoor.PD
set_option linter.unusedVariables false
theorem own : ownKnob Tryz.prog.godebug = none := by kernel_rfl
theorem laidOut : laidOutB Tryz.prog = true := by kernel_rfl
/-- There is an input that fits, at a world that is written out. -/
theorem witness_shaped {H : Type} {enc : TypeId × Value → H} {C : Checked} {os : Os} {f : FuncId} {fn : Func} {s : OpenSpec} {conds : List PathCond} {apart : Bool} {laid : List (String × DataW Unit)} (modest : Bool) (w0 : World) (args : Array Value) (hos : w0.os = os)
    (hsh : (w0.forCall (fun _ _ => 0) ⟨#[], args, []⟩).Shaped C.prog)
    (hok : Input.okWideB C.prog (w0.forCall (fun _ _ => 0) ⟨#[], args, []⟩) f ⟨#[], args, []⟩ = true)
    (hrow : s.preRow enc C.prog fn conds apart laid (w0.forCall (fun _ _ => 0) ⟨#[], args, []⟩).memory args) :
    ∃ (w : World) (tape : Tape) (i : Input), w.os = os ∧ (w.forCall tape i).Shaped C.prog ∧ i.vars = [] ∧ Input.okWide C.prog (w.forCall tape i) .any w.heap.size f i ∧
      s.preRow enc C.prog fn conds apart laid (w.forCall tape i).memory i.args ∧ ({ modest := modest } : Assume).holds C.prog (lone (Frame.enter C.prog f i.args .normal) [] (w.forCall tape i)) :=
  ⟨w0, fun _ _ => 0, ⟨#[], args, []⟩, hos, hsh, (Input.okWide_of_okWideB (base := 0) hok).1, (Input.okWide_of_okWideB hok).2, hrow, by
    simp only [Assume.holds]
    exact ⟨by simp, by simp, fun _ => Modest.zero, by simp, by simp⟩⟩
/-- The door's own heap meets the condition: closed facts. -/
theorem door_met (os : Os) (args : Array Value) : laidMetH Tryz.prog Rows.domAsksRow.laid ((World.laidAll Tryz.prog os Rows.domAsksRow.laid).forCall (fun _ _ => 0) ⟨#[], args, []⟩).memory :=
  by rw [MakeChecks.laidMetH_plain _ _ _ (by kernel_rfl)]; exact laidMet_laidAll _ (by kernel_rfl) (by kernel_rfl)
theorem reads (os : Os) {H : Type} (enc : TypeId × Value → H) : ∃ places, DataW.whole enc Tryz.prog ((World.laidAll Tryz.prog os Rows.domAsksRow.laid).forCall (fun _ _ => 0) ⟨#[], #[.slice none 0 0, .int .i64 0], []⟩).memory Tryz.f5.params.toList Rows.domAsksSpec.vars false (#[.slice none 0 0, .int .i64 0] : Array Value).toList 8 = some ([.nil, .lit (.int .i64 0)], [], places) :=
  ⟨[], by kernel_rfl⟩
set_option maxRecDepth 100000 in
theorem contract (H : Type) (enc : TypeId × Value → H) (W : World) (base : Nat) (args : Array Value) (ds gs : List (DataW H)) (before : List MemPlace)
    (hval0 : ∀ (j : Nat) t v, Tryz.f5.params[j]? = some t → args[j]? = some v → Value.okWide Tryz.prog W .any base t v)
    (hW : DataW.Whole enc Tryz.prog Tryz.f5.params.toList Rows.domAsksSpec.vars false W args.toList ds gs before)
    (hcond : ∀ k, (OpenSpec.ofChange Rows.domAsksSpec).cond = some k → k H (ds ++ gs) = true)
    (hsz : (DataW.weightsEach Tryz.prog (Tryz.f5.params.toList ++ (OpenSpec.ofChange Rows.domAsksSpec).bare.plain.varTypes Tryz.prog) (ds ++ gs)).all (· ≤ reachBytes) = true)
    (hL : laidMetH Tryz.prog Rows.domAsksRow.laid W) (hsh : W.ShapedOpen Tryz.prog) :
    Calls Tryz.prog 5 args W fun e W' => ∃ v, e = .returned v ∧ Rows.domAsksSpec.post enc Tryz.prog Tryz.f5 false true false false W args v W' := by
  have hval : ∀ (j : Nat) t v, Tryz.f5.params[j]? = some t → args[j]? = some v → Value.okWide Tryz.prog W .any base t v := hval0
  have hW' := hW
  obtain ⟨p, q, hA0, hV, rfl, hfz, hnd⟩ := hW
  have hA : DataW.TrodAll enc Tryz.prog W 0 (fun _ => true) true Tryz.f5.params.toList args.toList ds p := hA0
  rw [Tryz.params5] at hA hval
  obtain ⟨v0, vs0, d0, ds0, p0, q0, hargs, rfl, rfl, h0, r0⟩ := trodAll_cons hA
  obtain ⟨v1, vs1, d1, ds1, p1, q1, rfl, rfl, rfl, h1, r1⟩ := trodAll_cons r0
  obtain ⟨rfl, rfl, rfl⟩ := trodAll_nil r1
  obtain rfl : args = #[v0, v1] := by cases args; simp_all
  obtain ⟨rfl, rfl⟩ := trodVars_none hV
  have k0 := h0
  have lt0 : ∀ x ∈ p0, x.block < W.heap.size := by obtain ⟨m, hm⟩ := k0; exact DataW.trod_lt m _ _ _ hm
  obtain ⟨A0, n0, c0, rfl⟩ := okWide_slice Tryz.underlying23 (hval 0 23 v0 rfl rfl)
  obtain ⟨l0, x0, y0⟩ := open_ranges hsz (j := 0) (by rw [Tryz.params5]; rfl) rfl h0
  obtain ⟨a1, rfl, rfl, rfl, w1⟩ := open_int Tryz.underlying2 (hval 1 2 v1 rfl rfl) h1
  have b1 := bounds_i64 w1
  clear hA0 hval0
  refine (asks_calls l0 a1 W (dom_of_laid hL hsh) x0 (by omega)).mono fun e W' ⟨he, bel⟩ => ?_
  subst he
  exact ⟨_, rfl, _, _, _, [], _, [], hW', trodAll_mk1 (shut_bool Tryz.underlying4 _), (trodAll_cons_mk (Below.trod laidOut (by kernel_rfl) (of_decide_eq_true (by kernel_rfl)) k0 bel lt0) (trodAll_cons_mk (shut_int Tryz.underlying2 w1) trodAll_mk0)), rfl, bel.frame _, fun h => by cases h⟩
set_option maxRecDepth 100000 in
theorem lifted (os : Os) (started : os.Started) (H : Type) (enc : TypeId × Value → H) (F : Stop.Interp) :
    ReturnsInHanded {} Tryz.checked os 5 .any ((OpenSpec.ofChange Rows.domAsksSpec).preRow enc Tryz.prog Tryz.f5 Rows.domAsksRow.domain false Rows.domAsksRow.laid) (((OpenSpec.ofChange Rows.domAsksSpec).at F).post enc Tryz.prog Tryz.f5 false true false false) := by
  obtain ⟨places, hx⟩ := reads os enc
  refine returnsInHanded_of_row (C := Tryz.checked) (s := OpenSpec.ofChange Rows.domAsksSpec) own started (by kernel_rfl) Tryz.func5
    (witness_shaped (enc := enc) (C := Tryz.checked) false (World.laidAll Tryz.prog os Rows.domAsksRow.laid) #[.slice none 0 0, .int .i64 0] (World.laidAll_os _ _ _) (World.shaped_of_ZipB (by kernel_rfl) (by kernel_rfl)) (by kernel_rfl)
      (OpenSpec.preRow_of_cond 8 hx (by kernel_rfl) (fun k hk => by cases hk) (by kernel_rfl) (door_met os _))) ?_
  intro W base args ds gs before hval hW _ hcond hsz hL hsh _
  exact contract H enc W base args ds gs before hval hW hcond hsz hL hsh
theorem said : Rows.DomAsksSaid :=
  OpenClaim.holds_of_cond 5 Tryz.f5 rfl rfl rfl rfl rfl rfl rfl ⟨rfl, rfl, rfl, rfl, rfl⟩ rfl rfl rfl rfl rfl (by kernel_rfl) Tryz.func5 (by kernel_rfl)
    (of_decide_eq_true (by kernel_rfl)) (by unfold Func.isWrapper; first | (rw [if_pos (by decide +kernel)]; kernel_rfl) | (rw [if_neg (by decide +kernel)]; exact ⟨rfl, rfl⟩))
    (fun os started H enc _ F => by rw [OpenClaim.pre_eq_preRow]; exact lifted os started H enc F)
theorem card_holds : Rows.DomAsksCardSaid :=
  Claim7.holds_tied_plain_at .later [] _ _ _ _ said (fun _ h => by cases h) (by kernel_rfl) (fun _ h => by cases h) domAsks_row_tie rfl ⟨rfl, rfl⟩ (by kernel_rfl) rfl
    (fun f fn hf hfn => by
      obtain rfl : f = 5 := Option.some.inj ((show Tryz.prog.funcNamed "jigsaw/jigsawlaw02.DomAsks" = some 5 by kernel_rfl).symm.trans hf) |>.symm
      obtain rfl : fn = Tryz.f5 := (Option.some.inj (Tryz.func5.symm.trans hfn)).symm
      exact ⟨by kernel_rfl, fun j t ht => by
        rw [Tryz.params5] at ht
        have hm : t ∈ [23, 2] := by simpa using Array.mem_of_getElem? ht
        have hall : ([23, 2].all fun u => !Tryz.prog.wantsStandIn u) = true := by kernel_rfl
        exact (show Tryz.prog.wantsStandIn t = false by simpa using List.all_eq_true.1 hall t hm)⟩)
    (by kernel_rfl)
#print axioms card_holds
end Go.Proofs.YtnfdppkbbfdmnaaGreatDoor.domAsks
namespace Go.Proofs.YtnfdppkbbfdmnaaGreatDoor
/-- The card, under a short name, for the claim. -/
theorem domAsks_holds : Rows.DomAsksCardSaid := domAsks.card_holds
end Go.Proofs.YtnfdppkbbfdmnaaGreatDoor
