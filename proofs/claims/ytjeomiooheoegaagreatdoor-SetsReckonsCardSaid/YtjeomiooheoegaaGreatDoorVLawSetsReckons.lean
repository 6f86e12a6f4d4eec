/- SetsReckons: whatever is handed in, the law answers true, and what was handed in reads as it did. Condition: the library's variables hold what their texts say. -/
import Derived.Test.YtjeomiooheoegaaGreatDoorC14
import Derived.Test.YtjeomiooheoegaaGreatDoorRows
import Derived.Test.YtjeomiooheoegaaGreatDoorTie
import Derived.Test.YtjeomiooheoegaaGreatDoorCards
import Derived.ProofKit
import Derived.LaidMore
import Derived.LaidLaws
import Derived.Stop.LaidErr
import Derived.Lib.LaidTab
import Derived.OpenShut
import Derived.Stop.Joined
import Derived.SevenTiedAt
import Derived.ChangeMaps5
import Derived.SizedLaws
import Derived.JoinedCond
import Derived.Deep.DeepHandedRow
import Derived.Deep.DeepWitnessRowRef
import Derived.Shelf.Vars
import Derived.Deep.Slices
import Derived.Lay
namespace Go.Proofs.YtjeomiooheoegaaGreatDoor.PD
open Go.ChangeShapes Go.WideShapes Go.ChangeAt Go.RowKit Go.Proofs.YtjeomiooheoegaaGreatDoorW.PrintWords Go.Proofs.YtjeomiooheoegaaGreatDoorW.PrintLast Go.Proofs.YtjeomiooheoegaaGreatDoorW.PrintMore
set_option linter.unusedVariables false
set_option linter.unusedSimpArgs false
/-! ### the laid variables, as the row gives them -/
theorem star_es : "*" ++ "errors.errorString" = "*errors.errorString" := by decide
theorem row249 (u : TypeId) (h : Tryz.prog.typeName? 3 u = some "*errors.errorString") : u = 249 :=
  typeName_ptr_named (nm := "errors.errorString") (by rw [star_es]; kernel_rfl) (by kernel_rfl) (by decide) u (by rw [star_es]; exact h)
theorem dom_of_laid {W : World} (h : laidMetH Tryz.prog Rows.setsReckonsRow.laid W) (hsh : W.ShapedOpen Tryz.prog) : DomLaid W := by
  rw [MakeChecks.laidMetH_plain _ _ _ (by kernel_rfl)] at h
  have h1 := laidMet.tail (laidMet.tail h)
  have h3 := laidMet.tail (laidMet.tail h1)
  have h4 := laidMet.tail h3
  obtain ⟨a, s, hr, _⟩ := laid_sentinel (g := 2) (ti := 150) h3 (by kernel_rfl) (by kernel_rfl) Tryz.underlying150 row249 Tryz.underlying249 Tryz.underlying251 rfl rfl Tryz.underlying9 (by kernel_rfl) (by kernel_rfl)
  obtain ⟨a', s', hs, _⟩ := laid_sentinel (g := 1) (ti := 150) h4 (by kernel_rfl) (by kernel_rfl) Tryz.underlying150 row249 Tryz.underlying249 Tryz.underlying251 rfl rfl Tryz.underlying9 (by kernel_rfl) (by kernel_rfl)
  refine ⟨⟨_, _, hs⟩, ⟨_, _, hr⟩, ?_, ?_⟩
  · exact Lib.tabIs_of_head (g := 0) (t := 219) (e := 198) (by kernel_rfl) (by kernel_rfl) Tryz.underlying219 Tryz.underlying198 (by kernel_rfl) (by kernel_rfl) (rest := _) h1
  · exact Go.Proofs.cell_of_shapedOpen_int (zero := #[.int .i64 0]) (t := 3) hsh (of_decide_eq_true (by kernel_rfl)) (by kernel_rfl) rfl (by kernel_rfl) (by kernel_rfl) Tryz.underlying3
/-! ### lists that came in -/
theorem addr_add_add' (a : Addr) (i j : Nat) : (a.add i).add j = a.add (i + j) := by
  by_cases hi : i = 0 <;> by_cases hj : j = 0 <;> simp [Addr.add, hi, hj, Nat.add_assoc]
theorem ranges_C {w : World} {a : Addr} {len cap : Nat} (hm : len ≤ cap) (hc : cap ≤ maxLen) (h : ∀ i, i < len → ∃ s : S119, w.cell? (a.add (i * 2)) = some (.int .i64 s.f0) ∧ w.cell? (a.add (i * 2 + 1)) = some (.int .i64 s.f1)) :
    ∃ l : List S119, l.length = len ∧ Kd.C k119 w (some a) len l := by
  have key : ∀ k, k ≤ len → ∃ l : List S119, l.length = k ∧ ∀ j s, l[j]? = some s → w.cell? (a.add (j * 2)) = some (.int .i64 s.f0) ∧ w.cell? (a.add (j * 2 + 1)) = some (.int .i64 s.f1) := by
    intro k
    induction k with
    | zero => exact fun _ => ⟨[], rfl, fun j s hj => by simp at hj⟩
    | succ k ih =>
      intro hk
      obtain ⟨l, hl, hcell⟩ := ih (by omega)
      obtain ⟨s, h1, h2⟩ := h k (by omega)
      refine ⟨l ++ [s], by simp [hl], fun j t hj => ?_⟩
      by_cases e : j < l.length
      · rw [List.getElem?_append_left e] at hj
        exact hcell j t hj
      · rw [List.getElem?_append_right (by omega)] at hj
        obtain rfl : j = k := by
          have := (List.getElem?_eq_some_iff.1 hj).1
          simp at this
          omega
        rw [hl, Nat.sub_self] at hj
        obtain rfl : s = t := by simpa using hj
        exact ⟨h1, h2⟩
  obtain ⟨l, hl, hcell⟩ := key len (Nat.le_refl _)
  refine ⟨l, hl, hl, by unfold maxLen at hc; omega, fun _ => ⟨a, rfl, fun j s hj => ?_⟩⟩
  obtain ⟨h1, h2⟩ := hcell j s hj
  refine ⟨_, rfl, k119_mk w s, fun i u hu => ?_⟩
  match i, hu with
  | 0, hu => obtain rfl := Option.some.inj hu; exact h1
  | 1, hu => obtain rfl := Option.some.inj hu; exact h2
set_option maxRecDepth 100000 in
theorem open_ranges0 {H : Type} {enc : TypeId × Value → H} {W : World} {base : Nat} {spare : Nat → Bool} {held : Bool} {fuel : Nat} {cs : List Value} {x : DataW H × List MemPlace} (h : DataW.trod enc Tryz.prog W base spare held fuel 49 cs = some x) :
    ∃ A cap l, cs = [.slice A l.length cap] ∧ l.length ≤ cap ∧ Kd.C k119 W A l.length l := by
  have h119 : Tryz.prog.cellsOf 119 = 2 := by kernel_rfl
  have h2 : Tryz.prog.cellsOf 2 = 1 := by kernel_rfl
  rcases Go.Deep.open_slice Tryz.underlying49 h with ⟨rfl, _⟩ | ⟨a, len, cap, m, n, D, Pl, rfl, _, hl, hm, hmm, _, hi⟩
  · exact ⟨none, 0, [], rfl, Nat.le_refl _, rfl, by decide, fun hn => absurd hn (by decide)⟩
  · rw [h119] at hi
    have hlm : len ≤ m := by rw [hmm]; split <;> omega
    obtain ⟨l, rfl, hC⟩ := ranges_C hl hm (fun i hil => by
      obtain ⟨cs', hc, ht⟩ := hi i (by omega)
      obtain ⟨_, hcl, hat⟩ := World.cells?_some hc
      obtain ⟨ys, n', _, _, hlen, hyl, hf⟩ := DataW.trod_struct Tryz.underlying119 ht
      have f0 : DataW.trod enc Tryz.prog W base spare held n' 2 (List.take (Tryz.prog.cellsOf 2) (List.drop 0 cs')) = ys[0]? := hf 0 _ rfl
      have f1 : DataW.trod enc Tryz.prog W base spare held n' 2 (List.take (Tryz.prog.cellsOf 2) (List.drop 1 cs')) = ys[1]? := hf 1 _ rfl
      have hy0 : ys[0]? = some (ys[0]'(by rw [hyl]; decide)) := List.getElem?_eq_getElem _
      have hy1 : ys[1]? = some (ys[1]'(by rw [hyl]; decide)) := List.getElem?_eq_getElem _
      obtain ⟨p0, e0, _⟩ := DataW.trod_int Tryz.underlying2 (f0.trans hy0)
      obtain ⟨p1, e1, _⟩ := DataW.trod_int Tryz.underlying2 (f1.trans hy1)
      rw [h119] at hlen
      have g0 := hat 0 (by decide)
      have g1 := hat 1 (by decide)
      rw [addr_add_add'] at g0 g1
      rw [h2] at e0 e1
      match cs', hlen with
      | [u0, u1], _ =>
        have e0' : [u0] = [Value.int .i64 p0] := e0
        have e1' : [u1] = [Value.int .i64 p1] := e1
        injection e0' with e0'
        injection e1' with e1'
        subst e0'
        subst e1'
        exact ⟨⟨p0, p1⟩, g0, g1⟩)
    exact ⟨some a, cap, l, rfl, hl, hC⟩
/-! ### whole numbers that came in -/
/-! ### whole numbers that came in -/
theorem ints_C {w : World} {a : Addr} {len cap : Nat} (hm : len ≤ cap) (hc : cap ≤ maxLen) (zs : List Int) (hz : len ≤ zs.length) (h : ∀ i, i < zs.length → w.cell? (a.add i) = some (.int .i64 (zs.getD i 0))) :
    Kd.C (Kd.int .i64) w (some a) len (zs.take len) := by
  have hl : (zs.take len).length = len := by rw [List.length_take]; omega
  refine ⟨hl, by unfold maxLen at hc; omega, fun _ => ⟨a, rfl, fun j s hj => ?_⟩⟩
  rw [List.getElem?_take] at hj
  split at hj
  · rename_i hjl
    have hjz : j < zs.length := by omega
    rw [List.getElem?_eq_getElem hjz] at hj
    injection hj with hj
    subst hj
    refine ⟨_, rfl, rfl, fun i u hu => ?_⟩
    have hg := h j hjz
    rw [List.getD_eq_getElem?_getD, List.getElem?_eq_getElem hjz] at hg
    match i, hu with
    | 0, hu =>
      obtain rfl := Option.some.inj hu
      show w.cell? (a.add (j * 1 + 0)) = _
      rw [Nat.mul_one, Nat.add_zero]
      exact hg
  · cases hj
/-! ### a domain that came in -/
theorem weights_sub {H : Type} {P : Program} {ts : List TypeId} {ds : List (DataW H)} (h : (DataW.weightsEach P ts ds).all (· ≤ reachBytes) = true) {j : Nat} {t : TypeId} {fs : Array Field} {parts : List (DataW H)} (ht : ts[j]? = some t) (hd : ds[j]? = some (.agg parts)) (hu : P.underlying t = some (.struct fs)) :
    (DataW.weightsEach P (fs.toList.map (·.type)) parts).all (· ≤ reachBytes) = true :=
  List.all_eq_true.2 fun n hn => List.all_eq_true.1 h _ (DataW.weights_mem_each ht hd n (by simp only [DataW.weights, hu]; exact hn))
theorem open_rangesN {H : Type} {enc : TypeId × Value → H} {W : World} {base : Nat} {spare : Nat → Bool} {held : Bool} {fuel : Nat} {v : Value} {y : DataW H × List MemPlace} {ts : List TypeId} {ds : List (DataW H)} {j : Nat}
    (hsz : (DataW.weightsEach Tryz.prog ts ds).all (· ≤ reachBytes) = true) (ht : ts[j]? = some 49) (hd : ds[j]? = some y.1) (h : DataW.trod enc Tryz.prog W base spare held fuel 49 [v] = some y) :
    ∃ l : List S119, Lst W v l ∧ l.length * 16 ≤ 140737488351232 := by
  obtain ⟨A, c, l, e, hc, hC⟩ := open_ranges0 h
  injection e with e _
  subst e
  refine ⟨l, ⟨_, _, rfl, hC, hc⟩, ?_⟩
  rcases Go.Deep.open_slice Tryz.underlying49 h with ⟨hcs, _⟩ | ⟨x, n, c', m, n', D, Pl, hcs, _, hl, _, hm, hx, _⟩
  · injection hcs with hcs _
    injection hcs with _ h0 _
    rw [h0]; decide
  · injection hcs with hcs _
    injection hcs with _ h0 _
    subst hx
    have z := sized_slice hsz ht hd Tryz.underlying49
    rw [show Tryz.prog.bytesOf 119 = 16 by kernel_rfl, List.length_map, List.length_map, List.length_range, List.length_range] at z
    exact Nat.le_trans (Nat.mul_le_mul_right _ (by omega)) z
theorem open_intsN {H : Type} {enc : TypeId × Value → H} {W : World} {base : Nat} {spare : Nat → Bool} {held : Bool} {fuel : Nat} {v : Value} {y : DataW H × List MemPlace} {ts : List TypeId} {ds : List (DataW H)} {j : Nat}
    (hsz : (DataW.weightsEach Tryz.prog ts ds).all (· ≤ reachBytes) = true) (ht : ts[j]? = some 50) (hd : ds[j]? = some y.1) (h : DataW.trod enc Tryz.prog W base spare held fuel 50 [v] = some y) :
    ∃ l : List Int, LstI W v l ∧ l.length * 8 ≤ 140737488351232 := by
  rcases open_ints Tryz.underlying50 Tryz.underlying2 (by kernel_rfl) h with ⟨hcs, _⟩ | ⟨x, n, c, zs, hcs, _, hl, hm, hz, _, hcell, hwz⟩
  · injection hcs with hcs _
    subst hcs
    exact ⟨[], ⟨none, 0, rfl, ⟨rfl, by decide, fun hn => absurd hn (by decide)⟩, Nat.le_refl _⟩, by decide⟩
  · injection hcs with hcs _
    subst hcs
    have hle : n ≤ zs.length := by rw [hz]; split <;> omega
    have hC := ints_C (w := W) (a := x) hl hm zs hle hcell
    have hlen : (zs.take n).length = n := by rw [List.length_take]; omega
    refine ⟨zs.take n, ⟨some x, c, by rw [hlen], by rw [hlen]; exact hC, by omega⟩, ?_⟩
    rw [hlen]
    rcases Go.Deep.open_slice Tryz.underlying50 h with ⟨hcs, _⟩ | ⟨x', n1, c', m, n', D, Pl, hcs, _, hl', _, hm', hx, _⟩
    · injection hcs with hcs _
      cases hcs
    · injection hcs with hcs _
      injection hcs with _ h0 _
      subst hx
      have z := sized_slice hsz ht hd Tryz.underlying50
      rw [show Tryz.prog.bytesOf 2 = 8 by kernel_rfl, List.length_map, List.length_map, List.length_range, List.length_range] at z
      exact Nat.le_trans (Nat.mul_le_mul_right _ (by omega)) z
set_option maxRecDepth 100000 in
theorem open_dom {H : Type} {enc : TypeId × Value → H} {W : World} {r : Reach} {b0 base : Nat} {spare : Nat → Bool} {held : Bool} {v : Value} {d : DataW H} {ps : List MemPlace} {ts : List TypeId} {ds : List (DataW H)} {j : Nat}
    (hv : Value.okWide Tryz.prog W r b0 52 v) (hsz : (DataW.weightsEach Tryz.prog ts ds).all (· ≤ reachBytes) = true) (ht : ts[j]? = some 52) (hd : ds[j]? = some d) (h : DataW.Trod enc Tryz.prog W base spare held 52 v d ps) :
    ∃ D : DomD, DomV W v D ∧ D.r.length ≤ 8796093022200 ∧ D.lo.length ≤ 17592186044000 ∧ D.up.length ≤ 17592186044000 := by
  have hC : Tryz.prog.cellsOf 52 = 6 := by kernel_rfl
  have c4 : Tryz.prog.cellsOf 4 = 1 := by kernel_rfl
  have c49 : Tryz.prog.cellsOf 49 = 1 := by kernel_rfl
  have c50 : Tryz.prog.cellsOf 50 = 1 := by kernel_rfl
  have c3 : Tryz.prog.cellsOf 3 = 1 := by kernel_rfl
  obtain ⟨cs, rfl, hcs⟩ := okWide_struct Tryz.underlying52 hv
  obtain ⟨v0, v1, v2, v3, v4, v5, rfl⟩ := six_cases cs (hcs.trans hC)
  obtain ⟨fuel, hf⟩ := h
  obtain ⟨ys, n, _, hx, _, hyl, hfl⟩ := DataW.trod_struct Tryz.underlying52 hf
  injection hx with hx _
  subst hx
  have hyl6 : ys.length = 6 := hyl
  match ys, hyl6 with
  | [y0, y1, y2, y3, y4, y5], _ =>
    have g0 : DataW.trod enc Tryz.prog W base spare held n 4 (List.take (Tryz.prog.cellsOf 4) [v0, v1, v2, v3, v4, v5]) = some y0 := hfl 0 _ rfl
    have g1 : DataW.trod enc Tryz.prog W base spare held n 49 (List.take (Tryz.prog.cellsOf 49) [v1, v2, v3, v4, v5]) = some y1 := hfl 1 _ rfl
    have g2 : DataW.trod enc Tryz.prog W base spare held n 50 (List.take (Tryz.prog.cellsOf 50) [v2, v3, v4, v5]) = some y2 := hfl 2 _ rfl
    have g3 : DataW.trod enc Tryz.prog W base spare held n 50 (List.take (Tryz.prog.cellsOf 50) [v3, v4, v5]) = some y3 := hfl 3 _ rfl
    have g4 : DataW.trod enc Tryz.prog W base spare held n 3 (List.take (Tryz.prog.cellsOf 3) [v4, v5]) = some y4 := hfl 4 _ rfl
    have g5 : DataW.trod enc Tryz.prog W base spare held n 3 (List.take (Tryz.prog.cellsOf 3) [v5]) = some y5 := hfl 5 _ rfl
    rw [c4] at g0
    rw [c49] at g1
    rw [c50] at g2 g3
    rw [c3] at g4 g5
    have hz := weights_sub hsz ht hd Tryz.underlying52
    obtain ⟨bb, e0, _⟩ := DataW.trod_bool Tryz.underlying4 g0
    obtain ⟨p4, e4, _⟩ := DataW.trod_int Tryz.underlying3 g4
    obtain ⟨p5, e5, _⟩ := DataW.trod_int Tryz.underlying3 g5
    obtain ⟨l1, q1, z1⟩ := open_rangesN (j := 1) hz rfl rfl g1
    obtain ⟨l2, q2, z2⟩ := open_intsN (j := 2) hz rfl rfl g2
    obtain ⟨l3, q3, z3⟩ := open_intsN (j := 3) hz rfl rfl g3
    injection e0 with e0 _
    injection e4 with e4 _
    injection e5 with e5 _
    subst e0 e4 e5
    exact ⟨⟨bb, l1, l2, l3, p4, p5⟩, ⟨_, _, _, rfl, q1, q2, q3⟩, by show l1.length ≤ _; omega, by show l2.length ≤ _; omega, by show l3.length ≤ _; omega⟩
theorem open_i64s {H : Type} {enc : TypeId × Value → H} {W : World} {base : Nat} {spare : Nat → Bool} {held : Bool} {a : Option Addr} {len cap : Nat} {d : DataW H} {ps : List MemPlace} {ts : List TypeId} {ds : List (DataW H)} {j : Nat}
    (hsz : (DataW.weightsEach Tryz.prog ts ds).all (· ≤ reachBytes) = true) (ht : ts[j]? = some 50) (hd : ds[j]? = some d) (h : DataW.Trod enc Tryz.prog W base spare held 50 (.slice a len cap) d ps) :
    ∃ l : List Int, LstI W (.slice a len cap) l ∧ l.length * 8 ≤ 140737488351232 := by
  obtain ⟨fuel, hf⟩ := h
  exact open_intsN (y := (d, ps)) hsz ht hd hf
end Go.Proofs.YtjeomiooheoegaaGreatDoor.PD
namespace Go.Proofs.YtjeomiooheoegaaGreatDoor.setsReckons
open Go.ChangeShapes Go.WideShapes Go.ChangeAt Go.RowKit Go.Proofs.YtjeomiooheoegaaGreatDoor.PD
set_option linter.unusedVariables false
theorem own : ownKnob Tryz.prog.godebug = none := by kernel_rfl
theorem laidOut : laidOutB Tryz.prog = true := by kernel_rfl
/-- There is an input that fits, at a world that is written out. -/
theorem witness_shaped {H : Type} {enc : TypeId × Value → H} {C : Checked} {os : Os} {f : FuncId} {fn : Func} {s : OpenSpec} {conds : List PathCond} {apart : Bool} {laid : List (String × DataW Unit)} (modest : Bool) (w0 : World) (args : Array Value) (hos : w0.os = os)
    (hsh : (w0.forCall (fun _ _ => 0) ⟨#[], args, []⟩).Shaped C.prog)
    (hok : Input.okWideB C.prog (w0.forCall (fun _ _ => 0) ⟨#[], args, []⟩) f ⟨#[], args, []⟩ = true)
    (hrow : s.preRow enc C.prog fn conds apart laid (w0.forCall (fun _ _ => 0) ⟨#[], args, []⟩).memory args) :
    ∃ (w : World) (tape : Tape) (i : Input), w.os = os ∧ (w.forCall tape i).Shaped C.prog ∧ i.vars = [] ∧ Input.okWide C.prog (w.forCall tape i) .any w.heap.size f i ∧
      s.preRow enc C.prog fn conds apart laid (w.forCall tape i).memory i.args ∧ ({ modest := modest } : Assume).holds C.prog (lone (Frame.enter C.prog f i.args .normal) [] (w.forCall tape i)) :=
  ⟨w0, fun _ _ => 0, ⟨#[], args, []⟩, hos, hsh, (Input.okWide_of_okWideB (base := 0) hok).1, (Input.okWide_of_okWideB hok).2, hrow, by
    simp only [Assume.holds]
    exact ⟨by simp, by simp, fun _ => Modest.zero, by simp, by simp⟩⟩
/-- The door's own heap meets the condition: closed facts. -/
theorem door_met (os : Os) (args : Array Value) : laidMetH Tryz.prog Rows.setsReckonsRow.laid ((World.laidAll Tryz.prog os Rows.setsReckonsRow.laid).forCall (fun _ _ => 0) ⟨#[], args, []⟩).memory :=
  by rw [MakeChecks.laidMetH_plain _ _ _ (by kernel_rfl)]; exact laidMet_laidAll _ (by kernel_rfl) (by kernel_rfl)
theorem reads (os : Os) {H : Type} (enc : TypeId × Value → H) : ∃ places, DataW.whole enc Tryz.prog ((World.laidAll Tryz.prog os Rows.setsReckonsRow.laid).forCall (fun _ _ => 0) ⟨#[], #[.slice none 0 0, .slice none 0 0, .int .i64 0, .string ⟨#[]⟩], []⟩).memory Tryz.f9.params.toList Rows.setsReckonsSpec.vars false (#[.slice none 0 0, .slice none 0 0, .int .i64 0, .string ⟨#[]⟩] : Array Value).toList 8 = some ([.nil, .nil, .lit (.int .i64 0), .lit (.string [])], [], places) :=
  ⟨[], by kernel_rfl⟩
set_option maxRecDepth 100000 in
theorem contract (H : Type) (enc : TypeId × Value → H) (W : World) (base : Nat) (args : Array Value) (ds gs : List (DataW H)) (before : List MemPlace)
    (hval0 : ∀ (j : Nat) t v, Tryz.f9.params[j]? = some t → args[j]? = some v → Value.okWide Tryz.prog W .any base t v)
    (hW : DataW.Whole enc Tryz.prog Tryz.f9.params.toList Rows.setsReckonsSpec.vars false W args.toList ds gs before)
    (hcond : ∀ k, (OpenSpec.ofChange Rows.setsReckonsSpec).cond = some k → k H (ds ++ gs) = true)
    (hsz : (DataW.weightsEach Tryz.prog (Tryz.f9.params.toList ++ (OpenSpec.ofChange Rows.setsReckonsSpec).bare.plain.varTypes Tryz.prog) (ds ++ gs)).all (· ≤ reachBytes) = true)
    (hL : laidMetH Tryz.prog Rows.setsReckonsRow.laid W) (hsh : W.ShapedOpen Tryz.prog) :
    Calls Tryz.prog 9 args W fun e W' => ∃ v, e = .returned v ∧ Rows.setsReckonsSpec.post enc Tryz.prog Tryz.f9 false true false false W args v W' := by
  have hval : ∀ (j : Nat) t v, Tryz.f9.params[j]? = some t → args[j]? = some v → Value.okWide Tryz.prog W .any base t v := hval0
  have hW' := hW
  obtain ⟨p, q, hA0, hV, rfl, hfz, hnd⟩ := hW
  have hA : DataW.TrodAll enc Tryz.prog W 0 (fun _ => true) true Tryz.f9.params.toList args.toList ds p := hA0
  rw [Tryz.params9] at hA hval
  obtain ⟨v0, vs0, d0, ds0, p0, q0, hargs, rfl, rfl, h0, r0⟩ := trodAll_cons hA
  obtain ⟨v1, vs1, d1, ds1, p1, q1, rfl, rfl, rfl, h1, r1⟩ := trodAll_cons r0
  obtain ⟨v2, vs2, d2, ds2, p2, q2, rfl, rfl, rfl, h2, r2⟩ := trodAll_cons r1
  obtain ⟨v3, vs3, d3, ds3, p3, q3, rfl, rfl, rfl, h3, r3⟩ := trodAll_cons r2
  obtain ⟨rfl, rfl, rfl⟩ := trodAll_nil r3
  obtain rfl : args = #[v0, v1, v2, v3] := by cases args; simp_all
  obtain ⟨rfl, rfl⟩ := trodVars_none hV
  have k0 := h0
  have lt0 : ∀ x ∈ p0, x.block < W.heap.size := by obtain ⟨m, hm⟩ := k0; exact DataW.trod_lt m _ _ _ hm
  obtain ⟨A0, n0, c0, rfl⟩ := okWide_slice Tryz.underlying50 (hval 0 50 v0 rfl rfl)
  obtain ⟨l0, x0, y0⟩ := open_i64s hsz (j := 0) (by rw [Tryz.params9]; rfl) rfl h0
  have k1 := h1
  have lt1 : ∀ x ∈ p1, x.block < W.heap.size := by obtain ⟨m, hm⟩ := k1; exact DataW.trod_lt m _ _ _ hm
  obtain ⟨A1, n1, c1, rfl⟩ := okWide_slice Tryz.underlying50 (hval 1 50 v1 rfl rfl)
  obtain ⟨l1, x1, y1⟩ := open_i64s hsz (j := 1) (by rw [Tryz.params9]; rfl) rfl h1
  obtain ⟨a2, rfl, rfl, rfl, w2⟩ := open_int Tryz.underlying2 (hval 2 2 v2 rfl rfl) h2
  have b2 := bounds_i64 w2
  obtain ⟨s3, rfl, rfl, rfl, z3⟩ := Go.ChangeMaps.open_string Tryz.underlying9 (hval 3 9 v3 rfl rfl) h3
  have y3 : s3.size ≤ 140737488351232 := sized_string hsz (j := 3) (by rw [Tryz.params9]; rfl) rfl
  clear hA0 hval0
  refine (reckons_calls l0 l1 a2 s3 W x0 x1 (by omega) (by omega) y3 (dom_of_laid hL hsh)).mono fun e W' ⟨he, bel⟩ => ?_
  subst he
  exact ⟨_, rfl, _, _, _, [], _, [], hW', trodAll_mk1 (shut_bool Tryz.underlying4 _), (trodAll_cons_mk (Below.trod laidOut (by kernel_rfl) (of_decide_eq_true (by kernel_rfl)) k0 bel lt0) (trodAll_cons_mk (Below.trod laidOut (by kernel_rfl) (of_decide_eq_true (by kernel_rfl)) k1 bel lt1) (trodAll_cons_mk (shut_int Tryz.underlying2 w2) (trodAll_cons_mk (Go.ChangeMaps.shut_string Tryz.underlying9 z3) trodAll_mk0)))), rfl, bel.frame _, fun h => by cases h⟩
set_option maxRecDepth 100000 in
theorem lifted (os : Os) (started : os.Started) (H : Type) (enc : TypeId × Value → H) (F : Stop.Interp) :
    ReturnsInHanded {} Tryz.checked os 9 .any ((OpenSpec.ofChange Rows.setsReckonsSpec).preRow enc Tryz.prog Tryz.f9 Rows.setsReckonsRow.domain false Rows.setsReckonsRow.laid) (((OpenSpec.ofChange Rows.setsReckonsSpec).at F).post enc Tryz.prog Tryz.f9 false true false false) := by
  obtain ⟨places, hx⟩ := reads os enc
  refine returnsInHanded_of_row (C := Tryz.checked) (s := OpenSpec.ofChange Rows.setsReckonsSpec) own started (by kernel_rfl) Tryz.func9
    (witness_shaped (enc := enc) (C := Tryz.checked) false (World.laidAll Tryz.prog os Rows.setsReckonsRow.laid) #[.slice none 0 0, .slice none 0 0, .int .i64 0, .string ⟨#[]⟩] (World.laidAll_os _ _ _) (World.shaped_of_ZipB (by kernel_rfl) (by kernel_rfl)) (by kernel_rfl)
      (OpenSpec.preRow_of_cond 8 hx (by kernel_rfl) (fun k hk => by cases hk) (by kernel_rfl) (door_met os _))) ?_
  intro W base args ds gs before hval hW _ hcond hsz hL hsh _
  exact contract H enc W base args ds gs before hval hW hcond hsz hL hsh
theorem f_inPlace : Tryz.prog.inPlace 9 = Rows.setsReckonsRow.inPlace := by kernel_rfl
theorem f_unfollowed : Tryz.prog.unfollowed 9 = Rows.setsReckonsRow.unfollowed := by kernel_rfl
theorem f_recurses : Tryz.prog.recurses 9 = Rows.setsReckonsRow.recurses := by kernel_rfl
theorem f_named : Tryz.prog.varsNamed 9 = Rows.setsReckonsRow.named := by kernel_rfl
theorem f_closed : joinedFacts Tryz.prog 9 Tryz.f9 (OpenSpec.ofChange Rows.setsReckonsSpec).bare Rows.setsReckonsRow = true := by
  unfold joinedFacts
  rw [f_inPlace, f_unfollowed, f_recurses, f_named]
  kernel_rfl
theorem said : Rows.SetsReckonsSaid :=
  OpenClaim.holds_of_cond 9 Tryz.f9 rfl rfl rfl rfl rfl rfl rfl ⟨rfl, rfl, rfl, rfl, rfl⟩ rfl rfl rfl rfl rfl (by as_aux_lemma => kernel_rfl) Tryz.func9 f_closed
    (of_decide_eq_true (by as_aux_lemma => kernel_rfl)) (by unfold Func.isWrapper; first | (rw [if_pos (by decide +kernel)]; kernel_rfl) | (rw [if_neg (by decide +kernel)]; exact ⟨rfl, rfl⟩))
    (fun os started H enc _ F => by rw [OpenClaim.pre_eq_preRow]; exact lifted os started H enc F)
theorem card_holds : Rows.SetsReckonsCardSaid :=
  Claim7.holds_tied_plain_at .later [] _ _ _ _ said (fun _ h => by cases h) (by as_aux_lemma => kernel_rfl) (fun _ h => by cases h) setsReckons_row_tie rfl ⟨rfl, rfl⟩ (by as_aux_lemma => kernel_rfl) rfl
    (fun f fn hf hfn => by
      obtain rfl : f = 9 := Option.some.inj ((show Tryz.prog.funcNamed "jigsaw/jigsawlaw04.SetsReckons" = some 9 by as_aux_lemma => kernel_rfl).symm.trans hf) |>.symm
      obtain rfl : fn = Tryz.f9 := (Option.some.inj (Tryz.func9.symm.trans hfn)).symm
      exact ⟨by as_aux_lemma => kernel_rfl, fun j t ht => by
        rw [Tryz.params9] at ht
        have hm : t ∈ [50, 50, 2, 9] := by simpa using Array.mem_of_getElem? ht
        have hall : ([50, 50, 2, 9].all fun u => !Tryz.prog.wantsStandIn u) = true := by as_aux_lemma => kernel_rfl
        exact (show Tryz.prog.wantsStandIn t = false by simpa using List.all_eq_true.1 hall t hm)⟩)
    (by as_aux_lemma => kernel_rfl)
#print axioms card_holds
end Go.Proofs.YtjeomiooheoegaaGreatDoor.setsReckons
namespace Go.Proofs.YtjeomiooheoegaaGreatDoor
/-- The card, under a short name, for the claim. -/
theorem setsReckons_holds : Rows.SetsReckonsCardSaid := setsReckons.card_holds
end Go.Proofs.YtjeomiooheoegaaGreatDoor
