/- Parts of the laws of bits: functions of the program, each with the proof of what it answers; the conditions are those of each theorem. -/
import Derived.Test.YtfkbkcdiajjljaaDoorBp
import Derived.Deep.Slices
import Derived.Deep.Fields
import Derived.ChangeSame
import Derived.Test.YtfkbkcdiajjljaaDoorRows
import Derived.ProofKit
import Derived.LaidMore
import Derived.OpenShut
import Derived.Stop.Joined
namespace Go.Proofs.YtfkbkcdiajjljaaDoor.PBitsSteps
open Go.RowKit Go.Proofs.YtfkbkcdiajjljaaDoorW.PrintWords Go.Proofs.YtfkbkcdiajjljaaDoorW.PrintLast Go.Proofs.YtfkbkcdiajjljaaDoorW.PrintMore
set_option linter.unusedVariables false
set_option linter.unusedSimpArgs false
/-! ### the argument: ranges that came in -/
theorem ranges_C {w : World} {a : Addr} {len cap : Nat} (hm : len ≤ cap) (hc : cap ≤ maxLen) (h : ∀ i, i < len → ∃ s : S71, w.cell? (a.add (i * 2)) = some (.int .i64 s.f0) ∧ w.cell? (a.add (i * 2 + 1)) = some (.int .i64 s.f1)) :
    ∃ l : List S71, l.length = len ∧ Kd.C k71 w (some a) len l := by
  have key : ∀ k, k ≤ len → ∃ l : List S71, l.length = k ∧ ∀ j s, l[j]? = some s → w.cell? (a.add (j * 2)) = some (.int .i64 s.f0) ∧ w.cell? (a.add (j * 2 + 1)) = some (.int .i64 s.f1) := by
    intro k
    induction k with
    | zero => exact fun _ => ⟨[], rfl, fun j s hj => by simp at hj⟩
    | succ k ih =>
      intro hk
      obtain ⟨l, hl, hcell⟩ := ih (by omega)
      obtain ⟨s, h1, h2⟩ := h k (by omega)
      refine ⟨l ++ [s], by simp [hl], fun j t hj => ?_⟩
      by_cases e : j < l.length
      · rw [List.getElem?_append_left e] at hj
        exact hcell j t hj
      · rw [List.getElem?_append_right (by omega)] at hj
        obtain rfl : j = k := by
          have := (List.getElem?_eq_some_iff.1 hj).1
          simp at this
          omega
        rw [hl, Nat.sub_self] at hj
        obtain rfl : s = t := by simpa using hj
        exact ⟨h1, h2⟩
  obtain ⟨l, hl, hcell⟩ := key len (Nat.le_refl _)
  refine ⟨l, hl, hl, by unfold maxLen at hc; omega, fun _ => ⟨a, rfl, fun j s hj => ?_⟩⟩
  obtain ⟨h1, h2⟩ := hcell j s hj
  refine ⟨_, rfl, k71_mk w s, fun i u hu => ?_⟩
  match i, hu with
  | 0, hu => obtain rfl := Option.some.inj hu; exact h1
  | 1, hu => obtain rfl := Option.some.inj hu; exact h2
theorem open_ranges {H : Type} {enc : TypeId × Value → H} {W : World} {base : Nat} {spare : Nat → Bool} {held : Bool} {fuel : Nat} {cs : List Value} {x : DataW H × List MemPlace} (h : DataW.trod enc Tryd.prog W base spare held fuel 22 cs = some x) :
    ∃ A cap l, cs = [.slice A l.length cap] ∧ l.length ≤ cap ∧ Kd.C k71 W A l.length l := by
  have h71 : Tryd.prog.cellsOf 71 = 2 := by kernel_rfl
  have h2 : Tryd.prog.cellsOf 2 = 1 := by kernel_rfl
  rcases Go.Deep.open_slice Tryd.underlying22 h with ⟨rfl, _⟩ | ⟨a, len, cap, m, n, D, Pl, rfl, _, hl, hm, hmm, _, hi⟩
  · exact ⟨none, 0, [], rfl, Nat.le_refl _, rfl, by decide, fun hn => absurd hn (by decide)⟩
  · rw [h71] at hi
    have hlm : len ≤ m := by rw [hmm]; split <;> omega
    obtain ⟨l, rfl, hC⟩ := ranges_C hl hm (fun i hil => by
      obtain ⟨cs', hc, ht⟩ := hi i (by omega)
      obtain ⟨_, hcl, hat⟩ := World.cells?_some hc
      obtain ⟨ys, n', _, _, hlen, hyl, hf⟩ := DataW.trod_struct Tryd.underlying71 ht
      have f0 : DataW.trod enc Tryd.prog W base spare held n' 2 (List.take (Tryd.prog.cellsOf 2) (List.drop 0 cs')) = ys[0]? := hf 0 _ rfl
      have f1 : DataW.trod enc Tryd.prog W base spare held n' 2 (List.take (Tryd.prog.cellsOf 2) (List.drop 1 cs')) = ys[1]? := hf 1 _ rfl
      have hy0 : ys[0]? = some (ys[0]'(by rw [hyl]; decide)) := List.getElem?_eq_getElem _
      have hy1 : ys[1]? = some (ys[1]'(by rw [hyl]; decide)) := List.getElem?_eq_getElem _
      obtain ⟨p0, e0, _⟩ := DataW.trod_int Tryd.underlying2 (f0.trans hy0)
      obtain ⟨p1, e1, _⟩ := DataW.trod_int Tryd.underlying2 (f1.trans hy1)
      rw [h71] at hlen
      have g0 := hat 0 (by decide)
      have g1 := hat 1 (by decide)
      rw [addr_add_add] at g0 g1
      rw [h2] at e0 e1
      match cs', hlen with
      | [u0, u1], _ =>
        have e0' : [u0] = [Value.int .i64 p0] := e0
        have e1' : [u1] = [Value.int .i64 p1] := e1
        injection e0' with e0'
        injection e1' with e1'
        subst e0'
        subst e1'
        exact ⟨⟨p0, p1⟩, g0, g1⟩)
    exact ⟨some a, cap, l, rfl, hl, hC⟩
/-! ### the table that is laid -/
theorem tab_of_laid {W : World} (h : laidMetH Tryd.prog Rows.bitsStepsRow.laid W) : TabLaid W := by
  rw [MakeChecks.laidMetH_plain _ _ _ (by kernel_rfl)] at h
  obtain ⟨ps, ⟨g0, t0, cs0, f0, p0, q0, hg0, ht0, hv0, hd0, _⟩, _⟩ := h
  obtain rfl : g0 = 0 := Option.some.inj (hg0.symm.trans (show Tryd.prog.globalNamed "math/bits.deBruijn64tab" = some 0 by kernel_rfl))
  obtain rfl : t0 = 89 := Option.some.inj (ht0.symm.trans (show (Tryd.prog.globals[0]?).map (·.type) = some 89 by kernel_rfl))
  obtain ⟨xs, m1, _, hx1, hlen, hn3, hel⟩ := DataW.trod_array Tryd.underlying89 hd0
  have c5 : Tryd.prog.cellsOf 5 = 1 := by kernel_rfl
  injection hx1 with hx1 _
  injection hx1 with hx1
  intro t ht
  have h1 := hel t ht
  have hxt : xs[t]? = some (xs[t]'(by omega)) := List.getElem?_eq_getElem _
  obtain ⟨k, e1, e2, _⟩ := DataW.trod_int Tryd.underlying5 (h1.trans hxt)
  rw [c5] at e1
  have hk : k = (tzTab.getD t 0 : Nat) := by
    have e3 : (xs.map (·.1))[t]? = some (.lit (.int .u8 k)) := by rw [List.getElem?_map, hxt, e2]; rfl
    have e4 : tzTab.map (fun n : Nat => (DataW.lit (.int .u8 (n : Int)) : DataW Unit)) = xs.map (·.1) := hx1
    rw [← e4, List.getElem?_map] at e3
    have ht2 : t < tzTab.length := ht
    rw [List.getElem?_eq_getElem ht2] at e3
    rw [List.getD_eq_getElem?_getD, List.getElem?_eq_getElem ht2]
    have e5 := Option.some.inj e3
    injection e5 with e5
    injection e5 with _ e5
    exact e5.symm
  rw [hk] at e1
  refine (World.var?_cell hg0 hv0 t).trans ?_
  have e6 := congrArg (fun l : List Value => l[0]?) e1
  simp only [List.getElem?_take, List.getElem?_drop] at e6
  simpa using e6

end Go.Proofs.YtfkbkcdiajjljaaDoor.PBitsSteps
