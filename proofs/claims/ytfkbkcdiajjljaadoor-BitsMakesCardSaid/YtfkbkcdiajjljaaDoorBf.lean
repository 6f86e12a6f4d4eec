/- Parts of the laws of bits: functions of the program, each with the proof of what it answers; the conditions are those of each theorem. -/
import Derived.Test.YtfkbkcdiajjljaaDoorBe
import Derived.RangeFuncNested
import Derived.RangeFuncBound
import Derived.RangeFuncCalls
import Derived.RangeFuncLeaves
import Derived.Shelf.Abstract
import Derived.Shelf.RegionOpen
import Derived.OwnWalkIn
import Derived.TacticsInMore
import Derived.LoopNIn
import Derived.LoopIn
namespace Go.Proofs.YtfkbkcdiajjljaaDoor.PBitsSteps
open Go.RowKit Go.Proofs.YtfkbkcdiajjljaaDoorW.PrintWords Go.Proofs.YtfkbkcdiajjljaaDoorW.PrintLast Go.Proofs.YtfkbkcdiajjljaaDoorW.PrintMore
set_option linter.unusedVariables false
set_option linter.unusedSimpArgs false
/-! ### Each: the values, rising -/
theorem boxed_below {W W' : World} {B : Nat} {t : TypeId} {v : Value} (h : Boxed W B t v) (hb : Below W.heap.size W W') : Boxed W' B t v := (hb.block B h.lt).trans h
set_option maxHeartbeats 4000000 in
theorem SetAt.each {w : World} {g gp : Nat} {f r : Int} {M : Int → Bool} (h : SetAt w g gp f r M) :
    Calls Tryd.prog 34 #[setP g] w fun e w' => ∃ B g' gp', e = .returned (.func (.func 61) #[] #[.pointer (some ⟨B, 0, none⟩)]) ∧ (w.heap.size ≤ B ∧ w.heap.size ≤ g' ∧ w.heap.size ≤ gp') ∧ Boxed w' B 23 (setP g') ∧ SetAt w' g' gp' f r M ∧ Below w.heap.size w w' := by
  have hmf : ∀ (fn : Fn) (first cap : Array Value) (w : World), (Instr.makeFunc fn first cap).run Tryd.prog w = .ok (.func fn first cap) w := fun _ _ _ _ => rfl
  have H := Lib.hid h
  clear h
  have U : setP g = .pointer (some ⟨g, 0, none⟩) := rfl
  go_enter Tryd.func34, Tryd.ntmps34
  go_wp2_with fail
  refine (H.out.copy).mono ?_
  rintro e w1 ⟨g', gp', rfl, k1, k2, k3, k4⟩
  have U' : setP g' = .pointer (some ⟨g', 0, none⟩) := rfl
  rw [U']
  go_wp2_with fail
  go_ret
  refine ⟨w1.heap.size, g', gp', rfl, ⟨k4.size, k1, k2⟩, ?_, ?_, ?_⟩
  · exact Boxed.new _ _ _
  · exact k3.below ((Below.refl _ _).alloc (Nat.le_refl _) _)
  · exact k4.alloc k4.size _
/-- the values up to a place -/
def valsTo (M : Int → Bool) (f : Int) (k : Nat) : List Int := ((List.range k).map (fun (i : Nat) => f + (i : Int))).filter M
theorem valsTo_succ (M : Int → Bool) (f : Int) (k : Nat) : valsTo M f (k + 1) = valsTo M f k ++ (if M (f + k) then [f + k] else []) := by
  unfold valsTo
  rw [List.range_succ, List.map_append, List.filter_append]
  congr 1
  simp only [List.map_cons, List.map_nil, List.filter_cons, List.filter_nil]
theorem valsTo_skip (M : Int → Bool) (f : Int) (k : Nat) : ∀ d : Nat, (∀ x, f + k ≤ x → x < f + k + d → M x = false) → valsTo M f (k + d) = valsTo M f k
  | 0, _ => rfl
  | d + 1, h => by
    rw [show k + (d + 1) = (k + d) + 1 by omega, valsTo_succ, valsTo_skip M f k d (fun x h1 h2 => h x h1 (by omega)), h (f + (k + d : Nat)) (by omega) (by omega)]
    simp
theorem valsTo_len (M : Int → Bool) (f : Int) (k : Nat) : (valsTo M f k).length ≤ k := by
  unfold valsTo
  have := List.length_filter_le M ((List.range k).map (fun (i : Nat) => f + (i : Int)))
  simpa using this
def vals (M : Int → Bool) (f r : Int) : List Int := valsTo M f r.toNat
def boolOf : Value → Bool | .bool b => b | _ => false
def eachMsr (f r : Int) (v ok : Value) : Nat := if boolOf ok then (f + r - intOf v).toNat + 1 else 0
/-- a value of the set -/
abbrev Val (M : Int → Bool) := { x : Int // M x = true }
def keepsB (bs : List Nat) (W W' : World) : Prop := ∀ b ∈ bs, W'.heap[b]? = W.heap[b]?
theorem grown_drawn (W : World) (n : Nat) (row : Option Nat) : W.grownBy (W.drewN n) row := ⟨rfl, rfl, rfl, Nat.le_refl _, fun _ _ _ => rfl⟩
theorem tab_keep {W W' : World} (h : TabLaid W) (e : W'.heap[0]? = W.heap[0]?) : TabLaid W' := fun t ht => (World.cell?_of_block (a := ⟨0, t, none⟩) e).trans (h t ht)
theorem valsTo_next (M : Int → Bool) (f : Int) (k : Nat) (x : Int) (hx : f + k ≤ x) (hm : M x = true) (h : ∀ y, f + k ≤ y → y < x → M y = false) : valsTo M f ((x - f).toNat + 1) = valsTo M f k ++ [x] := by
  obtain ⟨d, hd⟩ : ∃ d : Nat, x = f + k + d := ⟨(x - f - k).toNat, by omega⟩
  rw [show (x - f).toNat = k + d by omega, valsTo_succ, valsTo_skip M f k d (fun y h1 h2 => h y h1 (by omega))]
  rw [show f + ((k + d : Nat) : Int) = x by omega, if_pos hm]
theorem valsTo_end (M : Int → Bool) (f r : Int) (k : Nat) (hk : (k : Int) ≤ r) (h : ∀ y, f + k ≤ y → M y = false) : valsTo M f k = vals M f r := by
  unfold vals
  obtain ⟨d, hd⟩ : ∃ d : Nat, r.toNat = k + d := ⟨r.toNat - k, by omega⟩
  rw [hd, valsTo_skip M f k d (fun y h1 _ => h y h1)]
theorem valsTo_prefix (M : Int → Bool) (f : Int) (k : Nat) : ∀ d : Nat, valsTo M f k <+: valsTo M f (k + d)
  | 0 => List.prefix_refl _
  | d + 1 => by
    rw [show k + (d + 1) = (k + d) + 1 by omega, valsTo_succ]
    exact (valsTo_prefix M f k d).trans (List.prefix_append _ _)
theorem valsTo_pre (M : Int → Bool) (f r : Int) (k : Nat) (hk : (k : Int) ≤ r) : valsTo M f k <+: vals M f r := by
  unfold vals
  obtain ⟨d, hd⟩ : ∃ d : Nat, r.toNat = k + d := ⟨r.toNat - k, by omega⟩
  rw [hd]
  exact valsTo_prefix M f k d
theorem eachMsr_lt (M : Int → Bool) (f r x y : Int) (ok : Bool) (hx : x < f + r) (h : IsNext M (x + 1) y ok) : eachMsr f r (.int .i64 y) (.bool ok) < eachMsr f r (.int .i64 x) (.bool true) := by
  have e1 : ∀ z, eachMsr f r (.int .i64 z) (.bool true) = (f + r - z).toNat + 1 := fun _ => rfl
  have e2 : ∀ z, eachMsr f r (.int .i64 z) (.bool false) = 0 := fun _ => rfl
  rcases h with ⟨rfl, h1, _⟩ | ⟨rfl, _⟩
  · rw [e1, e1]; omega
  · rw [e1, e2]; omega

attribute [local go_sem] Oper.semAt_some
open Go.Shelf in
set_option maxHeartbeats 4000000 in
theorem each_stops (n : Nat) (hn : 1 ≤ n) (B g gp : Nat) (f r : Int) (M : Int → Bool) (w : World) (hc : Boxed w B 23 (setP g)) (hs : SetAt w g gp f r M) (hL : TabLaid w) (hz : 0 < w.heap.size) (hr : 0 < r ∧ r ≤ 65536 ∧ -1000000 ≤ f ∧ f + r ≤ 1000001) (hin : ∀ v, M v = true → f ≤ v ∧ v < f + r) :
    SeqStopsK Fence.wide n Tryd.prog 61 #[.pointer (some ⟨B, 0, none⟩)] (fun x : Val M => #[.int .i64 x.1]) (keepsB [0, B, g, gp])
      (fun xs => xs.map (·.1) = vals M f r) (fun pre => pre.map (·.1) <+: vals M f r) r.toNat w := fun l J Jx W hW hJ hJx hY h0 => by
  refine callsIn_of_wp Tryd.func61 rfl trivial ?_ rfl
  simp only [Tryd.ntmps61, List.size_toArray, List.length_cons, List.length_nil, Nat.reduceAdd, Nat.reduceSub, Array.replicate_succ, Array.replicate_zero, List.push_toArray, List.append_toArray, List.nil_append, List.cons_append]
  have hbW := boxed_below hc hW
  have hsW := hs.below hW
  have hLW : TabLaid W := tab_keep hL (hW.block 0 hz)
  have hcW := hbW.cell
  have HS := Lib.hid hsW; have HL := Lib.hid hLW; have HB := Lib.hid hbW; have HJ := Lib.hid hJ; have HY := Lib.hid hY
  have HIN := Lib.hid hin
  clear hc hs hL hW hbW hsW hLW hJ hJx hY hin
  gi_wp2_with (refine ⟨trivial, ?_⟩; refine (callsIn_wide.2 (HS.out.min HL.out)).mono ?_; rintro e w1 ⟨⟨x0, ok0, rfl, hx0⟩, ⟨⟨m0, rfl⟩⟩⟩)
  gi_loopw [3, 4] (fun i o wr => ∃ (x : Int) (ok : Bool) (k : Nat) (pre : List (Val M)), i = .int .i64 x ∧ o = .bool ok ∧ (k : Int) ≤ r ∧ IsNext M (f + k) x ok ∧ pre.map (·.1) = valsTo M f k ∧ J pre wr ∧ wr.cell? ⟨B, 0, none⟩ = some (setP g) ∧ Hid (SetAt wr g gp f r M) ∧ Hid (TabLaid wr) ∧ Hid (Boxed wr B 23 (setP g)))
    (fun i o _ => eachMsr f r i o)
  case atStart => exact ⟨x0, ok0, 0, [], rfl, rfl, by omega, by rw [show f + ((0 : Nat) : Int) = f by omega]; exact hx0, rfl, HJ.out [] W _ none h0 (grown_drawn W m0 none) (fun r h => by cases h), (boxed_below HB.out (Drawn0.below ⟨⟨m0, rfl⟩⟩)).cell, Lib.hid (HS.out.drawn m0), Lib.hid (tab_drawn HL.out m0), Lib.hid (boxed_below HB.out (Drawn0.below ⟨⟨m0, rfl⟩⟩))⟩
  case round =>
    obtain ⟨x, ok, k, pre, rfl, rfl, hk, hx, hpre, hJp, hcp, hsp, hlp, hbp⟩ := hrel
    cases ok with
    | true =>
      rcases hx with ⟨_, hx1, hx2, hx3⟩ | ⟨h, _⟩
      rotate_left
      · cases h
      have hxr := HIN.out x hx2
      have hplen : pre.length < r.toNat := by
        have h1 := valsTo_len M f k
        rw [← hpre, List.length_map] at h1
        omega
      obtain ⟨fn, tmps, assign, body, hy, hR⟩ := HY.out pre ⟨x, hx2⟩ wr hJp hplen
      have HX3 := Lib.hid hx3
      have HPRE := Lib.hid hpre
      clear hx3 hpre
      dsimp only at hy
      gi_wp2
      refine hR.mono ?_
      rintro e W' (⟨rfl, hJ', hk'⟩ | ⟨rfl, hJx'⟩)
      · have hb' : Boxed W' B 23 (setP g) := Eq.trans (hk' B (by simp)) hbp.out
        have hs' : SetAt W' g gp f r M := hsp.out.keep (hk' g (by simp)) (hk' gp (by simp))
        have hl' : TabLaid W' := tab_keep hlp.out (hk' 0 (by simp))
        have hc' := hb'.cell
        have HB' := Lib.hid hb'; have HS' := Lib.hid hs'; have HL' := Lib.hid hl'
        clear hk' hb' hs' hl'
        have hvn := valsTo_next M f k x hx1 hx2 HX3.out
        rw [← HPRE.out] at hvn
        have HVN := Lib.hid hvn; clear hvn
        gi_wp2_with (refine ⟨trivial, ?_⟩; refine (callsIn_wide.2 (HS'.out.next HL'.out (x + 1) (by omega))).mono ?_; rintro e w1 ⟨⟨y, ok1, rfl, hy1⟩, ⟨⟨m1, rfl⟩⟩⟩)
        have HY1 := Lib.hid hy1; clear hy1
        go_roundw
        case rel => exact ⟨y, ok1, (x - f).toNat + 1, pre ++ [⟨x, hx2⟩], rfl, rfl, by omega, by rw [show f + (((x - f).toNat + 1 : Nat) : Int) = x + 1 by omega]; exact HY1.out, by rw [HVN.out]; simp, HJ.out _ _ _ none hJ' (grown_drawn W' m1 none) (fun r h => by cases h), (boxed_below HB'.out (Drawn0.below ⟨⟨m1, rfl⟩⟩)).cell, Lib.hid (HS'.out.drawn m1), Lib.hid (tab_drawn HL'.out m1), Lib.hid (boxed_below HB'.out (Drawn0.below ⟨⟨m1, rfl⟩⟩))⟩
        case measure => exact eachMsr_lt M f r x y ok1 hxr.2 HY1.out
      · gi_wp2
        refine bodyPost_ret (results_none rfl _ _ _) rfl ?_
        refine ⟨⟨_, rfl⟩, .inr ⟨_, ?_, hJx'⟩⟩
        have hvn := valsTo_next M f k x hx1 hx2 HX3.out
        rw [← HPRE.out] at hvn
        have := valsTo_pre M f r ((x - f).toNat + 1) (by omega)
        rw [hvn] at this
        simpa using this
    | false =>
      rcases hx with ⟨h, _⟩ | ⟨_, _, hx3⟩
      · cases h
      gi_wp2
      go_end0
      exact ⟨⟨_, rfl⟩, .inl ⟨_, hpre.trans (valsTo_end M f r k hk hx3), hJp⟩⟩

end Go.Proofs.YtfkbkcdiajjljaaDoor.PBitsSteps
