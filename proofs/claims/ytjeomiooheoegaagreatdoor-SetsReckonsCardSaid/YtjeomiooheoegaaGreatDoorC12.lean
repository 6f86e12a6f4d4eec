/- Parts of the laws of sets and branch: functions of the program, each with the proof of what it answers; the conditions are those of each theorem. -/
import Derived.Test.YtjeomiooheoegaaGreatDoorC8
import Derived.RangeFuncBound
import Derived.RangeFuncCalls
import Derived.RangeFuncLeaves
import Derived.Shelf.RegionOpen
import Derived.WalkKit
import Derived.OwnWalkIn
import Derived.TacticsInMore
import Derived.LoopNIn
import Derived.LoopIn
namespace Go.Proofs.YtjeomiooheoegaaGreatDoor.PD
open Go.RowKit Go.Proofs.YtjeomiooheoegaaGreatDoorW.PrintWords Go.Proofs.YtjeomiooheoegaaGreatDoorW.PrintLast Go.Proofs.YtjeomiooheoegaaGreatDoorW.PrintMore
set_option linter.unusedVariables false
set_option linter.unusedSimpArgs false
/-! ### the walk over all sets of a domain -/
theorem drop3 (A : Option Addr) (n c i : Nat) (hi : i ≤ n) (hc : n ≤ c) : ∃ A', (∀ W, (Instr.slice 50 (.slice A n c) (some (.int .i64 (i : Nat))) none none).run Tryz.prog W = .ok (.slice A' (n - i) (c - i)) W) ∧ ∀ (W : World) (l : List Int), l.length = n → LstI W (.slice A n c) l → LstI W (.slice A' (n - i) (c - i)) (l.drop i) := by
  refine ⟨if c = i then A else A.map (·.add i), fun W => ?_, fun W l hl h => ?_⟩
  · have ht := Tryz.underlying50
    have hel : Tryz.prog.elem 50 = 2 := by simp [Program.elem, ht]
    have hu : Tryz.prog.underlying 50 = some (.slice (Tryz.prog.elem 50)) := by rw [hel]; exact ht
    obtain ⟨i0, hi0, _, hz1, _⟩ := info_parts infoI
    rw [run_slice_l W 50 A n c hu .i64 (i : Int) (by omega) (by omega), hel]
    by_cases h : c = i
    · have : n = i := by omega
      subst h
      simp [sizeOf, typeInfo, hi0, sliced, Result.andThen]
    · simp [sizeOf, typeInfo, hi0, sliced, Result.andThen, h, hz1]
  · obtain ⟨A1, c1, e, hC, hc1⟩ := h
    injection e with e1 e2 e3
    subst e1 e3
    have := Kd.C_drop (m := i) (c := c) hC (by omega) hc1
    rw [show i * (Kd.int IntKind.i64).sz = i by show i * 1 = i; omega] at this
    exact ⟨_, _, by rw [List.length_drop, hl], this, by rw [List.length_drop]; omega⟩
theorem grown_of_below {W W' : World} (h : Below W.heap.size W W') : W.grownBy W' none := ⟨h.os, h.tape, h.output, h.size, fun k hk _ => h.block k hk⟩
theorem BoxD.keep {Pb : Nat → Prop} {W W' : World} {g : Nat} {b : Bool} {r lo up : Value} {n m : Int} (h : BoxD W g b r lo up n m) (hP : ¬ Pb g) (hk : KeepA Pb W W') : BoxD W' g b r lo up n m := hk.2 g _ hP h rfl
theorem Lst.stay0 {W W' : World} {v : Value} (h : Lst W v []) : Lst W' v [] := by
  obtain ⟨A, c, e, hC, hc⟩ := h
  exact ⟨A, c, e, ⟨hC.1, hC.2.1, fun hn => absurd hn (by simp)⟩, hc⟩
theorem yield_wide {m m' lp : Nat} {P : Program} {args : Array Value} {W : World} {R : Ending → World → Prop} (h : YieldAt Fence.wide m P lp args W R) : YieldAt Fence.wide m' P lp args W R := by
  obtain ⟨fn, tmps, assign, body, h1, h2⟩ := h
  exact ⟨fn, tmps, assign, body, h1, trivial, fun c cs _ => h2.2 c cs (room_wide _)⟩
theorem gate_append {P : Program} {ops : Array Oper} {o : Oper} {a : Act} {w : World} {K : Act → World → Prop} {Q : Exit → Act → World → Prop} {E : Prop} (s x : Operand) (t : TypeId) (_ : o.op = Op.call { callee := Callee.builtin Builtin.append, args := #[s, x], argTypes := #[t, t] })
    (h : if Region.wanted o (yielded ops a.tmps) = true then Oper.wp P o a w K Q else E) : if Region.wanted o (yielded ops a.tmps) = true then Oper.wp P o a w K Q else E := h
def YieldsW (lp : Nat) (J Jx : List (Value × List Int) → World → Prop) (Pb : Nat → Prop) (B0 N : Nat) : Prop := ∀ (m : Nat) pre x W1, J pre W1 → RowI W1 B0 x.1 x.2 → pre.length < N → YieldAt Fence.wide m Tryz.prog lp #[x.1] W1 fun e W' =>
  ∃ b, e = .returned (.bool b) ∧ KeepX Pb x W1 W' ∧ ((b = true ∧ J (pre ++ [x]) W') ∨ (b = false ∧ Jx (pre ++ [x]) W'))
theorem stay_row {Pb : Nat → Prop} {W' : World} {base n : Nat} {v : Value} {l : List Int} {x : Int} (h : W'.ownsRow base 2 1 v (n + 1) (intsV l ++ [Value.int .i64 x])) (hn : l.length = n) (hP : ∀ b, Pb b → b < base) : StayI Pb W' v (l ++ [x]) := by
  subst hn
  have e1 : intsV (l ++ [x]) = intsV l ++ [Value.int .i64 x] := by simp [intsV]
  have hr : RowI W' base v (l ++ [x]) := RowI.mk (by rw [e1, List.length_append, List.length_singleton]; exact h)
  exact ⟨hr.lst, fun k hk hp => by
    have := hr.base k hk
    have := hP k hp
    omega⟩
/-- how a walk ends -/
def WalkP (J Jx : List (Value × List Int) → World → Prop) (T : List (List Int)) (pre : List (Value × List Int)) (b : Bool) (W' : World) : Prop :=
  ∃ xs, (b = true ∧ xs.map Prod.snd = T ∧ J (pre ++ xs) W') ∨ (b = false ∧ xs.map Prod.snd <+: T ∧ Jx (pre ++ xs) W')
/-- what a walk gives -/
def WalkR (J Jx : List (Value × List Int) → World → Prop) (Pb : Nat → Prop) (T : List (List Int)) (pre : List (Value × List Int)) (W : World) (e : Ending) (W' : World) : Prop := ∃ b, e = .returned (.bool b) ∧ KeepA Pb W W' ∧ WalkP J Jx T pre b W'
theorem WalkR.yes {J Jx : List (Value × List Int) → World → Prop} {Pb : Nat → Prop} {T : List (List Int)} {pre : List (Value × List Int)} {W W' : World} (xs : List (Value × List Int)) (hk : KeepA Pb W W') (hx : xs.map Prod.snd = T) (hj : J (pre ++ xs) W') : WalkR J Jx Pb T pre W (.returned (.bool true)) W' :=
  ⟨true, rfl, hk, xs, .inl ⟨rfl, hx, hj⟩⟩
theorem WalkR.no {J Jx : List (Value × List Int) → World → Prop} {Pb : Nat → Prop} {T : List (List Int)} {pre : List (Value × List Int)} {W W' : World} (xs : List (Value × List Int)) (hk : KeepA Pb W W') (hx : xs.map Prod.snd <+: T) (hj : Jx (pre ++ xs) W') : WalkR J Jx Pb T pre W (.returned (.bool false)) W' :=
  ⟨false, rfl, hk, xs, .inr ⟨rfl, hx, hj⟩⟩
def WalkC (lp : Nat) (J Jx : List (Value × List Int) → World → Prop) (Pb : Nat → Prop) (B0 N : Nat) (d : DomD) (vr vl vu : Value) (head u : List Int) (p : Nat) : Prop :=
  ∀ (pre : List (Value × List Int)) (W : World) (vh : Value), StayI Pb W vh head → StayI Pb W vl d.lo → StayI Pb W vu d.up → J pre W → B0 ≤ W.heap.size → pre.length + (walkL d head u).length ≤ N →
    Calls Tryz.prog 121 #[.agg #[.bool true, vr, vl, vu, .int .i64 d.least, .int .i64 d.most], vh, .int .i64 p, .func (.yield lp) #[] #[]] W fun e W' => WalkR J Jx Pb (walkL d head u) pre W e W'
set_option maxRecDepth 100000 in
set_option maxHeartbeats 8000000 in
theorem walk_calls {lp : Nat} {J Jx : List (Value × List Int) → World → Prop} {Pb : Nat → Prop} {B0 N : Nat} (d : DomD) (he : emptyD d = false) (Ar : Option Addr) (cr : Nat) (vl vu : Value) (hvr : Lst default (.slice Ar 0 cr) []) 
    (HJ : Hid (∀ pre A B, J pre A → A.grownBy B none → J pre B)) (HY : Hid (YieldsW lp J Jx Pb B0 N)) (hPb : ∀ b, Pb b → b < B0) :
    ∀ (k p : Nat) (head : List Int), d.up.length - p = k → p ≤ d.up.length → head.length ≤ p → WalkC lp J Jx Pb B0 N d (.slice Ar 0 cr) vl vu head (d.up.drop p) p := by
  intro k
  induction k using Nat.strongRecOn with
  | ind k ih =>
  intro p head hk hat hh pre W vh hvh hvl hvu hJ hB0 hN
  have HIH := Lib.hid (fun (q : Nat) (x : Int) (hq : d.up[q]? = some x) (hpq : p ≤ q) => ih (d.up.length - (q + 1)) (by have := (List.getElem?_eq_some_iff.1 hq).1; omega) (q + 1) (head ++ [x]) rfl (by have := (List.getElem?_eq_some_iff.1 hq).1; omega) (by rw [List.length_append, List.length_singleton]; omega))
  obtain ⟨f1, f2, f3, f4, f5, f6, f7, f8⟩ := full_of he
  have hup := set_len f4
  have hlo := set_len f3
  have hPg : ¬ Pb W.heap.size := fun h => by have := hPb _ h; omega
  obtain ⟨Ah, ch, eh, hCh, hch⟩ := hvh.1
  subst eh
  obtain ⟨Au, cu, eu, hCu, hcu⟩ := hvu.1
  subst eu
  obtain ⟨Al, cl, el, hCl, hcl⟩ := hvl.1
  subst el
  obtain ⟨Wb, hWb⟩ : ∃ Wb, W.alloc (.cells #[.bool true, .slice Ar 0 cr, .slice Al d.lo.length cl, .slice Au d.up.length cu, .int .i64 d.least, .int .i64 d.most] 52) = Wb := ⟨_, rfl⟩
  have hbb : Below W.heap.size W Wb := by rw [← hWb]; exact (Below.refl _ _).alloc (Nat.le_refl _) _
  have hbx : BoxD Wb W.heap.size true (.slice Ar 0 cr) (.slice Al d.lo.length cl) (.slice Au d.up.length cu) d.least d.most := by rw [← hWb]; exact BoxD.new _ _ _ _ _ _ _
  have hszb : Wb.heap.size = W.heap.size + 1 := by rw [← hWb]; simp
  have HKB := Lib.hid (KeepA.of_below (Pb := Pb) hbb)
  have HVH := Lib.hid (hvh.keep HKB.out); have HVL := Lib.hid (hvl.keep HKB.out); have HVU := Lib.hid (hvu.keep HKB.out)
  have HJB := Lib.hid (HJ.out _ _ _ hJ (grown_of_below hbb))
  have HDOM := Lib.hid (fun W' (h : KeepA Pb Wb W') => (⟨_, _, _, by rw [f1], by rw [f2]; exact hvr.stay0, (HVL.out.keep h).1, (HVU.out.keep h).1⟩ : DomV W' (.agg #[.bool true, .slice Ar 0 cr, .slice Al d.lo.length cl, .slice Au d.up.length cu, .int .i64 d.least, .int .i64 d.most]) d))
  have HHAS := Lib.hid (fun W' (h : KeepA Pb Wb W') => Has_calls d head W' (HDOM.out W' h) (HVH.out.keep h).1 (by omega) (by omega))
  have HCL := Lib.hid (fun W' (h : KeepA Pb Wb W') => cloneI_calls head W' (HVH.out.keep h).1 (by omega))
  have HIN := Lib.hid (fun W' (h : KeepA Pb Wb W') (x : Int) => In_calls x d.lo W' (HVL.out.keep h).1)
  have HBX := Lib.hid (fun W' (h : KeepA Pb Wb W') => BoxD.cells (hbx.keep hPg h))
  obtain ⟨T, hT⟩ : ∃ T, walkL d head (d.up.drop p) = T := ⟨_, rfl⟩
  rw [hT] at hN
  rw [hT]
  have HT := Lib.hid hT
  have HNN := Lib.hid hN
  have HLO := Lib.hid (asL_of f3)
  have HPB := Lib.hid hPb
  clear hbb hbx hvh hvl hvu hJ hT hN hCh hCu hCl f1 f2 f3 f4 f5 ih he hvr hPb hk
  obtain ⟨nh, hnh⟩ : ∃ q, head.length = q := ⟨_, rfl⟩
  obtain ⟨nu, hnu⟩ : ∃ q, d.up.length = q := ⟨_, rfl⟩
  obtain ⟨nl, hnl⟩ : ∃ q, d.lo.length = q := ⟨_, rfl⟩
  obtain ⟨least, hleast⟩ : ∃ q, d.least = q := ⟨_, rfl⟩
  obtain ⟨most, hmost⟩ : ∃ q, d.most = q := ⟨_, rfl⟩
  have HT0 : Hid ((if hasD d head = true then [head] else []) ++ (if most ≤ (nh : Int) then [] else loopL d head (d.up.drop p)) = T) := Lib.hid (by rw [← HT.out, ← hmost, ← hnh]; rfl)
  simp only [hnh, hnu, hnl, hleast, hmost] at hat hh f6 f7 f8 hup hlo hch hcu hcl HIH HVH HVL HVU HDOM HHAS HCL HIN HBX hWb ⊢
  have HNH := Lib.hid hnh; have HNU := Lib.hid hnu; have HLE := Lib.hid hleast; have HMO := Lib.hid hmost
  clear hnh hnu hnl hleast hmost HT
  obtain ⟨x_0, x_1, x_2, x_3, x_4, x_5⟩ := HBX.out Wb (KeepA.refl _ _)
  refine (callsIn_wide (n := 5)).1 (callsIn_of_wp Tryz.func121 rfl trivial ?_ rfl)
  simp only [Tryz.ntmps121, List.size_toArray, List.length_cons, List.length_nil, Nat.reduceAdd, Nat.reduceSub, Array.replicate_succ, Array.replicate_zero, List.push_toArray, List.append_toArray, List.nil_append, List.cons_append]
  gi_wp2_with fail
  refine ⟨trivial, ?_⟩
  try rw [hWb]
  clear x_0 x_1 x_2 x_3 x_4 x_5
  obtain ⟨hb, hhas⟩ : ∃ hb, hasD d head = hb := ⟨_, rfl⟩
  refine (callsIn_wide.2 (HHAS.out Wb (KeepA.refl _ _))).mono ?_
  rw [hhas] at HT0 ⊢
  rintro e w1 ⟨rfl, hb1⟩
  have HK1 := Lib.hid (KeepA.of_below (Pb := Pb) hb1)
  have HJ1 := Lib.hid (HJ.out _ _ _ HJB.out (grown_of_below hb1))
  clear hhas hb1 hWb HHAS HJB
  cases hb with
  | false =>
    gi_wp2_with fail
    refine ⟨trivial, ?_⟩
    obtain ⟨w3, hw3⟩ : ∃ w3, w1 = w3 := ⟨_, rfl⟩
    obtain ⟨xs0, hxs0⟩ : ∃ xs0 : List (Value × List Int), xs0 = [] := ⟨_, rfl⟩
    have HK3 : Hid (KeepA Pb Wb w3) := by rw [← hw3]; exact HK1
    have HJ3 : Hid (J (pre ++ xs0) w3) := Lib.hid (by rw [hxs0, List.append_nil, ← hw3]; exact HJ1.out)
    have HX0 : Hid (xs0.map Prod.snd ++ (if most ≤ (nh : Int) then [] else loopL d head (d.up.drop p)) = T) := Lib.hid (by rw [hxs0]; exact HT0.out)
    clear hxs0 HT0 HJ1 HK1 HCL
    subst hw3
    obtain ⟨x_0, x_1, x_2, x_3, x_4, x_5⟩ := HBX.out _ HK3.out
    by_cases hm : most ≤ (nh : Int)
    · have hmb : decide (most ≤ (nh : Int)) = true := decide_eq_true hm
      gi_wp2_with (refine wpListIn_skip (by rfl) (by rfl) ?_)
      go_ret
      exact WalkR.yes xs0 (HKB.out.trans HK3.out) (by have := HX0.out; rw [if_pos hm, List.append_nil] at this; exact this) HJ3.out
    · have hmb : decide (most ≤ (nh : Int)) = false := decide_eq_false hm
      replace HX0 : Hid (xs0.map Prod.snd ++ loopL d head (d.up.drop p) = T) := Lib.hid (by have := HX0.out; rw [if_neg hm] at this; exact this)
      clear hm
      gi_wp2_with (refine wpListIn_skip (by rfl) (by rfl) ?_)
      clear x_0 x_1 x_2 x_3 x_4 x_5 hmb
      gi_loopw [9] (fun i wr => ∃ (q : Nat) (xs : List (Value × List Int)), i = .int .i64 q ∧ p ≤ q ∧ q ≤ nu ∧ Hid (xs.map Prod.snd ++ loopL d head (d.up.drop q) = T) ∧ Hid (J (pre ++ xs) wr) ∧ Hid (KeepA Pb Wb wr))
        (fun i _ => nu - (intOf i).toNat)
      case atStart => exact ⟨p, xs0, rfl, Nat.le_refl _, hat, HX0, HJ3, HK3⟩
      case round =>
        obtain ⟨q, xs, rfl, hpq, hq, HX, HJR, HKR⟩ := hrel
        clear HX0 HJ3 HK3
        obtain ⟨x_0, x_1, x_2, x_3, x_4, x_5⟩ := HBX.out _ HKR.out
        have hw1 : IntKind.i64.wrap ((nh : Int) + nu) = (nh : Int) + nu := IntWalk.i64_in _ (by omega)
        have hw2 : IntKind.i64.wrap ((nh : Int) + nu - q) = (nh : Int) + nu - q := IntWalk.i64_in _ (by omega)
        have hw3 : IntKind.i64.wrap ((q : Int) + 1) = (q : Int) + 1 := IntWalk.i64_in _ (by omega)
        have hw4 : IntKind.i64.wrap ((nh : Int) + 1) = (nh : Int) + 1 := IntWalk.i64_in _ (by omega)
        by_cases hqn : q < nu
        · have hqb : decide ((q : Int) < nu) = true := decide_eq_true (by omega)
          by_cases hle : least ≤ (nh : Int) + nu - q
          · have hlb : decide (least ≤ (nh : Int) + nu - q) = true := decide_eq_true hle
            have hqu : q < d.up.length := by rw [HNU.out]; exact hqn
            obtain ⟨x, hx⟩ : ∃ x, d.up[q]? = some x := ⟨d.up[q], List.getElem?_eq_getElem hqu⟩
            obtain ⟨u', hu'⟩ : ∃ u', d.up.drop (q + 1) = u' := ⟨_, rfl⟩
            have hul : u'.length = nu - (q + 1) := by rw [← hu', List.length_drop, HNU.out]
            have HXX : Hid (xs.map Prod.snd ++ ((if (nh : Int) + 1 + (lateL d.lo u' : Int) ≤ most then walkL d (head ++ [x]) u' else []) ++ (if x ∈ d.lo then [] else loopL d head u')) = T) := Lib.hid (by
              have h := HX.out
              have e : d.up.drop q = x :: u' := by
                rw [List.drop_eq_getElem_cons hqu, hu']
                congr 1
                have := List.getElem?_eq_getElem hqu
                rw [hx] at this
                injection this with h; exact h.symm
              rw [e, loop_walk, if_pos (by rw [hul, HNH.out, HLE.out]; omega), HNH.out, HMO.out] at h
              exact h)
            have HIQ := HIH.out q x hx hpq
            rw [hu'] at HIQ
            unfold WalkC at HIQ
            simp only [Int.natCast_add, Int.natCast_one, HLE.out, HMO.out] at HIQ
            replace HIQ := Lib.hid HIQ
            obtain ⟨adu, hAu, -⟩ := HVU.out.1.at q hqu
            have HXC := Lib.hid (fun v (h : KeepA Pb Wb v) => (by
              obtain ⟨ad2, hA2, hc2⟩ := (HVU.out.keep h).1.at q hqu
              rw [hAu] at hA2
              injection hA2 with hA2
              subst hA2
              have hxx := List.getElem?_eq_getElem hqu
              rw [hx] at hxx
              injection hxx with hxx
              rw [← hxx] at hc2
              exact hc2 : v.cell? (adu.add q) = some (.int .i64 x)))
            subst hAu
            obtain ⟨A5, hsl, hrd⟩ := drop3 (some adu) nu cu (q + 1) (by omega) hcu
            simp only [Int.natCast_add, Int.natCast_one] at hsl
            have HRD := Lib.hid (fun W' (h : KeepA Pb Wb W') => hrd W' d.up HNU.out (HVU.out.keep h).1)
            rw [hu'] at HRD
            have HUL := Lib.hid hul
            have HXQ := Lib.hid hx
            have HUP := Lib.hid hu'
            clear HX hle hrd hul hx hu' hqu
            obtain ⟨m5, hm5⟩ : ∃ m5, nu - (q + 1) = m5 := ⟨_, rfl⟩
            rw [hm5] at hsl HRD HUL
            gi_wp2_with fail
            clear x_0 x_1 x_2 x_3 x_4 x_5
            gi_loopw [10, 55] (fun l j wr => ∃ c : Nat, j = .int .i64 c ∧ c ≤ m5 ∧ l = .int .i64 (lateL d.lo (u'.take c)) ∧ Hid (J (pre ++ xs) wr) ∧ Hid (KeepA Pb Wb wr))
              (fun _ j _ => m5 - (intOf j).toNat)
            case atStart => exact ⟨0, rfl, Nat.zero_le _, rfl, HJR, HKR⟩
            case round =>
              clear HJR HKR
              obtain ⟨c, rfl, hc, rfl, HJ5, HK5⟩ := hrel
              obtain ⟨x_0, x_1, x_2, x_3, x_4, x_5⟩ := HBX.out _ HK5.out
              by_cases hcm : c < m5
              · have hcb : decide ((c : Int) < m5) = true := decide_eq_true (by omega)
                have hcu' : c < u'.length := by rw [HUL.out]; exact hcm
                obtain ⟨ad, hA, hcell⟩ := (HRD.out _ HK5.out).at c hcu'
                subst hA
                have hix := fun W => indexI_at ad m5 (cu - (q + 1)) (c : Nat) (by omega) W
                simp only [Int.toNat_natCast] at hix
                have hlt : lateL d.lo (u'.take c) ≤ c := Nat.le_trans (lateL_le _ _) (by rw [List.length_take]; omega)
                have hst : lateL d.lo (u'.take (c + 1)) = lateL d.lo (u'.take c) + if u'[c] ∈ d.lo then 1 else 0 := by
                  rw [List.take_succ_eq_append_getElem hcu']
                  unfold lateL
                  rw [List.filter_append, List.length_append]
                  congr 1
                  by_cases h : u'[c] ∈ d.lo
                  · rw [List.filter_cons_of_pos (by simpa using h), if_pos h]; rfl
                  · rw [List.filter_cons_of_neg (by simpa using h), if_neg h]; rfl
                have hin : inS u'[c] d.lo = decide (u'[c] ∈ d.lo) := by unfold inS; rw [HLO.out]
                have HST := Lib.hid hst
                generalize lateL d.lo (u'.take c) = lt at *
                generalize u'[c] = y at *
                have HIY := Lib.hid (HIN.out _ HK5.out y)
                rw [hin] at HIY
                clear hst hin
                gi_wp2_with fail
                refine ⟨trivial, ?_⟩
                refine (callsIn_wide.2 HIY.out).mono ?_
                rintro e w6 ⟨rfl, hb6⟩
                have HK6 := Lib.hid (HK5.out.trans (KeepA.of_below (Pb := Pb) hb6))
                have HJ6 := Lib.hid (HJ.out _ _ _ HJ5.out (grown_of_below hb6))
                clear hb6 HK5 HJ5 x_0 x_1 x_2 x_3 x_4 x_5 HIY
                by_cases hy : y ∈ d.lo
                · have hyb : decide (y ∈ d.lo) = true := decide_eq_true hy
                  have hwl : IntKind.i64.wrap ((lt : Int) + 1) = (lt : Int) + 1 := IntWalk.i64_in _ (by omega)
                  have hwc : IntKind.i64.wrap ((c : Int) + 1) = (c : Int) + 1 := IntWalk.i64_in _ (by omega)
                  replace HST := Lib.hid (by have h := HST.out; rw [if_pos hy] at h; exact h : lateL d.lo (u'.take (c + 1)) = lt + 1)
                  clear hy
                  gi_wp2_with fail
                  go_roundw
                  case rel => exact ⟨c + 1, by go_num, by omega, by rw [HST.out]; go_num, HJ6, HK6⟩
                  case measure => simp [intOf]; omega
                · have hyb : decide (y ∈ d.lo) = false := decide_eq_false hy
                  have hwc : IntKind.i64.wrap ((c : Int) + 1) = (c : Int) + 1 := IntWalk.i64_in _ (by omega)
                  replace HST := Lib.hid (by have h := HST.out; rw [if_neg hy] at h; exact h : lateL d.lo (u'.take (c + 1)) = lt + 0)
                  clear hy
                  gi_wp2_with fail
                  go_roundw
                  case rel => exact ⟨c + 1, by go_num, by omega, by rw [HST.out]; go_num, HJ6, HK6⟩
                  case measure => simp [intOf]; omega
              · obtain rfl : c = m5 := by omega
                have hlu : u'.take c = u' := List.take_of_length_le (by rw [HUL.out]; exact Nat.le_refl _)
                rw [hlu] at *
                have hlt : lateL d.lo u' ≤ c := Nat.le_trans (lateL_le _ _) (by rw [HUL.out]; exact Nat.le_refl _)
                have hcq : c ≤ 64 := by omega
                generalize lateL d.lo u' = lt at *
                have hw5 : IntKind.i64.wrap ((nh : Int) + 1 + lt) = (nh : Int) + 1 + lt := IntWalk.i64_in _ (by omega)
                gi_wp2_with fail
                have HALL := Lib.hid (fun v (h : KeepA Pb Wb v) => (⟨(HBX.out v h).1, (HBX.out v h).2.1, (HBX.out v h).2.2.1, (HBX.out v h).2.2.2.1, (HBX.out v h).2.2.2.2.1, (HBX.out v h).2.2.2.2.2, HXC.out v h⟩ : v.cell? ⟨W.heap.size, 0, none⟩ = some (.bool true) ∧ v.cell? ⟨W.heap.size, 1, none⟩ = some (.slice Ar 0 cr) ∧ v.cell? ⟨W.heap.size, 2, none⟩ = some (.slice Al nl cl) ∧ v.cell? ⟨W.heap.size, 3, none⟩ = some (.slice (some adu) nu cu) ∧ v.cell? ⟨W.heap.size, 4, none⟩ = some (.int .i64 least) ∧ v.cell? ⟨W.heap.size, 5, none⟩ = some (.int .i64 most) ∧ v.cell? (adu.add q) = some (.int .i64 x)))
                clear x_0 x_1 x_2 x_3 x_4 x_5
                have hixu := fun W => indexI_at adu nu cu (q : Nat) (by omega) W
                simp only [Int.toNat_natCast] at hixu
                by_cases hg : (nh : Int) + 1 + lt ≤ most
                · have hgb : decide ((nh : Int) + 1 + lt ≤ most) = true := decide_eq_true hg
                  replace HXX := Lib.hid (by have h := HXX.out; rw [if_pos hg, ← List.append_assoc] at h; exact h : (xs.map Prod.snd ++ walkL d (head ++ [x]) u') ++ (if x ∈ d.lo then [] else loopL d head u') = T)
                  have HNX : Hid ((pre ++ xs).length + (walkL d (head ++ [x]) u').length ≤ N) := Lib.hid (by
                    have h := HNN.out
                    rw [← HXX.out] at h
                    simp only [List.length_append, List.length_map] at h ⊢
                    omega)
                  generalize walkL d (head ++ [x]) u' = X at *
                  have hKd : KeepA Pb Wb wr.drew := HK5.out.trans (KeepA.of_below ((Below.refl _ _).drew))
                  have hbA : Below wr.heap.size wr ((wr.alloc (.cells #[.int .i64 x] 2)).drew) := ((Below.refl _ wr).alloc (Nat.le_refl _) _).drew
                  have hKa : KeepA Pb Wb ((wr.alloc (.cells #[.int .i64 x] 2)).drew) := HK5.out.trans (KeepA.of_below hbA)
                  have HJA := Lib.hid (HJ.out _ _ _ HJ5.out (grown_of_below hbA))
                  have HKA := Lib.hid hKa
                  have HHC : Hid (∀ b, Ah = some b → ∀ j u, (intsV head)[j]? = some u → (wr.alloc (.cells #[.int .i64 x] 2)).drew.cell? (b.add j) = some u) := Lib.hid (fun b hb j u hj => by
                    have h := (HVH.out.keep hKa).1
                    rw [intsV_at] at hj
                    have hjl : j < head.length := by
                      rcases Nat.lt_or_ge j head.length with h | h
                      · exact h
                      · rw [List.getElem?_eq_none h] at hj; cases hj
                    obtain ⟨ad2, hA2, hc2⟩ := h.at j hjl
                    rw [hb] at hA2
                    injection hA2 with hA2
                    subst hA2
                    rw [List.getElem?_eq_getElem hjl] at hj
                    simp only [Option.map_some, Option.some.injEq] at hj
                    rw [← hj]
                    exact hc2)
                  have hAn : Ah = none → nh = 0 ∧ nh = 0 := fun h => by
                    obtain ⟨A9, c9, e9, hC9, _⟩ := HVH.out.1
                    injection e9 with e91 e92 e93
                    subst e91
                    refine Classical.byContradiction fun hz => ?_
                    obtain ⟨ad, e, _⟩ := hC9.2.2 (by omega)
                    rw [h] at e
                    cases e
                  obtain ⟨i0, hi0, hz0, hz1, hz2⟩ := info_parts infoI
                  have hilen : (intsV head).length = nh * 1 := by rw [intsV_len, HNH.out, Nat.mul_one]
                  have hPw : ∀ b, Pb b → b < ((wr.alloc (.cells #[.int .i64 x] 2)).drew).heap.size := fun b hb => by
                    have := HPB.out b hb
                    have := HK5.out.1
                    have := hbA.size
                    omega
                  clear hKa hbA hg
                  have hKa := HKA.out
                  have HWK := Lib.hid (fun (v9 : Value) (w9 : World) (h : w9.ownsRow (wr.alloc (.cells #[.int .i64 x] 2)).drew.heap.size 2 1 v9 (nh + 1) (intsV head ++ [Value.int .i64 x]) ∧ (wr.alloc (.cells #[.int .i64 x] 2)).drew.grownBy w9 none) =>
                    have k9 : KeepA Pb Wb w9 := HKA.out.trans (KeepA.of_below (below_of_grown h.2))
                    (HIQ.out (pre ++ xs) w9 v9 (stay_row h.1 HNH.out hPw) (HVL.out.keep k9) (HVU.out.keep k9) (HJ.out _ _ _ HJA.out h.2) (by have := k9.1; omega) HNX.out).mono (fun e w10 (⟨b, e1, k1, p1⟩ : WalkR _ _ _ _ _ _ _ _) => (⟨b, e1, k9.trans k1, p1⟩ : ∃ b, e = Ending.returned (.bool b) ∧ KeepA Pb Wb w10 ∧ WalkP J Jx X (pre ++ xs) b w10)))
                  refine wpIn_wide.2 ?_
                  go_region_held3 (fun v => v.cell? ⟨W.heap.size, 0, none⟩ = some (.bool true) ∧ v.cell? ⟨W.heap.size, 1, none⟩ = some (.slice Ar 0 cr) ∧ v.cell? ⟨W.heap.size, 2, none⟩ = some (.slice Al nl cl) ∧ v.cell? ⟨W.heap.size, 3, none⟩ = some (.slice (some adu) nu cu) ∧ v.cell? ⟨W.heap.size, 4, none⟩ = some (.int .i64 least) ∧ v.cell? ⟨W.heap.size, 5, none⟩ = some (.int .i64 most) ∧ v.cell? (adu.add q) = some (.int .i64 x))
                    (first | with_reducible exact HALL.out _ HK10.out | with_reducible exact HALL.out _ HK9.out | with_reducible exact HALL.out _ hKa | with_reducible exact HALL.out _ hKd)
                    (first
                      | ((with_reducible refine gate_append (.tmp 77) (.tmp 83) 50 rfl ?_); refine step_append_grows (by rfl) (.tmp 77) (.tmp 83) 50 rfl 2 i0 (.int .i64 0) 1 8 Tryz.underlying50 hi0 hz0 hz1 hz2 rfl (by decide) Ah nh nh (intsV head) rfl hAn hilen HHC.out ⟨wr.heap.size, 0, none⟩ 1 1 [.int .i64 x] rfl rfl (cell_one_at _ _ rfl _ _) (by simp [Value.oneCell']) (by omega) (by simp only [maxLen]; omega) (by omega) ?_; intro v9 w9 hown9 hg9; have HK9 := Lib.hid (HKA.out.trans (KeepA.of_below (Pb := Pb) (below_of_grown hg9))); have HO9 := Lib.hid (⟨hown9, hg9⟩ : _ ∧ _); clear hown9 hg9)
                      | (go_at_call 172; refine (clipI_calls Ah nh ch (by omega) hch _).mono ?_; rintro e wc ⟨rfl, rfl⟩)
                      | (go_at_call 121; with_reducible refine Calls.mono (HWK.out v9 w9 HO9.out) ?_; rintro e w10 ⟨b, rfl, hk10, hp10⟩; have HK10 := Lib.hid hk10; have HP10 := Lib.hid hp10; clear hk10 hp10))
                  all_goals
                    cases b with
                    | false =>
                      obtain ⟨ys, ⟨h, _⟩ | ⟨_, hp, hj⟩⟩ := HP10.out
                      · cases h
                      have HJX : Hid (Jx (pre ++ (xs ++ ys)) w10) := Lib.hid (by rw [← List.append_assoc]; exact hj)
                      have HPX : Hid ((xs ++ ys).map Prod.snd <+: T) := Lib.hid (by
                        rw [← HXX.out, List.map_append, List.append_assoc]
                        obtain ⟨t, ht⟩ := hp
                        rw [← ht]
                        exact ⟨t ++ (if x ∈ d.lo then [] else loopL d head u'), by simp only [List.append_assoc]⟩)
                      clear hp hj HP10
                      gi_wp2_with fail
                      go_ret
                      exact WalkR.no (xs ++ ys) (HKB.out.trans HK10.out) HPX.out HJX.out
                    | true =>
                      obtain ⟨ys, ⟨_, hp, hj⟩ | ⟨h, _⟩⟩ := HP10.out
                      case inr => cases h
                      obtain ⟨zs, hzs⟩ : ∃ zs, xs ++ ys = zs := ⟨_, rfl⟩
                      have HJ10 : Hid (J (pre ++ zs) w10) := Lib.hid (by rw [← hzs, ← List.append_assoc]; exact hj)
                      have HZ : Hid (zs.map Prod.snd ++ (if x ∈ d.lo then [] else loopL d head u') = T) := Lib.hid (by rw [← HXX.out, ← hzs, List.map_append, hp])
                      clear hp hj HP10 hzs HXX hKa hKd HKA HK9 HWK HO9
                      gi_wp2_with fail
                      have hK11 : KeepA Pb Wb w10.drew := HK10.out.trans (KeepA.of_below ((Below.refl _ _).drew))
                      have HJ11 := Lib.hid (HJ.out _ _ _ HJ10.out (grown_of_below ((Below.refl w10.heap.size w10).drew)))
                      have hin : inS x d.lo = decide (x ∈ d.lo) := by unfold inS; rw [HLO.out]
                      have HIX := HIN.out w10.drew hK11 x
                      obtain ⟨bx, hbx⟩ : ∃ bx, decide (x ∈ d.lo) = bx := ⟨_, rfl⟩
                      rw [hin, hbx] at HIX
                      have HBQ := Lib.hid hbx
                      clear hbx
                      replace HIX := Lib.hid HIX
                      clear hin
                      have HAL3 := Lib.hid (fun v (h : KeepA Pb Wb v) => (⟨(HBX.out v h).2.2.1, (HBX.out v h).2.2.2.1, HXC.out v h⟩ : v.cell? ⟨W.heap.size, 2, none⟩ = some (.slice Al nl cl) ∧ v.cell? ⟨W.heap.size, 3, none⟩ = some (.slice (some adu) nu cu) ∧ v.cell? (adu.add q) = some (.int .i64 x)))
                      refine wpIn_wide.2 ?_
                      go_region_held3 (fun v => v.cell? ⟨W.heap.size, 2, none⟩ = some (.slice Al nl cl) ∧ v.cell? ⟨W.heap.size, 3, none⟩ = some (.slice (some adu) nu cu) ∧ v.cell? (adu.add q) = some (.int .i64 x))
                        (first | with_reducible exact HAL3.out _ HK12.out | with_reducible exact HAL3.out _ hK11)
                        (first
                          | (go_at_call 64; with_reducible refine Calls.mono HIX.out ?_; rintro e w12 ⟨rfl, hb12⟩; have HK12 := Lib.hid (hK11.trans (KeepA.of_below (Pb := Pb) hb12)); have HJ12 := Lib.hid (HJ.out _ _ _ HJ11.out (grown_of_below hb12)); clear hb12))
                      cases bx with
                      | true =>
                        have hx2 := of_decide_eq_true HBQ.out
                        have HZ2 : Hid (zs.map Prod.snd = T) := Lib.hid (by have h := HZ.out; rw [if_pos hx2, List.append_nil] at h; exact h)
                        clear hx2 HZ HBQ
                        gi_wp2_with fail
                        go_ret
                        exact WalkR.yes zs (HKB.out.trans HK12.out) HZ2.out HJ12.out
                      | false =>
                        have hx2 := of_decide_eq_false HBQ.out
                        have HZ2 : Hid (zs.map Prod.snd ++ loopL d head (d.up.drop (q + 1)) = T) := Lib.hid (by have h := HZ.out; rw [if_neg hx2] at h; rw [HUP.out]; exact h)
                        clear hx2 HZ HBQ
                        gi_wp2_with fail
                        go_roundw
                        case rel => exact ⟨q + 1, zs, by go_num, by omega, by omega, HZ2, HJ12, HK12⟩
                        case measure => simp [intOf]; omega
                · have hgb : decide ((nh : Int) + 1 + lt ≤ most) = false := decide_eq_false hg
                  have hzs : True := trivial
                  have HZ : Hid (xs.map Prod.snd ++ (if x ∈ d.lo then [] else loopL d head u') = T) := Lib.hid (by have h := HXX.out; rw [if_neg hg, List.nil_append] at h; exact h)
                  clear hzs
                  clear hg HXX
                  obtain ⟨x_0, x_1, x_2, x_3, x_4, x_5⟩ := HBX.out _ HK5.out
                  refine wpIn_wide.2 ?_
                  go_quiet (fail)
                  clear x_0 x_1 x_2 x_3 x_4 x_5
                  have hbq : Below wr.heap.size wr (wr.drewN nq) := pw_below_drewN (Below.refl _ _) nq
                  have HK10 := Lib.hid (HK5.out.trans (KeepA.of_below (Pb := Pb) hbq))
                  have HJ10 := Lib.hid (HJ.out _ _ _ HJ5.out (grown_of_below hbq))
                  clear hbq
                  generalize wr.drewN nq = w10 at *

                  gi_wp2_with fail
                  have hK11 : KeepA Pb Wb w10.drew := HK10.out.trans (KeepA.of_below ((Below.refl _ _).drew))
                  have HJ11 := Lib.hid (HJ.out _ _ _ HJ10.out (grown_of_below ((Below.refl w10.heap.size w10).drew)))
                  have hin : inS x d.lo = decide (x ∈ d.lo) := by unfold inS; rw [HLO.out]
                  have HIX := HIN.out w10.drew hK11 x
                  obtain ⟨bx, hbx⟩ : ∃ bx, decide (x ∈ d.lo) = bx := ⟨_, rfl⟩
                  rw [hin, hbx] at HIX
                  have HBQ := Lib.hid hbx
                  clear hbx
                  replace HIX := Lib.hid HIX
                  clear hin
                  have HAL3 := Lib.hid (fun v (h : KeepA Pb Wb v) => (⟨(HBX.out v h).2.2.1, (HBX.out v h).2.2.2.1, HXC.out v h⟩ : v.cell? ⟨W.heap.size, 2, none⟩ = some (.slice Al nl cl) ∧ v.cell? ⟨W.heap.size, 3, none⟩ = some (.slice (some adu) nu cu) ∧ v.cell? (adu.add q) = some (.int .i64 x)))
                  refine wpIn_wide.2 ?_
                  go_region_held3 (fun v => v.cell? ⟨W.heap.size, 2, none⟩ = some (.slice Al nl cl) ∧ v.cell? ⟨W.heap.size, 3, none⟩ = some (.slice (some adu) nu cu) ∧ v.cell? (adu.add q) = some (.int .i64 x))
                    (first | with_reducible exact HAL3.out _ HK12.out | with_reducible exact HAL3.out _ hK11)
                    (first
                      | (go_at_call 64; with_reducible refine Calls.mono HIX.out ?_; rintro e w12 ⟨rfl, hb12⟩; have HK12 := Lib.hid (hK11.trans (KeepA.of_below (Pb := Pb) hb12)); have HJ12 := Lib.hid (HJ.out _ _ _ HJ11.out (grown_of_below hb12)); clear hb12))
                  cases bx with
                  | true =>
                    have hx2 := of_decide_eq_true HBQ.out
                    have HZ2 : Hid (xs.map Prod.snd = T) := Lib.hid (by have h := HZ.out; rw [if_pos hx2, List.append_nil] at h; exact h)
                    clear hx2 HZ HBQ
                    gi_wp2_with fail
                    go_ret
                    exact WalkR.yes xs (HKB.out.trans HK12.out) HZ2.out HJ12.out
                  | false =>
                    have hx2 := of_decide_eq_false HBQ.out
                    have HZ2 : Hid (xs.map Prod.snd ++ loopL d head (d.up.drop (q + 1)) = T) := Lib.hid (by have h := HZ.out; rw [if_neg hx2] at h; rw [HUP.out]; exact h)
                    clear hx2 HZ HBQ
                    gi_wp2_with fail
                    go_roundw
                    case rel => exact ⟨q + 1, xs, by go_num, by omega, by omega, HZ2, HJ12, HK12⟩
                    case measure => simp [intOf]; omega
          · have hlb : decide (least ≤ (nh : Int) + nu - q) = false := decide_eq_false hle
            have HX' : Hid (xs.map Prod.snd = T) := Lib.hid (by
              have h := HX.out
              have hqu : q < d.up.length := by rw [HNU.out]; exact hqn
              rw [List.drop_eq_getElem_cons hqu, loop_walk, if_neg (by rw [List.length_drop, HNH.out, HLE.out, HNU.out]; omega), List.append_nil] at h
              exact h)
            gi_wp2_with fail
            go_ret
            exact WalkR.yes xs (HKB.out.trans HKR.out) HX'.out HJR.out
        · have hqb : decide ((q : Int) < nu) = false := decide_eq_false (by omega)
          have HX' : Hid (xs.map Prod.snd = T) := Lib.hid (by
            have h := HX.out
            rw [List.drop_eq_nil_of_le (by rw [HNU.out]; omega)] at h
            unfold loopL at h
            rw [List.append_nil] at h
            exact h)
          gi_wp2_with fail
          go_ret
          exact WalkR.yes xs (HKB.out.trans HKR.out) HX'.out HJR.out
  | true =>
    gi_wp2_with fail
    refine ⟨trivial, ?_⟩
    refine (callsIn_wide.2 (HCL.out w1 HK1.out)).mono ?_
    rintro e w2 ⟨v2, rfl, hO2, hb2⟩
    have HK2 := Lib.hid (HK1.out.trans (KeepA.of_below (Pb := Pb) hb2))
    have HJ2 := Lib.hid (HJ.out _ _ _ HJ1.out (grown_of_below hb2))
    have hs1 := HK1.out.1
    have hbase : ∀ b, v2.ownBlock = some b → Wb.heap.size ≤ b := fun b h => by have := hO2.base b h; omega
    obtain ⟨fn, tmps, assign, body, hy, hR2⟩ := HY.out 4 pre (v2, head) w2 HJ2.out (hO2.lower (by omega)) (by have h := HT0.out; have h2 := HNN.out; rw [← h] at h2; simp at h2; omega)
    have HBS := Lib.hid hbase
    obtain ⟨A2, c2, e2, _⟩ := hO2.form
    subst e2
    rw [HNH.out] at hy hR2 HBS ⊢
    clear hO2 hb2 hs1 hbase HJ1 HJ2 HCL
    gi_wp2_with fail
    refine RoundIn.mono hR2 ?_
    rintro e w3 ⟨b, rfl, hkx, hcase⟩
    have HK3 := Lib.hid (KeepX.keep HK2.out hkx HBS.out)
    clear hkx HK2 HK1 hR2 hy HBS
    cases b with
    | false =>
      obtain ⟨hf, _⟩ | ⟨_, hjx⟩ := hcase
      · cases hf
      have HJX := Lib.hid hjx
      clear hjx
      gi_wp2_with fail
      go_ret
      exact WalkR.no [(.slice A2 nh c2, head)] (HKB.out.trans HK3.out) (by rw [← HT0.out]; exact List.prefix_append _ _) HJX.out
    | true =>
      obtain ⟨_, hj3⟩ | ⟨hf, _⟩ := hcase
      case inr => cases hf
      obtain ⟨xs0, hxs0⟩ : ∃ xs0 : List (Value × List Int), xs0 = [(.slice A2 nh c2, head)] := ⟨_, rfl⟩
      rw [← hxs0] at hj3
      have HJ3 := Lib.hid hj3
      have HX0 : Hid (xs0.map Prod.snd ++ (if most ≤ (nh : Int) then [] else loopL d head (d.up.drop p)) = T) := Lib.hid (by rw [hxs0]; exact HT0.out)
      clear hxs0 HT0 hj3
      obtain ⟨x_0, x_1, x_2, x_3, x_4, x_5⟩ := HBX.out _ HK3.out
      by_cases hm : most ≤ (nh : Int)
      · have hmb : decide (most ≤ (nh : Int)) = true := decide_eq_true hm
        gi_wp2_with (refine wpListIn_skip (by rfl) (by rfl) ?_)
        go_ret
        exact WalkR.yes xs0 (HKB.out.trans HK3.out) (by have := HX0.out; rw [if_pos hm, List.append_nil] at this; exact this) HJ3.out
      · have hmb : decide (most ≤ (nh : Int)) = false := decide_eq_false hm
        replace HX0 : Hid (xs0.map Prod.snd ++ loopL d head (d.up.drop p) = T) := Lib.hid (by have := HX0.out; rw [if_neg hm] at this; exact this)
        clear hm
        gi_wp2_with (refine wpListIn_skip (by rfl) (by rfl) ?_)
        clear x_0 x_1 x_2 x_3 x_4 x_5 hmb
        gi_loopw [9] (fun i wr => ∃ (q : Nat) (xs : List (Value × List Int)), i = .int .i64 q ∧ p ≤ q ∧ q ≤ nu ∧ Hid (xs.map Prod.snd ++ loopL d head (d.up.drop q) = T) ∧ Hid (J (pre ++ xs) wr) ∧ Hid (KeepA Pb Wb wr))
          (fun i _ => nu - (intOf i).toNat)
        case atStart => exact ⟨p, xs0, rfl, Nat.le_refl _, hat, HX0, HJ3, HK3⟩
        case round =>
          obtain ⟨q, xs, rfl, hpq, hq, HX, HJR, HKR⟩ := hrel
          clear HX0 HJ3 HK3
          obtain ⟨x_0, x_1, x_2, x_3, x_4, x_5⟩ := HBX.out _ HKR.out
          have hw1 : IntKind.i64.wrap ((nh : Int) + nu) = (nh : Int) + nu := IntWalk.i64_in _ (by omega)
          have hw2 : IntKind.i64.wrap ((nh : Int) + nu - q) = (nh : Int) + nu - q := IntWalk.i64_in _ (by omega)
          have hw3 : IntKind.i64.wrap ((q : Int) + 1) = (q : Int) + 1 := IntWalk.i64_in _ (by omega)
          have hw4 : IntKind.i64.wrap ((nh : Int) + 1) = (nh : Int) + 1 := IntWalk.i64_in _ (by omega)
          by_cases hqn : q < nu
          · have hqb : decide ((q : Int) < nu) = true := decide_eq_true (by omega)
            by_cases hle : least ≤ (nh : Int) + nu - q
            · have hlb : decide (least ≤ (nh : Int) + nu - q) = true := decide_eq_true hle
              have hqu : q < d.up.length := by rw [HNU.out]; exact hqn
              obtain ⟨x, hx⟩ : ∃ x, d.up[q]? = some x := ⟨d.up[q], List.getElem?_eq_getElem hqu⟩
              obtain ⟨u', hu'⟩ : ∃ u', d.up.drop (q + 1) = u' := ⟨_, rfl⟩
              have hul : u'.length = nu - (q + 1) := by rw [← hu', List.length_drop, HNU.out]
              have HXX : Hid (xs.map Prod.snd ++ ((if (nh : Int) + 1 + (lateL d.lo u' : Int) ≤ most then walkL d (head ++ [x]) u' else []) ++ (if x ∈ d.lo then [] else loopL d head u')) = T) := Lib.hid (by
                have h := HX.out
                have e : d.up.drop q = x :: u' := by
                  rw [List.drop_eq_getElem_cons hqu, hu']
                  congr 1
                  have := List.getElem?_eq_getElem hqu
                  rw [hx] at this
                  injection this with h; exact h.symm
                rw [e, loop_walk, if_pos (by rw [hul, HNH.out, HLE.out]; omega), HNH.out, HMO.out] at h
                exact h)
              have HIQ := HIH.out q x hx hpq
              rw [hu'] at HIQ
              unfold WalkC at HIQ
              simp only [Int.natCast_add, Int.natCast_one, HLE.out, HMO.out] at HIQ
              replace HIQ := Lib.hid HIQ
              obtain ⟨adu, hAu, -⟩ := HVU.out.1.at q hqu
              have HXC := Lib.hid (fun v (h : KeepA Pb Wb v) => (by
                obtain ⟨ad2, hA2, hc2⟩ := (HVU.out.keep h).1.at q hqu
                rw [hAu] at hA2
                injection hA2 with hA2
                subst hA2
                have hxx := List.getElem?_eq_getElem hqu
                rw [hx] at hxx
                injection hxx with hxx
                rw [← hxx] at hc2
                exact hc2 : v.cell? (adu.add q) = some (.int .i64 x)))
              subst hAu
              obtain ⟨A5, hsl, hrd⟩ := drop3 (some adu) nu cu (q + 1) (by omega) hcu
              simp only [Int.natCast_add, Int.natCast_one] at hsl
              have HRD := Lib.hid (fun W' (h : KeepA Pb Wb W') => hrd W' d.up HNU.out (HVU.out.keep h).1)
              rw [hu'] at HRD
              have HUL := Lib.hid hul
              have HXQ := Lib.hid hx
              have HUP := Lib.hid hu'
              clear HX hle hrd hul hx hu' hqu
              obtain ⟨m5, hm5⟩ : ∃ m5, nu - (q + 1) = m5 := ⟨_, rfl⟩
              rw [hm5] at hsl HRD HUL
              gi_wp2_with fail
              clear x_0 x_1 x_2 x_3 x_4 x_5
              gi_loopw [10, 55] (fun l j wr => ∃ c : Nat, j = .int .i64 c ∧ c ≤ m5 ∧ l = .int .i64 (lateL d.lo (u'.take c)) ∧ Hid (J (pre ++ xs) wr) ∧ Hid (KeepA Pb Wb wr))
                (fun _ j _ => m5 - (intOf j).toNat)
              case atStart => exact ⟨0, rfl, Nat.zero_le _, rfl, HJR, HKR⟩
              case round =>
                clear HJR HKR
                obtain ⟨c, rfl, hc, rfl, HJ5, HK5⟩ := hrel
                obtain ⟨x_0, x_1, x_2, x_3, x_4, x_5⟩ := HBX.out _ HK5.out
                by_cases hcm : c < m5
                · have hcb : decide ((c : Int) < m5) = true := decide_eq_true (by omega)
                  have hcu' : c < u'.length := by rw [HUL.out]; exact hcm
                  obtain ⟨ad, hA, hcell⟩ := (HRD.out _ HK5.out).at c hcu'
                  subst hA
                  have hix := fun W => indexI_at ad m5 (cu - (q + 1)) (c : Nat) (by omega) W
                  simp only [Int.toNat_natCast] at hix
                  have hlt : lateL d.lo (u'.take c) ≤ c := Nat.le_trans (lateL_le _ _) (by rw [List.length_take]; omega)
                  have hst : lateL d.lo (u'.take (c + 1)) = lateL d.lo (u'.take c) + if u'[c] ∈ d.lo then 1 else 0 := by
                    rw [List.take_succ_eq_append_getElem hcu']
                    unfold lateL
                    rw [List.filter_append, List.length_append]
                    congr 1
                    by_cases h : u'[c] ∈ d.lo
                    · rw [List.filter_cons_of_pos (by simpa using h), if_pos h]; rfl
                    · rw [List.filter_cons_of_neg (by simpa using h), if_neg h]; rfl
                  have hin : inS u'[c] d.lo = decide (u'[c] ∈ d.lo) := by unfold inS; rw [HLO.out]
                  have HST := Lib.hid hst
                  generalize lateL d.lo (u'.take c) = lt at *
                  generalize u'[c] = y at *
                  have HIY := Lib.hid (HIN.out _ HK5.out y)
                  rw [hin] at HIY
                  clear hst hin
                  gi_wp2_with fail
                  refine ⟨trivial, ?_⟩
                  refine (callsIn_wide.2 HIY.out).mono ?_
                  rintro e w6 ⟨rfl, hb6⟩
                  have HK6 := Lib.hid (HK5.out.trans (KeepA.of_below (Pb := Pb) hb6))
                  have HJ6 := Lib.hid (HJ.out _ _ _ HJ5.out (grown_of_below hb6))
                  clear hb6 HK5 HJ5 x_0 x_1 x_2 x_3 x_4 x_5 HIY
                  by_cases hy : y ∈ d.lo
                  · have hyb : decide (y ∈ d.lo) = true := decide_eq_true hy
                    have hwl : IntKind.i64.wrap ((lt : Int) + 1) = (lt : Int) + 1 := IntWalk.i64_in _ (by omega)
                    have hwc : IntKind.i64.wrap ((c : Int) + 1) = (c : Int) + 1 := IntWalk.i64_in _ (by omega)
                    replace HST := Lib.hid (by have h := HST.out; rw [if_pos hy] at h; exact h : lateL d.lo (u'.take (c + 1)) = lt + 1)
                    clear hy
                    gi_wp2_with fail
                    go_roundw
                    case rel => exact ⟨c + 1, by go_num, by omega, by rw [HST.out]; go_num, HJ6, HK6⟩
                    case measure => simp [intOf]; omega
                  · have hyb : decide (y ∈ d.lo) = false := decide_eq_false hy
                    have hwc : IntKind.i64.wrap ((c : Int) + 1) = (c : Int) + 1 := IntWalk.i64_in _ (by omega)
                    replace HST := Lib.hid (by have h := HST.out; rw [if_neg hy] at h; exact h : lateL d.lo (u'.take (c + 1)) = lt + 0)
                    clear hy
                    gi_wp2_with fail
                    go_roundw
                    case rel => exact ⟨c + 1, by go_num, by omega, by rw [HST.out]; go_num, HJ6, HK6⟩
                    case measure => simp [intOf]; omega
                · obtain rfl : c = m5 := by omega
                  have hlu : u'.take c = u' := List.take_of_length_le (by rw [HUL.out]; exact Nat.le_refl _)
                  rw [hlu] at *
                  have hlt : lateL d.lo u' ≤ c := Nat.le_trans (lateL_le _ _) (by rw [HUL.out]; exact Nat.le_refl _)
                  have hcq : c ≤ 64 := by omega
                  generalize lateL d.lo u' = lt at *
                  have hw5 : IntKind.i64.wrap ((nh : Int) + 1 + lt) = (nh : Int) + 1 + lt := IntWalk.i64_in _ (by omega)
                  gi_wp2_with fail
                  have HALL := Lib.hid (fun v (h : KeepA Pb Wb v) => (⟨(HBX.out v h).1, (HBX.out v h).2.1, (HBX.out v h).2.2.1, (HBX.out v h).2.2.2.1, (HBX.out v h).2.2.2.2.1, (HBX.out v h).2.2.2.2.2, HXC.out v h⟩ : v.cell? ⟨W.heap.size, 0, none⟩ = some (.bool true) ∧ v.cell? ⟨W.heap.size, 1, none⟩ = some (.slice Ar 0 cr) ∧ v.cell? ⟨W.heap.size, 2, none⟩ = some (.slice Al nl cl) ∧ v.cell? ⟨W.heap.size, 3, none⟩ = some (.slice (some adu) nu cu) ∧ v.cell? ⟨W.heap.size, 4, none⟩ = some (.int .i64 least) ∧ v.cell? ⟨W.heap.size, 5, none⟩ = some (.int .i64 most) ∧ v.cell? (adu.add q) = some (.int .i64 x)))
                  clear x_0 x_1 x_2 x_3 x_4 x_5
                  have hixu := fun W => indexI_at adu nu cu (q : Nat) (by omega) W
                  simp only [Int.toNat_natCast] at hixu
                  by_cases hg : (nh : Int) + 1 + lt ≤ most
                  · have hgb : decide ((nh : Int) + 1 + lt ≤ most) = true := decide_eq_true hg
                    replace HXX := Lib.hid (by have h := HXX.out; rw [if_pos hg, ← List.append_assoc] at h; exact h : (xs.map Prod.snd ++ walkL d (head ++ [x]) u') ++ (if x ∈ d.lo then [] else loopL d head u') = T)
                    have HNX : Hid ((pre ++ xs).length + (walkL d (head ++ [x]) u').length ≤ N) := Lib.hid (by
                      have h := HNN.out
                      rw [← HXX.out] at h
                      simp only [List.length_append, List.length_map] at h ⊢
                      omega)
                    generalize walkL d (head ++ [x]) u' = X at *
                    have hKd : KeepA Pb Wb wr.drew := HK5.out.trans (KeepA.of_below ((Below.refl _ _).drew))
                    have hbA : Below wr.heap.size wr ((wr.alloc (.cells #[.int .i64 x] 2)).drew) := ((Below.refl _ wr).alloc (Nat.le_refl _) _).drew
                    have hKa : KeepA Pb Wb ((wr.alloc (.cells #[.int .i64 x] 2)).drew) := HK5.out.trans (KeepA.of_below hbA)
                    have HJA := Lib.hid (HJ.out _ _ _ HJ5.out (grown_of_below hbA))
                    have HKA := Lib.hid hKa
                    have HHC : Hid (∀ b, Ah = some b → ∀ j u, (intsV head)[j]? = some u → (wr.alloc (.cells #[.int .i64 x] 2)).drew.cell? (b.add j) = some u) := Lib.hid (fun b hb j u hj => by
                      have h := (HVH.out.keep hKa).1
                      rw [intsV_at] at hj
                      have hjl : j < head.length := by
                        rcases Nat.lt_or_ge j head.length with h | h
                        · exact h
                        · rw [List.getElem?_eq_none h] at hj; cases hj
                      obtain ⟨ad2, hA2, hc2⟩ := h.at j hjl
                      rw [hb] at hA2
                      injection hA2 with hA2
                      subst hA2
                      rw [List.getElem?_eq_getElem hjl] at hj
                      simp only [Option.map_some, Option.some.injEq] at hj
                      rw [← hj]
                      exact hc2)
                    have hAn : Ah = none → nh = 0 ∧ nh = 0 := fun h => by
                      obtain ⟨A9, c9, e9, hC9, _⟩ := HVH.out.1
                      injection e9 with e91 e92 e93
                      subst e91
                      refine Classical.byContradiction fun hz => ?_
                      obtain ⟨ad, e, _⟩ := hC9.2.2 (by omega)
                      rw [h] at e
                      cases e
                    obtain ⟨i0, hi0, hz0, hz1, hz2⟩ := info_parts infoI
                    have hilen : (intsV head).length = nh * 1 := by rw [intsV_len, HNH.out, Nat.mul_one]
                    have hPw : ∀ b, Pb b → b < ((wr.alloc (.cells #[.int .i64 x] 2)).drew).heap.size := fun b hb => by
                      have := HPB.out b hb
                      have := HK5.out.1
                      have := hbA.size
                      omega
                    clear hKa hbA hg
                    have hKa := HKA.out
                    have HWK := Lib.hid (fun (v9 : Value) (w9 : World) (h : w9.ownsRow (wr.alloc (.cells #[.int .i64 x] 2)).drew.heap.size 2 1 v9 (nh + 1) (intsV head ++ [Value.int .i64 x]) ∧ (wr.alloc (.cells #[.int .i64 x] 2)).drew.grownBy w9 none) =>
                      have k9 : KeepA Pb Wb w9 := HKA.out.trans (KeepA.of_below (below_of_grown h.2))
                      (HIQ.out (pre ++ xs) w9 v9 (stay_row h.1 HNH.out hPw) (HVL.out.keep k9) (HVU.out.keep k9) (HJ.out _ _ _ HJA.out h.2) (by have := k9.1; omega) HNX.out).mono (fun e w10 (⟨b, e1, k1, p1⟩ : WalkR _ _ _ _ _ _ _ _) => (⟨b, e1, k9.trans k1, p1⟩ : ∃ b, e = Ending.returned (.bool b) ∧ KeepA Pb Wb w10 ∧ WalkP J Jx X (pre ++ xs) b w10)))
                    refine wpIn_wide.2 ?_
                    go_region_held3 (fun v => v.cell? ⟨W.heap.size, 0, none⟩ = some (.bool true) ∧ v.cell? ⟨W.heap.size, 1, none⟩ = some (.slice Ar 0 cr) ∧ v.cell? ⟨W.heap.size, 2, none⟩ = some (.slice Al nl cl) ∧ v.cell? ⟨W.heap.size, 3, none⟩ = some (.slice (some adu) nu cu) ∧ v.cell? ⟨W.heap.size, 4, none⟩ = some (.int .i64 least) ∧ v.cell? ⟨W.heap.size, 5, none⟩ = some (.int .i64 most) ∧ v.cell? (adu.add q) = some (.int .i64 x))
                      (first | with_reducible exact HALL.out _ HK10.out | with_reducible exact HALL.out _ HK9.out | with_reducible exact HALL.out _ hKa | with_reducible exact HALL.out _ hKd)
                      (first
                        | ((with_reducible refine gate_append (.tmp 77) (.tmp 83) 50 rfl ?_); refine step_append_grows (by rfl) (.tmp 77) (.tmp 83) 50 rfl 2 i0 (.int .i64 0) 1 8 Tryz.underlying50 hi0 hz0 hz1 hz2 rfl (by decide) Ah nh nh (intsV head) rfl hAn hilen HHC.out ⟨wr.heap.size, 0, none⟩ 1 1 [.int .i64 x] rfl rfl (cell_one_at _ _ rfl _ _) (by simp [Value.oneCell']) (by omega) (by simp only [maxLen]; omega) (by omega) ?_; intro v9 w9 hown9 hg9; have HK9 := Lib.hid (HKA.out.trans (KeepA.of_below (Pb := Pb) (below_of_grown hg9))); have HO9 := Lib.hid (⟨hown9, hg9⟩ : _ ∧ _); clear hown9 hg9)
                        | (go_at_call 172; refine (clipI_calls Ah nh ch (by omega) hch _).mono ?_; rintro e wc ⟨rfl, rfl⟩)
                        | (go_at_call 121; with_reducible refine Calls.mono (HWK.out v9 w9 HO9.out) ?_; rintro e w10 ⟨b, rfl, hk10, hp10⟩; have HK10 := Lib.hid hk10; have HP10 := Lib.hid hp10; clear hk10 hp10))
                    all_goals
                      cases b with
                      | false =>
                        obtain ⟨ys, ⟨h, _⟩ | ⟨_, hp, hj⟩⟩ := HP10.out
                        · cases h
                        have HJX : Hid (Jx (pre ++ (xs ++ ys)) w10) := Lib.hid (by rw [← List.append_assoc]; exact hj)
                        have HPX : Hid ((xs ++ ys).map Prod.snd <+: T) := Lib.hid (by
                          rw [← HXX.out, List.map_append, List.append_assoc]
                          obtain ⟨t, ht⟩ := hp
                          rw [← ht]
                          exact ⟨t ++ (if x ∈ d.lo then [] else loopL d head u'), by simp only [List.append_assoc]⟩)
                        clear hp hj HP10
                        gi_wp2_with fail
                        go_ret
                        exact WalkR.no (xs ++ ys) (HKB.out.trans HK10.out) HPX.out HJX.out
                      | true =>
                        obtain ⟨ys, ⟨_, hp, hj⟩ | ⟨h, _⟩⟩ := HP10.out
                        case inr => cases h
                        obtain ⟨zs, hzs⟩ : ∃ zs, xs ++ ys = zs := ⟨_, rfl⟩
                        have HJ10 : Hid (J (pre ++ zs) w10) := Lib.hid (by rw [← hzs, ← List.append_assoc]; exact hj)
                        have HZ : Hid (zs.map Prod.snd ++ (if x ∈ d.lo then [] else loopL d head u') = T) := Lib.hid (by rw [← HXX.out, ← hzs, List.map_append, hp])
                        clear hp hj HP10 hzs HXX hKa hKd HKA HK9 HWK HO9
                        gi_wp2_with fail
                        have hK11 : KeepA Pb Wb w10.drew := HK10.out.trans (KeepA.of_below ((Below.refl _ _).drew))
                        have HJ11 := Lib.hid (HJ.out _ _ _ HJ10.out (grown_of_below ((Below.refl w10.heap.size w10).drew)))
                        have hin : inS x d.lo = decide (x ∈ d.lo) := by unfold inS; rw [HLO.out]
                        have HIX := HIN.out w10.drew hK11 x
                        obtain ⟨bx, hbx⟩ : ∃ bx, decide (x ∈ d.lo) = bx := ⟨_, rfl⟩
                        rw [hin, hbx] at HIX
                        have HBQ := Lib.hid hbx
                        clear hbx
                        replace HIX := Lib.hid HIX
                        clear hin
                        have HAL3 := Lib.hid (fun v (h : KeepA Pb Wb v) => (⟨(HBX.out v h).2.2.1, (HBX.out v h).2.2.2.1, HXC.out v h⟩ : v.cell? ⟨W.heap.size, 2, none⟩ = some (.slice Al nl cl) ∧ v.cell? ⟨W.heap.size, 3, none⟩ = some (.slice (some adu) nu cu) ∧ v.cell? (adu.add q) = some (.int .i64 x)))
                        refine wpIn_wide.2 ?_
                        go_region_held3 (fun v => v.cell? ⟨W.heap.size, 2, none⟩ = some (.slice Al nl cl) ∧ v.cell? ⟨W.heap.size, 3, none⟩ = some (.slice (some adu) nu cu) ∧ v.cell? (adu.add q) = some (.int .i64 x))
                          (first | with_reducible exact HAL3.out _ HK12.out | with_reducible exact HAL3.out _ hK11)
                          (first
                            | (go_at_call 64; with_reducible refine Calls.mono HIX.out ?_; rintro e w12 ⟨rfl, hb12⟩; have HK12 := Lib.hid (hK11.trans (KeepA.of_below (Pb := Pb) hb12)); have HJ12 := Lib.hid (HJ.out _ _ _ HJ11.out (grown_of_below hb12)); clear hb12))
                        cases bx with
                        | true =>
                          have hx2 := of_decide_eq_true HBQ.out
                          have HZ2 : Hid (zs.map Prod.snd = T) := Lib.hid (by have h := HZ.out; rw [if_pos hx2, List.append_nil] at h; exact h)
                          clear hx2 HZ HBQ
                          gi_wp2_with fail
                          go_ret
                          exact WalkR.yes zs (HKB.out.trans HK12.out) HZ2.out HJ12.out
                        | false =>
                          have hx2 := of_decide_eq_false HBQ.out
                          have HZ2 : Hid (zs.map Prod.snd ++ loopL d head (d.up.drop (q + 1)) = T) := Lib.hid (by have h := HZ.out; rw [if_neg hx2] at h; rw [HUP.out]; exact h)
                          clear hx2 HZ HBQ
                          gi_wp2_with fail
                          go_roundw
                          case rel => exact ⟨q + 1, zs, by go_num, by omega, by omega, HZ2, HJ12, HK12⟩
                          case measure => simp [intOf]; omega
                  · have hgb : decide ((nh : Int) + 1 + lt ≤ most) = false := decide_eq_false hg
                    have hzs : True := trivial
                    have HZ : Hid (xs.map Prod.snd ++ (if x ∈ d.lo then [] else loopL d head u') = T) := Lib.hid (by have h := HXX.out; rw [if_neg hg, List.nil_append] at h; exact h)
                    clear hzs
                    clear hg HXX
                    obtain ⟨x_0, x_1, x_2, x_3, x_4, x_5⟩ := HBX.out _ HK5.out
                    refine wpIn_wide.2 ?_
                    go_quiet (fail)
                    clear x_0 x_1 x_2 x_3 x_4 x_5
                    have hbq : Below wr.heap.size wr (wr.drewN nq) := pw_below_drewN (Below.refl _ _) nq
                    have HK10 := Lib.hid (HK5.out.trans (KeepA.of_below (Pb := Pb) hbq))
                    have HJ10 := Lib.hid (HJ.out _ _ _ HJ5.out (grown_of_below hbq))
                    clear hbq
                    generalize wr.drewN nq = w10 at *

                    gi_wp2_with fail
                    have hK11 : KeepA Pb Wb w10.drew := HK10.out.trans (KeepA.of_below ((Below.refl _ _).drew))
                    have HJ11 := Lib.hid (HJ.out _ _ _ HJ10.out (grown_of_below ((Below.refl w10.heap.size w10).drew)))
                    have hin : inS x d.lo = decide (x ∈ d.lo) := by unfold inS; rw [HLO.out]
                    have HIX := HIN.out w10.drew hK11 x
                    obtain ⟨bx, hbx⟩ : ∃ bx, decide (x ∈ d.lo) = bx := ⟨_, rfl⟩
                    rw [hin, hbx] at HIX
                    have HBQ := Lib.hid hbx
                    clear hbx
                    replace HIX := Lib.hid HIX
                    clear hin
                    have HAL3 := Lib.hid (fun v (h : KeepA Pb Wb v) => (⟨(HBX.out v h).2.2.1, (HBX.out v h).2.2.2.1, HXC.out v h⟩ : v.cell? ⟨W.heap.size, 2, none⟩ = some (.slice Al nl cl) ∧ v.cell? ⟨W.heap.size, 3, none⟩ = some (.slice (some adu) nu cu) ∧ v.cell? (adu.add q) = some (.int .i64 x)))
                    refine wpIn_wide.2 ?_
                    go_region_held3 (fun v => v.cell? ⟨W.heap.size, 2, none⟩ = some (.slice Al nl cl) ∧ v.cell? ⟨W.heap.size, 3, none⟩ = some (.slice (some adu) nu cu) ∧ v.cell? (adu.add q) = some (.int .i64 x))
                      (first | with_reducible exact HAL3.out _ HK12.out | with_reducible exact HAL3.out _ hK11)
                      (first
                        | (go_at_call 64; with_reducible refine Calls.mono HIX.out ?_; rintro e w12 ⟨rfl, hb12⟩; have HK12 := Lib.hid (hK11.trans (KeepA.of_below (Pb := Pb) hb12)); have HJ12 := Lib.hid (HJ.out _ _ _ HJ11.out (grown_of_below hb12)); clear hb12))
                    cases bx with
                    | true =>
                      have hx2 := of_decide_eq_true HBQ.out
                      have HZ2 : Hid (xs.map Prod.snd = T) := Lib.hid (by have h := HZ.out; rw [if_pos hx2, List.append_nil] at h; exact h)
                      clear hx2 HZ HBQ
                      gi_wp2_with fail
                      go_ret
                      exact WalkR.yes xs (HKB.out.trans HK12.out) HZ2.out HJ12.out
                    | false =>
                      have hx2 := of_decide_eq_false HBQ.out
                      have HZ2 : Hid (xs.map Prod.snd ++ loopL d head (d.up.drop (q + 1)) = T) := Lib.hid (by have h := HZ.out; rw [if_neg hx2] at h; rw [HUP.out]; exact h)
                      clear hx2 HZ HBQ
                      gi_wp2_with fail
                      go_roundw
                      case rel => exact ⟨q + 1, xs, by go_num, by omega, by omega, HZ2, HJ12, HK12⟩
                      case measure => simp [intOf]; omega
            · have hlb : decide (least ≤ (nh : Int) + nu - q) = false := decide_eq_false hle
              have HX' : Hid (xs.map Prod.snd = T) := Lib.hid (by
                have h := HX.out
                have hqu : q < d.up.length := by rw [HNU.out]; exact hqn
                rw [List.drop_eq_getElem_cons hqu, loop_walk, if_neg (by rw [List.length_drop, HNH.out, HLE.out, HNU.out]; omega), List.append_nil] at h
                exact h)
              gi_wp2_with fail
              go_ret
              exact WalkR.yes xs (HKB.out.trans HKR.out) HX'.out HJR.out
          · have hqb : decide ((q : Int) < nu) = false := decide_eq_false (by omega)
            have HX' : Hid (xs.map Prod.snd = T) := Lib.hid (by
              have h := HX.out
              rw [List.drop_eq_nil_of_le (by rw [HNU.out]; omega)] at h
              unfold loopL at h
              rw [List.append_nil] at h
              exact h)
            gi_wp2_with fail
            go_ret
            exact WalkR.yes xs (HKB.out.trans HKR.out) HX'.out HJR.out

end Go.Proofs.YtjeomiooheoegaaGreatDoor.PD

namespace Go.Proofs.YtjeomiooheoegaaGreatDoor.PD
open Go.RowKit Go.Proofs.YtjeomiooheoegaaGreatDoorW.PrintWords Go.Proofs.YtjeomiooheoegaaGreatDoorW.PrintLast Go.Proofs.YtjeomiooheoegaaGreatDoorW.PrintMore
set_option linter.unusedVariables false
set_option linter.unusedSimpArgs false
/-! ### Each's iterator -/
set_option maxRecDepth 100000 in
set_option maxHeartbeats 8000000 in
theorem sets_each_stops (n : Nat) (hn : 1 ≤ n) (g : Nat) (d : DomD) (w : World) (Pb : Nat → Prop) (Ar : Option Addr) (nr cr : Nat) (vl vu : Value) (hbx : BoxD w g d.set (.slice Ar nr cr) vl vu d.least d.most) (hr : Lst w (.slice Ar nr cr) d.r) (hl : StayI Pb w vl d.lo) (hu : StayI Pb w vu d.up)
    (hl1 : d.lo.length ≤ 9000000000000000) (hl2 : d.up.length ≤ 9000000000000000) (hPb : ∀ b, Pb b → b < w.heap.size) :
    SeqStopsQ Fence.wide n Tryz.prog 120 #[.pointer (some ⟨g, 0, none⟩)] (fun x : Value × List Int => #[x.1]) (fun x W => RowI W w.heap.size x.1 x.2) (KeepX Pb)
      (fun xs => xs.map Prod.snd = allD d) (fun pre => pre.map Prod.snd <+: allD d) (allD d).length w := fun lo J Jx W hW hJ hJx hY h0 => by
  have HJ := Lib.hid (fun pre A B (h : J pre A) (hg : A.grownBy B none) => hJ pre A B none h hg (fun r e => by cases e))
  have HY : Hid (YieldsW lo J Jx Pb w.heap.size (allD d).length) := Lib.hid (fun m pre x W1 h1 h2 h3 => by
    obtain ⟨fn, tmps, assign, body, q1, q2⟩ := yield_wide (m' := m) (hY pre x W1 h1 h2 h3)
    refine ⟨fn, tmps, assign, body, q1, RoundIn.mono q2 ?_⟩
    rintro e W' (⟨rfl, k1, k2⟩ | ⟨rfl, k1, k2⟩)
    · exact ⟨true, rfl, k2, .inl ⟨rfl, k1⟩⟩
    · exact ⟨false, rfl, k2, .inr ⟨rfl, k1⟩⟩)
  have hbW := hbx.below hW
  obtain ⟨x_0, x_1, x_2, x_3, x_4, x_5⟩ := hbW.cells
  have HBX := Lib.hid (fun v (h : Below W.heap.size W v) => (hbW.below h).cells)
  have HL := Lib.hid (hl.keep (KeepA.of_below (Pb := Pb) hW)); have HU := Lib.hid (hu.keep (KeepA.of_below (Pb := Pb) hW))
  have HE := Lib.hid (Empty_calls d W ⟨_, _, _, rfl, hr.below hW, HL.out.1, HU.out.1⟩ hl1 hl2)
  have HWK := Lib.hid (fun (he : emptyD d = false) (hr0 : Lst w (.slice Ar 0 cr) []) W' (hB : Below W.heap.size W W') => walk_calls d he Ar cr vl vu hr0.stay0 HJ HY hPb d.up.length 0 [] (by omega) (by omega) (Nat.le_refl _) [] W' (.slice none 0 0) (StayI.nil _ _) (HL.out.keep (KeepA.of_below hB)) (HU.out.keep (KeepA.of_below hB)) (HJ.out _ _ _ h0 (grown_of_below hB)) (Nat.le_trans hW.size hB.size))
  have hr1 := hr
  obtain ⟨Al, cl, el, -, -⟩ := hl.1
  subst el
  obtain ⟨Au, cu, eu, -, -⟩ := hu.1
  subst eu
  obtain ⟨b1, hb1⟩ : ∃ b, emptyD d = b := ⟨_, rfl⟩
  have H0 := Lib.hid h0
  have HJX := Lib.hid hJ
  refine callsIn_of_wp Tryz.func120 rfl trivial ?_ rfl
  simp only [Tryz.ntmps120, List.size_toArray, List.length_cons, List.length_nil, Nat.reduceAdd, Nat.reduceSub, Array.replicate_succ, Array.replicate_zero, List.push_toArray, List.append_toArray, List.nil_append, List.cons_append]
  clear hJ hJx hY h0 hbx hl hu hW hl1 hl2 hPb
  cases b1 with
  | true =>
    rw [hb1] at HE
    have HA : allD d = [] := by unfold allD; rw [if_pos hb1]
    rw [HA]
    clear HWK HY HA hr hr1
    gi_wp2_with fail
    refine ⟨trivial, ?_⟩
    refine (callsIn_wide.2 HE.out).mono ?_
    rintro e w1 ⟨rfl, hb2⟩
    have HJ1 := Lib.hid (HJ.out _ _ _ H0.out (grown_of_below hb2))
    clear hb2
    gi_wp2_with fail
    go_end0
    exact ⟨⟨_, rfl⟩, .inl ⟨[], rfl, HJ1.out⟩⟩
  | false =>
    obtain ⟨f1, f2, f3, f4, f5, f6, f7, f8⟩ := full_of hb1
    have hn0 : nr = 0 := by
      rw [f2] at hr
      obtain ⟨Ar2, cr2, er, _, _⟩ := hr
      injection er
    subst hn0
    rw [f2] at hr1
    rw [hb1] at HE
    rw [f1] at HE HBX x_0
    have HA : allD d = walkL d [] (d.up.drop 0) := by unfold allD; rw [if_neg (by rw [hb1]; exact Bool.false_ne_true), List.drop_zero]
    have HWW := Lib.hid (fun W' hB => HWK.out hb1 hr1 W' hB (by rw [HA]; simp))
    rw [HA]
    generalize walkL d [] (d.up.drop 0) = T at *
    generalize d.lo.length = nl at *
    generalize d.up.length = nu at *
    generalize d.least = least at *
    generalize d.most = most at *
    clear HWK HY HA hr hr1 f1 f2 f3 f4 f5 f6 f7 f8 hb1
    gi_wp2_with fail
    refine ⟨trivial, ?_⟩
    refine (callsIn_wide.2 HE.out).mono ?_
    rintro e w1 ⟨rfl, hb2⟩
    have HB := Lib.hid hb2
    clear x_0 x_1 x_2 x_3 x_4 x_5 hb2
    obtain ⟨x_0, x_1, x_2, x_3, x_4, x_5⟩ := HBX.out _ HB.out
    gi_wp2_with fail
    refine ⟨trivial, ?_⟩
    refine (callsIn_wide.2 (HWW.out w1 HB.out)).mono ?_
    rintro e w2 ⟨b, rfl, hk, xs, hx⟩
    have HX := Lib.hid hx
    clear hx hk
    gi_wp2_with fail
    go_end0
    refine ⟨⟨_, rfl⟩, ?_⟩
    obtain ⟨_, h1, h2⟩ | ⟨_, h1, h2⟩ := HX.out
    · exact .inl ⟨xs, h1, h2⟩
    · exact .inr ⟨xs, h1, h2⟩

end Go.Proofs.YtjeomiooheoegaaGreatDoor.PD
