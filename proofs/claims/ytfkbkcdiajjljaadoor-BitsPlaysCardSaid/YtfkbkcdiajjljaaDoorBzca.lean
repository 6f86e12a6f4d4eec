/- Parts of the laws of bits: functions of the program, each with the proof of what it answers; the conditions are those of each theorem. -/
import Derived.Test.YtfkbkcdiajjljaaDoorBu
namespace Go.Proofs.YtfkbkcdiajjljaaDoor.PBitsSteps
open Go.RowKit Go.Proofs.YtfkbkcdiajjljaaDoorW.PrintWords Go.Proofs.YtfkbkcdiajjljaaDoorW.PrintLast Go.Proofs.YtfkbkcdiajjljaaDoorW.PrintMore
set_option linter.unusedVariables false
set_option linter.unusedSimpArgs false
/-! ### the reference's set: a block of two cells (the first value, and the truths), as the values it has -/
def refB (f : Int) (ql n c : Nat) : Obj := .cells #[.int .i64 f, .slice (some ⟨ql, 0, none⟩) n c] 48 (0, 0)
def refP (q : Nat) : Value := .pointer (some ⟨q, 0, none⟩)
theorem refB_first {w : World} {q : Nat} {f : Int} {ql n c : Nat} (h : w.heap[q]? = some (refB f ql n c)) : w.cell? ⟨q, 0, none⟩ = some (.int .i64 f) := (blk_cell h 0).trans rfl
theorem refB_row {w : World} {q : Nat} {f : Int} {ql n c : Nat} (h : w.heap[q]? = some (refB f ql n c)) : w.cell? ⟨q, 1, none⟩ = some (.slice (some ⟨ql, 0, none⟩) n c) := (blk_cell h 1).trans rfl
def RefAt (w : World) (q ql : Nat) (f r : Int) (M : Int → Bool) : Prop :=
  ∃ c cs, w.heap[q]? = some (refB f ql r.toNat c) ∧ w.heap[ql]? = some (.cells cs 4 (0, 0)) ∧ q ≠ ql ∧ (∀ i : Nat, (i : Int) < r → cs[i]? = some (.bool (M (f + i)))) ∧ r.toNat ≤ c ∧ (0 < r ∧ r ≤ 65536 ∧ -1000000 ≤ f ∧ f + r ≤ 1000001) ∧ ∀ v, M v = true → f ≤ v ∧ v < f + r
theorem RefAt.keep {w w' : World} {q ql : Nat} {f r : Int} {M : Int → Bool} (h : RefAt w q ql f r M) (h1 : w'.heap[q]? = w.heap[q]?) (h2 : w'.heap[ql]? = w.heap[ql]?) : RefAt w' q ql f r M := by
  obtain ⟨c, cs, a, b, d⟩ := h
  exact ⟨c, cs, h1.trans a, h2.trans b, d⟩
theorem RefAt.lt {w : World} {q ql : Nat} {f r : Int} {M : Int → Bool} (h : RefAt w q ql f r M) : q < w.heap.size ∧ ql < w.heap.size ∧ q ≠ ql := by
  obtain ⟨c, cs, a, b, d, _⟩ := h
  exact ⟨blk_lt a, blk_lt b, d⟩
theorem RefAt.below {w w' : World} {q ql : Nat} {f r : Int} {M : Int → Bool} (h : RefAt w q ql f r M) (hb : Below w.heap.size w w') : RefAt w' q ql f r M :=
  h.keep (hb.block q h.lt.1) (hb.block ql h.lt.2.1)
theorem Tryd.info4 : (Tryd.prog.info? 4).map (fun i => (i.zero, i.size, i.bytes)) = some (some (.bool false), 1, 1) := by kernel_rfl
set_option maxHeartbeats 8000000 in
theorem refNew_raw (lo hi : Int) (w : World) (h1 : -1000000 ≤ lo) (h2 : hi ≤ 1000000) (h3 : lo ≤ hi) (h4 : hi - lo < 65536) :
    Calls Tryd.prog 18 #[.int .i64 lo, .int .i64 hi] w fun e w' => e = .returned (.tuple #[refP (w.heap.size + 1), .int .i64 0]) ∧ w' = (w.alloc (.cells (madeCells #[.bool false] (hi - lo + 1).toNat) 4)).alloc (.cells #[.int .i64 lo, .slice (some ⟨w.heap.size, 0, none⟩) (hi - lo + 1).toNat (hi - lo + 1).toNat] 48) := by
  have e1 : wrap64 (hi - lo) = hi - lo := IntWalk.wrap64_in _ (by omega)
  have e2 : wrap64 (hi - lo + 1) = hi - lo + 1 := IntWalk.wrap64_in _ (by omega)
  have b1 := decide_eq_false (show ¬ lo < -1000000 by omega)
  have b2 := decide_eq_false (show ¬ hi > 1000000 by omega)
  have b3 := decide_eq_false (show ¬ lo > hi by omega)
  have b4 := decide_eq_false (show ¬ 65536 ≤ hi - lo by omega)
  obtain ⟨i, hi1, hz, hs, hby⟩ := info_parts Tryd.info4
  have hmk := run_make (P := Tryd.prog) w 46 4 i _ Tryd.underlying46 hi1 hz .i64 .i64 (hi - lo + 1) (hi - lo + 1) (by omega) (by omega) (by rw [hby]; omega) (by omega)
  rw [hs, Nat.mul_one] at hmk
  have hmk2 : (Instr.makeSlice 46 (.int .i64 (hi - lo + 1)) (.int .i64 (hi - lo + 1))).run Tryd.prog w = .ok (.slice (some ⟨w.heap.size, 0, none⟩) (hi - lo + 1).toNat (hi - lo + 1).toNat) (w.alloc (.cells (madeCells #[.bool false] (hi - lo + 1).toNat) 4)) := hmk
  have HM := Lib.hid hmk2
  clear hmk hmk2 hi1 hz hs hby
  go_enter Tryd.func18, Tryd.ntmps18
  go_wp2_with fail
  rw [HM.out]
  go_wp2_with fail
  go_ret2
  exact ⟨rfl, rfl⟩
theorem made_one (v : Value) (k i : Nat) (h : i < k) : (madeCells #[v] k)[i]? = some v := by
  have h2 : i < (madeCells #[v] k).size := by rw [size_madeCells]; exact h
  rw [Array.getElem?_eq_getElem h2]
  simp [madeCells, Nat.mod_one]
set_option maxHeartbeats 8000000 in
theorem refNew_full (lo hi : Int) (w : World) (h1 : -1000000 ≤ lo) (h2 : hi ≤ 1000000) (h3 : lo ≤ hi) (h4 : 65536 ≤ hi - lo) :
    Calls Tryd.prog 18 #[.int .i64 lo, .int .i64 hi] w fun e w' => e = .returned (.tuple #[.pointer none, .int .i64 4]) ∧ w' = w := by
  have e1 : wrap64 (hi - lo) = hi - lo := IntWalk.wrap64_in _ (by omega)
  have b1 := decide_eq_false (show ¬ lo < -1000000 by omega)
  have b2 := decide_eq_false (show ¬ hi > 1000000 by omega)
  have b3 := decide_eq_false (show ¬ lo > hi by omega)
  have b4 := decide_eq_true h4
  go_enter Tryd.func18, Tryd.ntmps18
  go_wp2_with fail
  go_ret2
  exact ⟨rfl, rfl⟩
set_option maxHeartbeats 8000000 in
theorem refNew_bad (lo hi : Int) (w : World) (h : lo < -1000000 ∨ hi > 1000000 ∨ lo > hi) :
    Calls Tryd.prog 18 #[.int .i64 lo, .int .i64 hi] w fun e w' => e = .returned (.tuple #[.pointer none, .int .i64 20]) ∧ w' = w := by
  by_cases c1 : lo < -1000000
  · go_enter Tryd.func18, Tryd.ntmps18
    go_wp2_with fail
    go_ret2
    exact ⟨rfl, rfl⟩
  · have b1 := decide_eq_false c1
    by_cases c2 : hi > 1000000
    · go_enter Tryd.func18, Tryd.ntmps18
      go_wp2_with fail
      go_ret2
      exact ⟨rfl, rfl⟩
    · have b2 := decide_eq_false c2
      have c3 : lo > hi := by omega
      go_enter Tryd.func18, Tryd.ntmps18
      go_wp2_with fail
      go_ret2
      exact ⟨rfl, rfl⟩
set_option maxHeartbeats 4000000 in
theorem refFits (q : Nat) (f : Int) (ql n c : Nat) (v : Int) (w : World) (h : w.heap[q]? = some (refB f ql n c)) (hf : -1000000 ≤ f ∧ f ≤ 1000000) (hn : n ≤ 65536) :
    Calls Tryd.prog 53 #[refP q, .int .i64 v] w fun e w' => e = .returned (.bool (decide (f ≤ v ∧ v < f + n))) ∧ Drawn0 w w' := by
  have c0 := refB_first h; have c1 := refB_row h
  have e1 : wrap64 (f + n) = f + n := IntWalk.wrap64_in _ (by omega)
  have e2 : wrap64 (f + n - 1) = f + n - 1 := IntWalk.wrap64_in _ (by omega)
  unfold refP
  by_cases h1 : f ≤ v
  · by_cases h2 : v ≤ f + n - 1
    · rw [decide_eq_true (show f ≤ v ∧ v < f + n by omega)]
      have b1 := decide_eq_true h1; have b2 := decide_eq_true h2
      go_enter Tryd.func53, Tryd.ntmps53
      go_wp2_with fail
      go_quiet (fail)
      go_wp2_with fail
      go_ret
      exact ⟨rfl, ⟨⟨_, rfl⟩⟩⟩
    · rw [decide_eq_false (show ¬ (f ≤ v ∧ v < f + n) by omega)]
      have b1 := decide_eq_true h1; have b2 := decide_eq_false h2
      go_enter Tryd.func53, Tryd.ntmps53
      go_wp2_with fail
      go_quiet (fail)
      go_wp2_with fail
      go_ret
      exact ⟨rfl, ⟨⟨_, rfl⟩⟩⟩
  · rw [decide_eq_false (show ¬ (f ≤ v ∧ v < f + n) by omega)]
    have b1 := decide_eq_false h1
    have h1c := eq_false h1
    have h1d : v < f := by omega
    go_enter Tryd.func53, Tryd.ntmps53
    go_wp2_with fail
    go_quiet (fail)
    go_wp2_with fail
    go_ret
    exact ⟨rfl, ⟨⟨_, rfl⟩⟩⟩

theorem RefAt.new (lo hi : Int) (w : World) (h1 : -1000000 ≤ lo) (h2 : hi ≤ 1000000) (h3 : lo ≤ hi) (h4 : hi - lo < 65536) :
    Calls Tryd.prog 18 #[.int .i64 lo, .int .i64 hi] w fun e w' => ∃ q ql, e = .returned (.tuple #[refP q, .int .i64 0]) ∧ (w.heap.size ≤ q ∧ w.heap.size ≤ ql) ∧ RefAt w' q ql lo (hi - lo + 1) (fun _ => false) ∧ Below w.heap.size w w' := by
  refine (refNew_raw lo hi w h1 h2 h3 h4).mono ?_
  rintro e w' ⟨rfl, rfl⟩
  refine ⟨w.heap.size + 1, w.heap.size, rfl, ⟨by omega, by omega⟩, ⟨(hi - lo + 1).toNat, madeCells #[.bool false] (hi - lo + 1).toNat, ?_, ?_, by omega, ?_, Nat.le_refl _, by omega, fun v hv => by cases hv⟩, ?_⟩
  · have := World.alloc_heap_new (w.alloc (.cells (madeCells #[Value.bool false] (hi - lo + 1).toNat) 4)) (.cells #[.int .i64 lo, .slice (some ⟨w.heap.size, 0, none⟩) (hi - lo + 1).toNat (hi - lo + 1).toNat] 48)
    rw [World.size_alloc] at this
    exact this
  · exact (Below.heap_alloc _ _ w.heap.size (by rw [World.size_alloc]; omega)).trans (World.alloc_heap_new _ _)
  · intro i hi
    exact made_one _ _ i (by omega)
  · exact ((Below.refl _ _).alloc (Nat.le_refl _) _).alloc (by simp) _
set_option maxHeartbeats 8000000 in
theorem RefAt.has {w : World} {q ql : Nat} {f r : Int} {M : Int → Bool} (h : RefAt w q ql f r M) (v : Int) :
    Calls Tryd.prog 52 #[refP q, .int .i64 v] w fun e w' => e = .returned (.bool (M v)) ∧ Drawn0 w w' := by
  obtain ⟨c, cs, h1, h2, h3, h4, h5, h6, h7⟩ := h
  have c0 := refB_first h1; have c1 := refB_row h1
  have hcf : ∀ m, Calls Tryd.prog 53 #[refP q, .int .i64 v] (w.drewN m) fun e w'' => e = .returned (.bool (decide (f ≤ v ∧ v < f + r.toNat))) ∧ ∃ k, w'' = w.drewN k := fun m =>
    quiet_drawn (refFits q f ql r.toNat c v _ (setB_drawn h1 m) (by omega) (by omega))
  by_cases hv : f ≤ v ∧ v < f + r.toNat
  · have ew : wrap64 (v - f) = v - f := IntWalk.wrap64_in _ (by omega)
    have c3 : w.cell? ⟨ql, (v - f).toNat, none⟩ = some (.bool (M v)) := by
      refine (blk_cell h2 _).trans ((h4 (v - f).toNat (by omega)).trans ?_)
      rw [show f + ((v - f).toNat : Int) = v by omega]
    have hp0 : 0 ≤ v - f := by omega
    have hpn : v - f < (r.toNat : Int) := by omega
    rw [decide_eq_true hv] at hcf
    have HCF := Lib.hid hcf
    clear hcf h1 h2 h4 h7
    generalize M v = b at *
    unfold refP at *
    go_enter Tryd.func52, Tryd.ntmps52
    go_wp2_with fail
    go_quiet (exact HCF.out _)
    go_wp2_with fail
    go_ret
    exact ⟨rfl, ⟨⟨_, rfl⟩⟩⟩
  · have hm : M v = false := by
      cases hm : M v with
      | false => rfl
      | true => exact absurd (h7 v hm) (by omega)
    rw [hm]
    rw [decide_eq_false hv] at hcf
    have HCF := Lib.hid hcf
    clear hcf h1 h2 h4 h7 hm hv
    unfold refP at *
    go_enter Tryd.func52, Tryd.ntmps52
    go_wp2_with fail
    go_quiet (exact HCF.out _)
    go_wp2_with fail
    go_ret
    exact ⟨rfl, ⟨⟨_, rfl⟩⟩⟩

/-! ### the values of the reference's set -/
theorem Tryd.info2 : (Tryd.prog.info? 2).map (fun i => (i.zero, i.size, i.bytes)) = some (some (.int .i64 0), 1, 8) := by kernel_rfl
def ints64 (l : List Int) : List Value := l.map (Value.int .i64)
theorem ints64_len (l : List Int) : (ints64 l).length = l.length := by simp [ints64]
theorem ints64_snoc (l : List Int) (x : Int) : ints64 (l ++ [x]) = ints64 l ++ [.int .i64 x] := by simp [ints64]
set_option maxRecDepth 100000 in
set_option maxHeartbeats 8000000 in
theorem refValues_raw (w : World) (q ql n c : Nat) (f : Int) (M : Int → Bool) (cs : Array Value) (h0 : w.heap[q]? = some (refB f ql n c)) (h : w.heap[ql]? = some (.cells cs 4 (0, 0))) (hcs : ∀ i : Nat, i < n → cs[i]? = some (.bool (M (f + i)))) (hf : -1000000 ≤ f ∧ f ≤ 1000000) (hn : n ≤ 65536) :
    Calls Tryd.prog 28 #[refP q] w fun e w' => ∃ v, e = .returned v ∧ w'.ownsRow w.heap.size 2 1 v (valsTo M f n).length (ints64 (valsTo M f n)) ∧ Below w.heap.size w w' := by
  obtain ⟨i0, hi, hz0, hz1, hz2⟩ := info_parts Tryd.info2
  have H0 := Lib.hid h0; have H := Lib.hid h; have HC := Lib.hid hcs
  have HLT := Lib.hid (show q < w.heap.size ∧ ql < w.heap.size from ⟨blk_lt h0, blk_lt h⟩)
  clear h0 h hcs
  unfold refP
  go_enter Tryd.func28, Tryd.ntmps28
  go_wp2_with fail
  go_loopw [3, 4] (fun o i wr => ∃ k : Nat, i = .int .i64 k ∧ k ≤ n ∧ wr.ownsRow w.heap.size 2 1 o (valsTo M f k).length (ints64 (valsTo M f k)) ∧ Hid (Below w.heap.size w wr))
    (fun _ i _ => n - (intOf i).toNat)
  case atStart => exact ⟨0, rfl, by omega, by simpa [valsTo, ints64] using World.ownsRow_nil _ _ _ _, Lib.hid (Below.refl _ _)⟩
  case round =>
    obtain ⟨k, rfl, hk, hrow, hB⟩ := hrel
    obtain ⟨A, cap, rfl⟩ := row_form hrow
    have h0' := (hB.out.block q HLT.out.1).trans H0.out
    have c0 := refB_first h0'; have c1 := refB_row h0'
    clear h0'
    by_cases hkn : k < n
    · have c3 : wr.cell? ⟨ql, k, none⟩ = some (.bool (M (f + k))) := (blk_cell ((hB.out.block ql HLT.out.2).trans H.out) k).trans (HC.out k hkn)
      have ef : wrap64 (f + (k : Int)) = f + k := IntWalk.wrap64_in _ (by omega)
      have hv := valsTo_succ M f k
      have hlen := valsTo_len M f k
      have HROW := Lib.hid hrow
      clear hrow
      cases hm : M (f + k) with
      | false =>
        rw [hm] at c3 hv
        rw [if_neg (by decide), List.append_nil] at hv
        have HV := Lib.hid hv
        clear hv hm
        generalize hL : valsTo M f k = L at *
        have HL := Lib.hid hL; clear hL
        go_wp2_with fail
        go_roundw
        case rel => exact ⟨k + 1, by go_num, by omega, by rw [HV.out]; exact HROW.out, hB⟩
        case measure => simp [intOf]; omega
      | true =>
        rw [hm] at c3 hv
        rw [if_pos rfl] at hv
        have HV := Lib.hid hv
        clear hv hm
        generalize hL : valsTo M f k = L at *
        have HL := Lib.hid hL; clear hL
        have hsz := hB.out.size
        go_wp2_with ((with_reducible refine gate_dst (N := 29) rfl ?_); refine wpList_append_own _ rfl _ _ 56 rfl w.heap.size 2 i0 _ 1 8 Tryd.underlying56 hi hz0 hz1 hz2 rfl (by decide) _ _ _ rfl (HROW.out.alloc _) ⟨wr.heap.size, 0, none⟩ 1 1 [.int .i64 (f + k)] rfl rfl (cell_one_new _ _ _) (by simp [Value.oneCell']) (by simp only [maxLen]; omega) (by omega) (by simp; omega) ?_; intro v' w' hown' hg hnil; obtain ⟨A', cap', rfl⟩ := row_form hown')
        go_roundw
        case rel =>
          have hBW : Below w.heap.size w w' := (hB.out.alloc hB.out.size _).grown hg (by simp; omega) (fun j e => own_base HROW.out j e)
          exact ⟨k + 1, by go_num, by omega, by rw [HV.out, ints64_snoc, List.length_append]; exact hown', Lib.hid hBW⟩
        case measure => simp [intOf]; omega
    · obtain rfl : k = n := by omega
      have HROW := Lib.hid hrow
      clear hrow
      go_wp2_with fail
      go_ret
      exact ⟨_, rfl, HROW.out, hB.out⟩
theorem RefAt.values {w : World} {q ql : Nat} {f r : Int} {M : Int → Bool} (h : RefAt w q ql f r M) :
    Calls Tryd.prog 28 #[refP q] w fun e w' => ∃ v, e = .returned v ∧ w'.ownsRow w.heap.size 2 1 v (vals M f r).length (ints64 (vals M f r)) ∧ Below w.heap.size w w' := by
  obtain ⟨c, cs, h1, h2, h3, h4, h5, h6, h7⟩ := h
  exact refValues_raw w q ql r.toNat c f M cs h1 h2 (fun i hi => h4 i (by omega)) (by omega) (by omega)

/-! ### the ranges of the reference's set -/
theorem rgStep_end (out : List S71) (v : Int) : ∃ ys s, rgStep out v = ys ++ [s] ∧ s.f1 = v := by
  rcases snoc_cases out with rfl | ⟨ys, s, rfl⟩
  · exact ⟨[], _, rfl, rfl⟩
  · by_cases e : s.f1 + 1 = v
    · exact ⟨_, _, rgStep_hit ys s v e, rfl⟩
    · exact ⟨_, _, rgStep_miss ys s v e, rfl⟩
theorem valsTo_mem (M : Int → Bool) (f : Int) (k : Nat) (x : Int) (h : x ∈ valsTo M f k) : M x = true ∧ f ≤ x ∧ x < f + k := by
  unfold valsTo at h
  rw [List.mem_filter, List.mem_map] at h
  obtain ⟨⟨i, hi, rfl⟩, hm⟩ := h
  rw [List.mem_range] at hi
  exact ⟨hm, by omega, by omega⟩
theorem rg_grow (M : Int → Bool) (f : Int) (k : Nat) (hm : M (f + k) = true) :
    (0 < k ∧ M (f + (k - 1 : Nat)) = true ∧ ∃ ys s, rg (valsTo M f k) = ys ++ [s] ∧ rg (valsTo M f (k + 1)) = ys ++ [⟨s.f0, f + k⟩]) ∨ ((k = 0 ∨ 0 < k ∧ M (f + (k - 1 : Nat)) = false) ∧ rg (valsTo M f (k + 1)) = rg (valsTo M f k) ++ [⟨f + k, f + k⟩]) := by
  have e : valsTo M f (k + 1) = valsTo M f k ++ [f + k] := by rw [valsTo_succ, hm, if_pos rfl]
  rw [e, rg_snoc]
  rcases Nat.eq_zero_or_pos k with rfl | hk
  · exact .inr ⟨.inl rfl, by simp [valsTo, rg, rgStep]⟩
  · obtain ⟨j, rfl⟩ : ∃ j, k = j + 1 := ⟨k - 1, by omega⟩
    rw [Nat.add_sub_cancel]
    cases hp : M (f + j) with
    | true =>
      have e2 : valsTo M f (j + 1) = valsTo M f j ++ [f + j] := by rw [valsTo_succ, hp, if_pos rfl]
      rw [e2, rg_snoc]
      obtain ⟨ys, s, h1, h2⟩ := rgStep_end (rg (valsTo M f j)) (f + j)
      rw [h1]
      exact .inl ⟨by omega, rfl, ys, s, rfl, rgStep_hit ys s _ (by omega)⟩
    | false =>
      refine .inr ⟨.inr ⟨by omega, rfl⟩, ?_⟩
      rcases snoc_cases (valsTo M f (j + 1)) with h1 | ⟨ys, x, h1⟩
      · rw [h1]; rfl
      · have hx := valsTo_mem M f (j + 1) x (by rw [h1]; simp)
        rw [h1, rg_snoc]
        obtain ⟨zs, s, h2, h3⟩ := rgStep_end (rg ys) x
        rw [h2]
        refine rgStep_miss zs s _ ?_
        intro e3
        have : x = f + j := by omega
        rw [this, hp] at hx
        cases hx.1
set_option maxRecDepth 100000 in
set_option maxHeartbeats 16000000 in
theorem refRanges_raw (w : World) (q ql n c : Nat) (f : Int) (M : Int → Bool) (cs : Array Value) (h0 : w.heap[q]? = some (refB f ql n c)) (h : w.heap[ql]? = some (.cells cs 4 (0, 0))) (hcs : ∀ i : Nat, i < n → cs[i]? = some (.bool (M (f + i)))) (hf : -1000000 ≤ f ∧ f ≤ 1000000) (hn : n ≤ 65536) :
    Calls Tryd.prog 49 #[refP q] w fun e w' => (4096 < (rg (valsTo M f n)).length ∧ e = .returned (.tuple #[.slice none 0 0, .int .i64 4]) ∨ (rg (valsTo M f n)).length ≤ 4096 ∧ ∃ v, e = .returned (.tuple #[v, .int .i64 0]) ∧ w'.ownsRow w.heap.size 71 2 v (rg (valsTo M f n)).length (flat71 (rg (valsTo M f n)))) ∧ Below w.heap.size w w' := by
  obtain ⟨i0, hi, hz0, hz1, hz2⟩ := info_parts Tryd.info71
  have H0 := Lib.hid h0; have H := Lib.hid h; have HC := Lib.hid hcs
  have HLT := Lib.hid (show q < w.heap.size ∧ ql < w.heap.size from ⟨blk_lt h0, blk_lt h⟩)
  clear h0 h hcs
  unfold refP
  go_enter Tryd.func49, Tryd.ntmps49
  go_wp2_with fail
  go_loopw [4, 5, 6] (fun o i _ wr => ∃ k : Nat, i = .int .i64 k ∧ k ≤ n ∧ wr.ownsRow w.heap.size 71 2 o (rg (valsTo M f k)).length (flat71 (rg (valsTo M f k))) ∧ Hid (Below w.heap.size w wr))
    (fun _ i _ _ => n - (intOf i).toNat)
  case atStart => exact ⟨0, rfl, by omega, by simpa [valsTo, rg, flat71] using World.ownsRow_nil _ _ _ _, Lib.hid (Below.refl _ _)⟩
  case round =>
    obtain ⟨k, rfl, hk, hrow, hB⟩ := hrel
    have h0' := (hB.out.block q HLT.out.1).trans H0.out
    have c0 := refB_first h0'; have c1 := refB_row h0'
    clear h0'
    have hlen : (rg (valsTo M f k)).length ≤ k := Nat.le_trans (rg_props (fun _ => True) (fun _ => True) (fun _ _ => trivial) (fun _ _ _ _ => trivial) (valsTo M f k) (fun _ _ => trivial)).2 (valsTo_len M f k)
    by_cases hkn : k < n
    · have hql : wr.heap[ql]? = some (.cells cs 4 (0, 0)) := (hB.out.block ql HLT.out.2).trans H.out
      have c3 : wr.cell? ⟨ql, k, none⟩ = some (.bool (M (f + k))) := (blk_cell hql k).trans (HC.out k hkn)
      have c4 : 0 < k → wr.cell? ⟨ql, k - 1, none⟩ = some (.bool (M (f + (k - 1 : Nat)))) := fun h => (blk_cell hql (k - 1)).trans (HC.out (k - 1) (by omega))
      have ef : wrap64 (f + (k : Int)) = f + k := IntWalk.wrap64_in _ (by omega)
      clear hql
      cases hm : M (f + k) with
      | false =>
        have hv := valsTo_succ M f k
        rw [hm] at c3 hv
        rw [if_neg (by decide), List.append_nil] at hv
        have HROW := Lib.hid hrow
        clear hrow
        have HV := Lib.hid hv
        clear hv hm c4
        generalize hL : valsTo M f k = L at *
        have HL := Lib.hid hL; clear hL
        obtain ⟨A, cap, rfl⟩ := row_form HROW.out
        go_wp2_with fail
        go_roundw
        case rel => exact ⟨k + 1, by go_num, by omega, by rw [HV.out]; exact HROW.out, hB⟩
        case measure => simp [intOf]; omega
      | true =>
        rw [hm] at c3
        have hsz := hB.out.size
        rcases rg_grow M f k hm with ⟨g1, g2, ys, s, g3, g4⟩ | ⟨g1, g2⟩
        · have c5 := c4 g1
          rw [g2] at c5
          rw [g3] at hrow hlen
          have HG := Lib.hid g4
          clear g2 g3 g4 c4 hm
          have hrow1 : wr.ownsRow w.heap.size 71 2 u4 (ys.length + 1) (flat71 (ys ++ [s])) := by rw [List.length_append] at hrow; exact hrow
          clear hrow
          rw [List.length_append] at hlen
          obtain ⟨g1', cap, rfl⟩ := ownsRow_succ hrow1
          have hcell : wr.cell? ⟨g1', ys.length * 2 + 1, none⟩ = some (.int .i64 s.f1) := (hrow1.cellAt _ (by omega)).trans (flat71_last ys s)
          have hfz := hrow1.frozenAt (ys.length * 2 + 1)
          obtain ⟨p1, p2⟩ := hrow1.stored (ys.length * 2 + 1) (.int .i64 (f + k))
          rw [flat71_set] at p1
          have hg := own_base hrow1 g1' rfl
          have P1 := Lib.hid p1
          have P2 := Lib.hid (hB.out.setCell (p := ⟨g1', ys.length * 2 + 1, none⟩) hg (.int .i64 (f + k)))
          clear p1 p2 hrow1
          simp only [List.length_cons, List.length_nil] at hlen
          have HLN := Lib.hid (show (ys ++ [(⟨s.f0, f + k⟩ : S71)]).length = ys.length + 1 by simp)
          generalize ys.length = m at *
          have hk1 : wrap64 ((k : Int) - 1) = ((k - 1 : Nat) : Int) := by rw [show (k : Int) - 1 = ((k - 1 : Nat) : Int) by omega]; exact IntWalk.wrap64_in _ (by omega)
          go_wp2_with fail
          go_roundw
          case rel => exact ⟨k + 1, by go_num, by omega, by rw [HG.out, HLN.out]; exact P1.out, P2⟩
          case measure => simp [intOf]; omega
        · have HG := Lib.hid g2
          have HROW := Lib.hid hrow
          clear g2 hrow hm
          obtain ⟨A, cap, rfl⟩ := row_form HROW.out
          generalize rg (valsTo M f k) = L at *
          generalize hn1 : L.length = ln at *
          have HN1 := Lib.hid hn1
          clear hn1
          rcases g1 with rfl | ⟨g1, g3⟩
          · clear c4
            have e0 : f + ((0 : Nat) : Int) = f := by omega
            have HG2 : Hid (rg (valsTo M f (0 + 1)) = L ++ [⟨f, f⟩]) := Lib.hid (by rw [HG.out, e0])
            go_wp2_with ((with_reducible refine gate_dst (N := 54) rfl ?_); refine wpList_append_own _ rfl _ _ 22 rfl w.heap.size 71 i0 _ 2 16 Tryd.underlying22 hi hz0 hz1 hz2 rfl (by decide) _ _ _ rfl (HROW.out.alloc _) ⟨wr.heap.size, 0, none⟩ 1 1 [.int .i64 f, .int .i64 f] rfl rfl (cell_pair_new _ _ _ _) (by simp [Value.oneCell']) (by simp only [maxLen]; omega) (by omega) (by simp; omega) ?_; intro v' w' hown' hg hnil; obtain ⟨A', cap', rfl⟩ := row_form hown')
            go_roundw
            case rel =>
              have hBW : Below w.heap.size w w' := (hB.out.alloc hB.out.size _).grown hg (by simp; omega) (fun j e => own_base HROW.out j e)
              exact ⟨0 + 1, by go_num, by omega, by rw [HG2.out, flat71_snoc, List.length_append, HN1.out]; exact hown', Lib.hid hBW⟩
            case measure => simp [intOf]; omega
          · have c5 := c4 g1
            rw [g3] at c5
            clear c4 g3
            have hk1 : wrap64 ((k : Int) - 1) = ((k - 1 : Nat) : Int) := by rw [show (k : Int) - 1 = ((k - 1 : Nat) : Int) by omega]; exact IntWalk.wrap64_in _ (by omega)
            go_wp2_with ((with_reducible refine gate_dst (N := 54) rfl ?_); refine wpList_append_own _ rfl _ _ 22 rfl w.heap.size 71 i0 _ 2 16 Tryd.underlying22 hi hz0 hz1 hz2 rfl (by decide) _ _ _ rfl (HROW.out.alloc _) ⟨wr.heap.size, 0, none⟩ 1 1 [.int .i64 (f + k), .int .i64 (f + k)] rfl rfl (cell_pair_new _ _ _ _) (by simp [Value.oneCell']) (by simp only [maxLen]; omega) (by omega) (by simp; omega) ?_; intro v' w' hown' hg hnil; obtain ⟨A', cap', rfl⟩ := row_form hown')
            go_roundw
            case rel =>
              have hBW : Below w.heap.size w w' := (hB.out.alloc hB.out.size _).grown hg (by simp; omega) (fun j e => own_base HROW.out j e)
              exact ⟨k + 1, by go_num, by omega, by rw [HG.out, flat71_snoc, List.length_append, HN1.out]; exact hown', Lib.hid hBW⟩
            case measure => simp [intOf]; omega
    · obtain rfl : k = n := by omega
      have HROW := Lib.hid hrow
      clear hrow
      obtain ⟨A, cap, rfl⟩ := row_form HROW.out
      generalize hL : rg (valsTo M f k) = L at *
      have HL := Lib.hid hL
      clear hL
      by_cases hbig : 4096 < L.length
      · have hb1 : decide (4096 < (L.length : Int)) = true := decide_eq_true (by omega)
        go_wp2_with fail
        go_ret2
        rw [HL.out]
        exact ⟨.inl ⟨hbig, rfl⟩, hB.out⟩
      · have hb1 : decide (4096 < (L.length : Int)) = false := decide_eq_false (by omega)
        go_wp2_with fail
        go_ret2
        rw [HL.out]
        exact ⟨.inr ⟨by omega, _, rfl, HROW.out⟩, hB.out⟩
theorem RefAt.ranges {w : World} {q ql : Nat} {f r : Int} {M : Int → Bool} (h : RefAt w q ql f r M) :
    Calls Tryd.prog 49 #[refP q] w fun e w' => (4096 < (rg (vals M f r)).length ∧ e = .returned (.tuple #[.slice none 0 0, .int .i64 4]) ∨ (rg (vals M f r)).length ≤ 4096 ∧ ∃ v, e = .returned (.tuple #[v, .int .i64 0]) ∧ w'.ownsRow w.heap.size 71 2 v (rg (vals M f r)).length (flat71 (rg (vals M f r)))) ∧ Below w.heap.size w w' := by
  obtain ⟨c, cs, h1, h2, h3, h4, h5, h6, h7⟩ := h
  exact refRanges_raw w q ql r.toNat c f M cs h1 h2 (fun i hi => h4 i (by omega)) (by omega) (by omega)

/-! ### the words of the reference's set -/
def wordK (M : Int → Bool) (f : Int) (k j : Nat) : Nat := wordN M (f + 64 * (j : Int)) (min 64 (k - 64 * j))
theorem wordK_hit (M : Int → Bool) (f : Int) (k : Nat) : wordK M f (k + 1) (k / 64) = wordK M f k (k / 64) + (if M (f + k) then 2 ^ (k % 64) else 0) ∧ wordK M f k (k / 64) < 2 ^ (k % 64) := by
  unfold wordK
  rw [show min 64 (k + 1 - 64 * (k / 64)) = k % 64 + 1 by omega, show min 64 (k - 64 * (k / 64)) = k % 64 by omega]
  refine ⟨?_, wordN_lt _ _ _⟩
  rw [wordN, show f + 64 * ((k / 64 : Nat) : Int) + ((k % 64 : Nat) : Int) = f + k by omega]
theorem wordK_miss (M : Int → Bool) (f : Int) (k j : Nat) (h : j ≠ k / 64) : wordK M f (k + 1) j = wordK M f k j := by
  unfold wordK
  rcases Nat.lt_or_ge j (k / 64) with h1 | h1
  · rw [show min 64 (k + 1 - 64 * j) = 64 by omega, show min 64 (k - 64 * j) = 64 by omega]
  · rw [show min 64 (k + 1 - 64 * j) = 0 by omega, show min 64 (k - 64 * j) = 0 by omega]
theorem wordN_skip (M : Int → Bool) (b : Int) (k : Nat) : ∀ d : Nat, (∀ x, b + k ≤ x → M x = false) → wordN M b (k + d) = wordN M b k
  | 0, _ => rfl
  | d + 1, h => by
    rw [show k + (d + 1) = (k + d) + 1 by omega, wordN, wordN_skip M b k d h, h _ (by omega)]
    simp
theorem wordK_all (M : Int → Bool) (f : Int) (n j : Nat) (h : ∀ x, f + n ≤ x → M x = false) : wordK M f n j = wordN M (f + 64 * (j : Int)) 64 := by
  unfold wordK
  obtain ⟨d, hd⟩ : ∃ d, 64 = min 64 (n - 64 * j) + d := ⟨64 - min 64 (n - 64 * j), by omega⟩
  rcases Nat.lt_or_ge (n - 64 * j) 64 with h1 | h1
  · rw [show min 64 (n - 64 * j) = n - 64 * j by omega] at hd ⊢
    have := wordN_skip M (f + 64 * (j : Int)) (n - 64 * j) d (fun x hx => h x (by omega))
    rw [← hd] at this
    exact this.symm
  · rw [show min 64 (n - 64 * j) = 64 by omega]
theorem or_pow (a i : Nat) (h : a < 2 ^ i) : a ||| 2 ^ i = a + 2 ^ i := by
  have := Nat.two_pow_add_eq_or_of_lt h 1
  rw [Nat.mul_one] at this
  rw [Nat.or_comm, ← this, Nat.add_comm]
set_option maxRecDepth 100000 in
set_option maxHeartbeats 16000000 in
theorem refWords_raw (w : World) (q ql n c : Nat) (f : Int) (M : Int → Bool) (cs : Array Value) (h0 : w.heap[q]? = some (refB f ql n c)) (h : w.heap[ql]? = some (.cells cs 4 (0, 0))) (hcs : ∀ i : Nat, i < n → cs[i]? = some (.bool (M (f + i)))) (hf : -1000000 ≤ f ∧ f ≤ 1000000) (hn : n ≤ 65536) (hn0 : 0 < n) :
    Calls Tryd.prog 51 #[refP q] w fun e w' => ∃ g2 cs2, e = .returned (.slice (some ⟨g2, 0, none⟩) ((n + 63) / 64) ((n + 63) / 64)) ∧ w.heap.size ≤ g2 ∧ w'.heap[g2]? = some (.cells cs2 72 (0, 0)) ∧ (∀ j : Nat, j < (n + 63) / 64 → cs2[j]? = some (.int .u64 (wordK M f n j : Nat))) ∧ Below w.heap.size w w' := by
  obtain ⟨i0, hi, hz0, hz1, hz2⟩ := info_parts Tryd.info72
  have hmk := run_make (P := Tryd.prog) w 65 72 i0 _ Tryd.underlying65 hi hz0 .i64 .i64 (((n + 63) / 64 : Nat) : Int) (((n + 63) / 64 : Nat) : Int) (by omega) (by omega) (by rw [hz2]; omega) (by omega)
  rw [hz1, Nat.mul_one, Int.toNat_natCast] at hmk
  have en : (((n + 63) / 64 : Nat) : Int) = ((n : Int) + 63) / 64 := by omega
  rw [en] at hmk
  have hmk2 : (Instr.makeSlice 65 (.int .i64 (((n : Int) + 63) / 64)) (.int .i64 (((n : Int) + 63) / 64))).run Tryd.prog w = .ok (.slice (some ⟨w.heap.size, 0, none⟩) ((n + 63) / 64) ((n + 63) / 64)) (w.alloc (.cells (madeCells #[.int .u64 0] ((n + 63) / 64)) 72)) := hmk
  have HMK := Lib.hid hmk2
  clear hmk hmk2 hi hz0 hz1 hz2
  have c0 := refB_first h0; have c1 := refB_row h0
  have H0 := Lib.hid h0; have H := Lib.hid h; have HC := Lib.hid hcs
  have HLT := Lib.hid (show q < w.heap.size ∧ ql < w.heap.size from ⟨blk_lt h0, blk_lt h⟩)
  clear h0 h hcs
  unfold refP
  go_enter Tryd.func51, Tryd.ntmps51
  go_wp2_with fail
  rw [HMK.out]
  have hB0 : Below w.heap.size w (w.alloc (.cells (madeCells #[.int .u64 0] ((n + 63) / 64)) 72)) := (Below.refl _ w).alloc (Nat.le_refl _) _
  have hN0 := World.alloc_heap_new w (.cells (madeCells #[.int .u64 0] ((n + 63) / 64)) 72)
  have HB0 := Lib.hid hB0; have HN0 := Lib.hid hN0
  have hsz := hB0.size
  have hsz2 : w.heap.size < (w.alloc (.cells (madeCells #[.int .u64 0] ((n + 63) / 64)) 72)).heap.size := by simp
  clear hB0 hN0 HMK c0 c1
  generalize w.alloc (.cells (madeCells #[.int .u64 0] ((n + 63) / 64)) 72) = w1 at *
  go_wp2_with fail
  go_loopw [4] (fun i wr => ∃ k : Nat, i = .int .i64 k ∧ k ≤ n ∧ Hid (∃ cs2, wr.heap[w.heap.size]? = some (.cells cs2 72 (0, 0)) ∧ ∀ j : Nat, j < (n + 63) / 64 → cs2[j]? = some (.int .u64 (wordK M f k j : Nat))) ∧ Hid (Below w.heap.size w wr))
    (fun i _ => n - (intOf i).toNat)
  case atStart => exact ⟨0, rfl, by omega, Lib.hid ⟨_, HN0.out, fun j hj => by rw [made_one _ _ _ hj]; simp [wordK, wordN]⟩, HB0⟩
  case round =>
    obtain ⟨k, rfl, hk, hW, hB⟩ := hrel
    have h0' := (hB.out.block q HLT.out.1).trans H0.out
    have c0 := refB_first h0'; have c1 := refB_row h0'
    clear h0'
    by_cases hkn : k < n
    · have c3 : wr.cell? ⟨ql, k, none⟩ = some (.bool (M (f + k))) := (blk_cell ((hB.out.block ql HLT.out.2).trans H.out) k).trans (HC.out k hkn)
      have hh := wordK_hit M f k
      have HM := Lib.hid (fun j => wordK_miss M f k j)
      cases hm : M (f + k) with
      | false =>
        rw [hm] at c3 hh
        have HH := Lib.hid hh.1
        clear hh hm
        go_wp2_with fail
        go_roundw
        case rel =>
          refine ⟨k + 1, by go_num, by omega, Lib.hid ?_, hB⟩
          obtain ⟨cs2, k1, k2⟩ := hW.out
          refine ⟨cs2, k1, fun j hj => (k2 j hj).trans ?_⟩
          by_cases e : j = k / 64
          · subst e; rw [HH.out]; simp
          · rw [HM.out j e]
        case measure => simp [intOf]; omega
      | true =>
        rw [hm] at c3 hh
        obtain ⟨cs2, k1, k2⟩ := hW.out
        have c4 : wr.cell? ⟨w.heap.size, k / 64, none⟩ = some (.int .u64 (wordK M f k (k / 64) : Nat)) := (blk_cell k1 _).trans (k2 _ (by omega))
        have hfz := blk_frozen k1 (k / 64)
        have HH := Lib.hid hh
        have HK1 := Lib.hid k1; have HK2 := Lib.hid k2
        have HSB := Lib.hid (fun u => hB.out.setCell (p := ⟨w.heap.size, k / 64, none⟩) (Nat.le_refl _) u)
        clear hh hm k1 k2
        generalize wordK M f k (k / 64) = a at *
        go_wp2_with fail
        go_roundw
        case rel =>
          refine ⟨k + 1, by go_num, by omega, Lib.hid ⟨_, blk_put HK1.out (k / 64) _ rfl, fun j hj => ?_⟩, Lib.hid (HSB.out _)⟩
          rw [Array.getElem?_setIfInBounds]
          have hsz3 : k / 64 < cs2.size := (Array.getElem?_eq_some_iff.1 (HK2.out (k / 64) (by omega))).1
          by_cases e : k / 64 = j
          · subst e
            rw [if_pos rfl, if_pos hsz3, HH.out.1, if_pos rfl, ← or_pow a (k % 64) HH.out.2]
            have hp := pow_lt_word k
            have ep : IntKind.u64.wrap ((2 : Int) ^ (k % 64)) = ((2 ^ (k % 64) : Nat) : Int) := by
              rw [IntKind.wrap_u64, show (2 : Int) ^ (k % 64) = ((2 ^ (k % 64) : Nat) : Int) by norm_cast]
              generalize 2 ^ (k % 64) = q at *
              omega
            have ha : a < 18446744073709551616 := Nat.lt_trans HH.out.2 hp
            rw [ep, u64_or_nat a _ ha hp]
          · rw [if_neg e, HK2.out j hj, HM.out j (fun h => e h.symm)]
        case measure => simp [intOf]; omega
    · obtain rfl : k = n := by omega
      go_wp2_with fail
      go_ret
      obtain ⟨cs2, k1, k2⟩ := hW.out
      exact ⟨w.heap.size, cs2, rfl, Nat.le_refl _, k1, k2, hB.out⟩
theorem RefAt.words {w : World} {q ql : Nat} {f r : Int} {M : Int → Bool} (h : RefAt w q ql f r M) :
    Calls Tryd.prog 51 #[refP q] w fun e w' => ∃ g2 cs2, e = .returned (.slice (some ⟨g2, 0, none⟩) ((r + 63) / 64).toNat ((r + 63) / 64).toNat) ∧ w.heap.size ≤ g2 ∧ w'.heap[g2]? = some (.cells cs2 72 (0, 0)) ∧ (∀ i : Nat, (i : Int) < (r + 63) / 64 → cs2[i]? = some (.int .u64 (wordN M (f + 64 * i) 64 : Nat))) ∧ Below w.heap.size w w' := by
  obtain ⟨c, cs, h1, h2, h3, h4, h5, h6, h7⟩ := h
  refine (refWords_raw w q ql r.toNat c f M cs h1 h2 (fun i hi => h4 i (by omega)) (by omega) (by omega) (by omega)).mono ?_
  rintro e w' ⟨g2, cs2, rfl, k1, k2, k3, k4⟩
  refine ⟨g2, cs2, by rw [show ((r + 63) / 64).toNat = (r.toNat + 63) / 64 by omega], k1, k2, fun i hi => ?_, k4⟩
  rw [k3 i (by omega), wordK_all M f r.toNat i (fun x hx => by
    cases hm : M x with
    | false => rfl
    | true => have := h7 x hm; omega)]

/-! ### the reference's Of -/
set_option maxHeartbeats 4000000 in
theorem refTaken_calls (A : Option Addr) (c : Nat) (l : List S71) (w : World) (h : Kd.C k71 w A l.length l) (hc : l.length ≤ c) :
    Calls Tryd.prog 68 #[.slice A l.length c] w fun e w' => e = .returned (takenV A c l) ∧ Below w.heap.size w w' := by
  unfold takenV
  cases hR : rightS l with
  | true =>
    go_enter Tryd.func68, Tryd.ntmps68
    go_wp2_with fail
    refine (refRight_calls A c l _ h hc).mono ?_
    rw [hR]
    rintro e w1 ⟨rfl, hb⟩
    go_wp2_with fail
    go_ret
    exact ⟨rfl, hb⟩
  | false =>
    go_enter Tryd.func68, Tryd.ntmps68
    go_wp2_with fail
    refine (refRight_calls A c l _ h hc).mono ?_
    rw [hR]
    rintro e w1 ⟨rfl, hb⟩
    go_wp2_with fail
    go_ret
    exact ⟨rfl, hb⟩
theorem takenV_none {A : Option Addr} {c : Nat} {l : List S71} (hN : okS l = false) : ∃ A1 c1, takenV A c l = .slice A1 0 c1 := by
  unfold takenV
  unfold okS at hN
  cases hR : rightS l with
  | false => exact ⟨_, _, rfl⟩
  | true =>
    rw [hR, Bool.true_and] at hN
    cases l with
    | nil => exact ⟨_, _, rfl⟩
    | cons s t => cases hN
set_option maxHeartbeats 4000000 in
theorem refMin_none (A : Option Addr) (c : Nat) (l : List S71) (w : World) (h : Kd.C k71 w A l.length l) (hc : l.length ≤ c) (hN : okS l = false) :
    Calls Tryd.prog 46 #[.slice A l.length c] w fun e w' => e = .returned (.tuple #[.int .i64 0, .bool false]) ∧ Below w.heap.size w w' := by
  have HX := Lib.hid (refTaken_calls A c l w h hc)
  obtain ⟨A1, c1, hV⟩ := takenV_none (A := A) (c := c) hN
  rw [hV] at HX
  clear h hc hN hV
  go_enter Tryd.func46, Tryd.ntmps46
  go_wp2_with fail
  refine HX.out.mono ?_
  rintro e w1 ⟨rfl, hb⟩
  go_wp2_with fail
  go_ret2
  exact ⟨rfl, hb⟩
set_option maxHeartbeats 4000000 in
theorem refMax_none (A : Option Addr) (c : Nat) (l : List S71) (w : World) (h : Kd.C k71 w A l.length l) (hc : l.length ≤ c) (hN : okS l = false) :
    Calls Tryd.prog 47 #[.slice A l.length c] w fun e w' => e = .returned (.tuple #[.int .i64 0, .bool false]) ∧ Below w.heap.size w w' := by
  have HX := Lib.hid (refTaken_calls A c l w h hc)
  obtain ⟨A1, c1, hV⟩ := takenV_none (A := A) (c := c) hN
  rw [hV] at HX
  clear h hc hN hV
  go_enter Tryd.func47, Tryd.ntmps47
  go_wp2_with fail
  refine HX.out.mono ?_
  rintro e w1 ⟨rfl, hb⟩
  go_wp2_with fail
  go_ret2
  exact ⟨rfl, hb⟩
set_option maxHeartbeats 4000000 in
theorem refMin_some (A : Option Addr) (c : Nat) (l : List S71) (w : World) (h : Kd.C k71 w A l.length l) (hc : l.length ≤ c) (hN : okS l = true) :
    Calls Tryd.prog 46 #[.slice A l.length c] w fun e w' => e = .returned (.tuple #[.int .i64 (firstS l), .bool true]) ∧ Below w.heap.size w w' := by
  obtain ⟨b1, b2, b3, _⟩ := ok_bounds hN
  have HX := Lib.hid (refTaken_calls A c l w h hc)
  have hV : takenV A c l = .slice A l.length c := by unfold takenV; rw [b1, if_pos rfl]
  rw [hV] at HX
  cases l with
  | nil => cases b2
  | cons s t =>
    have e : firstS (s :: t) = s.f0 := by unfold firstS minS; rw [b1]; rfl
    rw [e]
    obtain ⟨hn, ad, rfl, a0, a1⟩ := k71_head h
    clear h hc hN b1 hV e a1
    rw [List.length_cons] at HX b2 b3 ⊢
    generalize t.length + 1 = m at *
    go_enter Tryd.func46, Tryd.ntmps46
    go_wp2_with fail
    refine HX.out.mono ?_
    rintro e w1 ⟨rfl, hb⟩
    have b0 : w1.cell? ad = some (.int .i64 s.f0) := (hb.cell (World.block_lt_of_cell? w _ a0)).trans a0
    clear a0
    go_wp2_with fail
    go_ret2
    exact ⟨rfl, hb⟩
set_option maxHeartbeats 4000000 in
theorem refMax_some (A : Option Addr) (c : Nat) (l : List S71) (w : World) (h : Kd.C k71 w A l.length l) (hc : l.length ≤ c) (hN : okS l = true) :
    Calls Tryd.prog 47 #[.slice A l.length c] w fun e w' => e = .returned (.tuple #[.int .i64 (lastS l), .bool true]) ∧ Below w.heap.size w w' := by
  obtain ⟨b1, b2, b3, _⟩ := ok_bounds hN
  have HX := Lib.hid (refTaken_calls A c l w h hc)
  have hV : takenV A c l = .slice A l.length c := by unfold takenV; rw [b1, if_pos rfl]
  rw [hV] at HX
  rcases snoc_cases l with rfl | ⟨ys, s, rfl⟩
  · cases b2
  · have e : lastS (ys ++ [s]) = s.f1 := by unfold lastS maxS; rw [b1]; simp
    rw [e]
    have hm : (ys ++ [s]).length = ys.length + 1 := by simp
    obtain ⟨ad, rfl, a0, a1⟩ := at_T71 h (ys.length : Int) (by omega) (by omega)
    rw [rd71 _ _ (by omega)] at a1
    rw [show (ys ++ [s])[ys.length]'(by omega) = s by simp] at a1
    rw [Int.toNat_natCast] at a1
    clear a0 h hc hN b1 e hV
    rw [hm] at HX b3 ⊢
    clear hm b2
    generalize ys.length = m at *
    go_enter Tryd.func47, Tryd.ntmps47
    go_wp2_with fail
    refine HX.out.mono ?_
    rintro e w1 ⟨rfl, hb⟩
    have b1 := (hb.cell (World.block_lt_of_cell? w _ a1)).trans a1
    clear a1
    go_wp2_with fail
    go_ret2
    exact ⟨rfl, hb⟩
set_option maxHeartbeats 4000000 in
theorem refOf_dom (A : Option Addr) (c : Nat) (l : List S71) (w : World) (h : Kd.C k71 w A l.length l) (hc : l.length ≤ c) (hN : okS l = false) :
    Calls Tryd.prog 16 #[.slice A l.length c] w fun e w' => e = .returned (.tuple #[.pointer none, .int .i64 20]) ∧ Below w.heap.size w w' := by
  have HC := Lib.hid h; have HCC := Lib.hid hc; have HN := Lib.hid hN
  clear h hc hN
  go_enter Tryd.func16, Tryd.ntmps16
  go_wp2_with fail
  refine (refMin_none A c l _ HC.out HCC.out HN.out).mono ?_
  rintro e w1 ⟨rfl, hb⟩
  go_wp2_with fail
  refine (refMax_none A c l _ (Kd.C_below HC.out hb) HCC.out HN.out).mono ?_
  rintro e w2 ⟨rfl, hb2⟩
  have HB := Lib.hid (below_step hb hb2)
  clear hb hb2
  go_wp2_with fail
  go_ret2
  exact ⟨rfl, HB.out⟩
set_option maxHeartbeats 4000000 in
theorem refOf_full (A : Option Addr) (c : Nat) (l : List S71) (w : World) (h : Kd.C k71 w A l.length l) (hc : l.length ≤ c) (hN : okS l = true) (hbig : 65536 ≤ lastS l - firstS l) :
    Calls Tryd.prog 16 #[.slice A l.length c] w fun e w' => e = .returned (.tuple #[.pointer none, .int .i64 4]) ∧ Below w.heap.size w w' := by
  obtain ⟨b1, b2, b3, b4, b5, b6, b7⟩ := ok_bounds hN
  have HC := Lib.hid h; have HCC := Lib.hid hc; have HN := Lib.hid hN
  clear h hc hN b1 b7
  go_enter Tryd.func16, Tryd.ntmps16
  go_wp2_with fail
  refine (refMin_some A c l _ HC.out HCC.out HN.out).mono ?_
  rintro e w1 ⟨rfl, hb⟩
  go_wp2_with fail
  refine (refMax_some A c l _ (Kd.C_below HC.out hb) HCC.out HN.out).mono ?_
  rintro e w2 ⟨rfl, hb2⟩
  have HB := Lib.hid (below_step hb hb2)
  clear hb hb2
  generalize firstS l = lo at *
  generalize lastS l = hi at *
  go_wp2_with fail
  refine (refNew_full lo hi _ b4 b6 b5 hbig).mono ?_
  rintro e w3 ⟨rfl, rfl⟩
  go_wp2_with fail
  go_ret2
  exact ⟨rfl, HB.out⟩
theorem RefAt.put {w : World} {q ql : Nat} {f r : Int} {M : Int → Bool} (h : RefAt w q ql f r M) (v : Int) (hv : f ≤ v ∧ v < f + r) (b : Bool) :
    RefAt (w.setCell ⟨ql, (v - f).toNat, none⟩ (.bool b)) q ql f r (fun x => if x = v then b else M x) := by
  obtain ⟨c, cs, h1, h2, h3, h4, h5, h6, h7⟩ := h
  refine ⟨c, _, (Below.heap_setCell _ _ _ q h3).trans h1, blk_put h2 _ _ rfl, h3, fun i hi => ?_, h5, h6, fun x hx => ?_⟩
  · dsimp only
    rw [Array.getElem?_setIfInBounds]
    have hk2 : (v - f).toNat < cs.size := (Array.getElem?_eq_some_iff.1 (h4 _ (by omega))).1
    by_cases e : (v - f).toNat = i
    · rw [if_pos e, if_pos hk2, if_pos (by omega)]
    · rw [if_neg e, if_neg (by omega), h4 i hi]
  · dsimp only at hx
    by_cases e : x = v
    · omega
    · rw [if_neg e] at hx; exact h7 x hx

theorem RefAt.ext {w : World} {q ql : Nat} {f r : Int} {M M' : Int → Bool} (h : RefAt w q ql f r M) (e : ∀ x, M x = M' x) : RefAt w q ql f r M' := by
  obtain rfl : M = M' := funext e
  exact h
theorem inL_take (l : List S71) (k : Nat) (hk : k < l.length) (y : Int) : inL (spanAll (l.take (k + 1))) y = (inL (spanAll (l.take k)) y || decide (l[k].f0 ≤ y ∧ y < l[k].f1 + 1)) := by
  unfold inL
  rw [Bool.eq_iff_iff, Bool.or_eq_true, decide_eq_true_iff, decide_eq_true_iff, decide_eq_true_iff, mem_spanAll, mem_spanAll, List.take_succ_eq_append_getElem hk]
  constructor
  · rintro ⟨s, hs, h1, h2⟩
    rcases List.mem_append.1 hs with hs | hs
    · exact .inl ⟨s, hs, h1, h2⟩
    · rw [List.mem_singleton] at hs
      subst hs
      exact .inr ⟨h1, by omega⟩
  · rintro (⟨s, hs, h1, h2⟩ | ⟨h1, h2⟩)
    · exact ⟨s, List.mem_append.2 (.inl hs), h1, h2⟩
    · exact ⟨l[k], List.mem_append.2 (.inr (by simp)), h1, by omega⟩
set_option maxRecDepth 100000 in
set_option maxHeartbeats 8000000 in
theorem refOf_made (A : Option Addr) (c : Nat) (l : List S71) (w : World) (h : Kd.C k71 w A l.length l) (hc : l.length ≤ c) (hN : okS l = true) (hsm : lastS l - firstS l < 65536) :
    Calls Tryd.prog 16 #[.slice A l.length c] w fun e w' => ∃ q ql, e = .returned (.tuple #[refP q, .int .i64 0]) ∧ (w.heap.size ≤ q ∧ w.heap.size ≤ ql) ∧ RefAt w' q ql (firstS l) (lastS l - firstS l + 1) (inL (spanAll l)) ∧ Below w.heap.size w w' := by
  obtain ⟨b1, b2, b3, b4, b5, b6, b7⟩ := ok_bounds hN
  have hA : ∃ ad, A = some ad := by
    obtain ⟨ad, e, _⟩ := at_T71 h 0 (by omega) (by omega)
    exact ⟨ad, e⟩
  obtain ⟨ad, rfl⟩ := hA
  have HC := Lib.hid h; have HCC := Lib.hid hc; have HN := Lib.hid hN; have HIN := Lib.hid b7
  have HR := Lib.hid (right_mem b1).2.2
  clear h hc hN b1 b7
  go_enter Tryd.func16, Tryd.ntmps16
  go_wp2_with fail
  refine (refMin_some _ c l _ HC.out HCC.out HN.out).mono ?_
  rintro e w1 ⟨rfl, hb⟩
  go_wp2_with fail
  refine (refMax_some _ c l _ (Kd.C_below HC.out hb) HCC.out HN.out).mono ?_
  rintro e w2 ⟨rfl, hb2⟩
  have hb3 := below_step hb hb2
  clear hb hb2
  generalize hlo : firstS l = lo at *
  generalize hhi : lastS l = hi at *
  have HLO := Lib.hid hlo; have HHI := Lib.hid hhi
  clear hlo hhi
  go_wp2_with fail
  refine (RefAt.new lo hi _ b4 b6 b5 hsm).mono ?_
  rintro e w3 ⟨q, ql, rfl, ⟨k1, k2⟩, k3, k4⟩
  have HB0 := Lib.hid (below_step hb3 k4)
  have HS0 := Lib.hid k3
  have hq1 : w.heap.size ≤ q := Nat.le_trans hb3.size k1
  have hq2 : w.heap.size ≤ ql := Nat.le_trans hb3.size k2
  clear hb3 k1 k2 k3 k4
  have U : refP q = .pointer (some ⟨q, 0, none⟩) := rfl
  rw [U]
  go_wp2_with fail
  go_loopw [10, 11] (fun i _ wr => ∃ k : Nat, i = .int .i64 k ∧ k ≤ l.length ∧ Hid (RefAt wr q ql lo (hi - lo + 1) (inL (spanAll (l.take k)))) ∧ Hid (Below w.heap.size w wr))
    (fun i _ _ => l.length - (intOf i).toNat)
  case atStart => exact ⟨0, rfl, by omega, Lib.hid (HS0.out.ext (fun x => by simp [inL, spanAll])), HB0⟩
  case round =>
    obtain ⟨k, rfl, hk, hS, hB⟩ := hrel
    by_cases hkl : k < l.length
    · obtain ⟨ad2, e2, a0, a1⟩ := at_T71 (Kd.C_below HC.out hB.out) (k : Int) (by omega) (by omega)
      cases e2
      rw [rd71 _ _ hkl] at a0 a1
      rw [Int.toNat_natCast] at a0 a1
      have hT := inL_take l k hkl
      have hs := HR.out l[k] (by simp)
      have hsp : ∀ x, l[k].f0 ≤ x → x ≤ l[k].f1 → lo ≤ x ∧ x ≤ hi := fun x h1 h2 => HIN.out x ((mem_spanAll _ _).2 ⟨l[k], by simp, h1, h2⟩)
      have HT := Lib.hid hT; have HSP := Lib.hid hsp
      have hcl : ∀ w2, Below w.heap.size w w2 → w2.cell? ⟨(ad.add (k * 2)).block, (ad.add (k * 2)).off + 1, none⟩ = some (.int .i64 l[k].f1) := fun w2 hb => by
        obtain ⟨ad2, e2, a0, a1⟩ := at_T71 (Kd.C_below HC.out hb) (k : Int) (by omega) (by omega)
        cases e2
        rw [rd71 _ _ hkl, Int.toNat_natCast] at a1
        exact a1
      have HCL := Lib.hid hcl
      clear hT hsp hcl a1
      generalize l[k] = s at *
      go_wp2_with fail
      go_loopw [11] (fun v w2 => ∃ x : Int, v = .int .i64 x ∧ s.f0 ≤ x ∧ x ≤ s.f1 + 1 ∧ Hid (RefAt w2 q ql lo (hi - lo + 1) (fun y => inL (spanAll (l.take k)) y || decide (s.f0 ≤ y ∧ y < x))) ∧ Hid (Below w.heap.size w w2))
        (fun v _ => (s.f1 + 1 - intOf v).toNat)
      case atStart => exact ⟨s.f0, rfl, by omega, by omega, Lib.hid (hS.out.ext (fun y => by rw [decide_eq_false (by omega), Bool.or_false])), hB⟩
      case round =>
        clear hS hB a0
        obtain ⟨x, rfl, hx1, hx2, hS2, hB2⟩ := hrel
        have a1 := HCL.out wr hB2.out
        by_cases hx : x ≤ s.f1
        · have hlh := HSP.out x hx1 hx
          have hput := hS2.out.put x (by omega) true
          obtain ⟨c', cs', p1, p2, p3, p4, p5, p6, p7⟩ := hS2.out
          have c1 := refB_row p1
          have c3 := (blk_cell p2 (x - lo).toNat).trans (p4 (x - lo).toNat (by omega))
          have hfz := blk_frozen p2 (x - lo).toNat
          have ex : wrap64 (x - lo) = x - lo := IntWalk.wrap64_in _ (by omega)
          have ex1 : wrap64 (x + 1) = x + 1 := IntWalk.wrap64_in _ (by omega)
          have HPUT := Lib.hid hput
          have HBP := Lib.hid (hB2.out.setCell (p := ⟨ql, (x - lo).toNat, none⟩) hq2 (.bool true))
          clear p1 p2 p3 p4 p7 hput hS2 hB2
          go_wp2_with fail
          go_roundw
          case rel =>
            refine ⟨x + 1, by go_num, by omega, by omega, Lib.hid (HPUT.out.ext (fun y => ?_)), HBP⟩
            by_cases e : y = x
            · subst e
              rw [if_pos rfl, decide_eq_true (by omega), Bool.or_true]
            · rw [if_neg e]
              congr 1
              rw [Bool.eq_iff_iff, decide_eq_true_iff, decide_eq_true_iff]
              omega
          case measure => simp [intOf]; omega
        · obtain rfl : x = s.f1 + 1 := by omega
          go_wp2_with fail
          go_roundw
          case rel => exact ⟨k + 1, by go_num, by omega, Lib.hid (hS2.out.ext (fun y => by rw [HT.out y])), hB2⟩
          case measure => simp [intOf]; omega
    · obtain rfl : k = l.length := by omega
      go_wp2_with fail
      go_ret2
      refine ⟨q, ql, rfl, ⟨hq1, hq2⟩, ?_, hB.out⟩
      have := hS.out
      rw [List.take_length, ← HLO.out, ← HHI.out] at this
      exact this

end Go.Proofs.YtfkbkcdiajjljaaDoor.PBitsSteps
