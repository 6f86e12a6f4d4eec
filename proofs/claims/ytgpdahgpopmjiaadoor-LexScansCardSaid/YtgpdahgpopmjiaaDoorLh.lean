/- Parts of the laws of lex: functions of the program, each with the proof of what it answers; the conditions are those of each theorem. -/
import Derived.Test.YtgpdahgpopmjiaaDoorLg
import Derived.RangeFuncBox
namespace Go.Proofs.YtgpdahgpopmjiaaDoor.PL
open Go.RowKit Go.Proofs.YtgpdahgpopmjiaaDoorW.PrintWords Go.Proofs.YtgpdahgpopmjiaaDoorW.PrintLast Go.Proofs.YtgpdahgpopmjiaaDoorW.PrintMore
set_option linter.unusedVariables false
set_option linter.unusedSimpArgs false
/-! ### the list that grows -/
theorem boxed_below {W W' : World} {B : Nat} {t : TypeId} {v : Value} (h : Boxed W B t v) (hb : Below W.heap.size W W') : Boxed W' B t v := (hb.block B h.lt).trans h
theorem add_zero_off (b i : Nat) : (Addr.add ⟨b, 0, none⟩ i) = ⟨b, i, none⟩ := by
  simp [Addr.add]; omega
def cells28 (s : S28) : List Value := [.int .i64 s.f0, .string s.f1, .int .i64 s.f2, .int .i64 s.f3]
def flat28 (xs : List S28) : List Value := xs.flatMap cells28
theorem flat28_len (xs : List S28) : (flat28 xs).length = xs.length * 4 := by
  induction xs with
  | nil => rfl
  | cons s xs ih =>
    have : flat28 (s :: xs) = cells28 s ++ flat28 xs := by simp [flat28]
    rw [this, List.length_append, ih, List.length_cons]
    show 4 + _ = _
    omega
theorem flat28_snoc (ys : List S28) (s : S28) : flat28 (ys ++ [s]) = flat28 ys ++ cells28 s := by simp [flat28]
theorem flat28_reps (w : World) (xs : List S28) : Reps (k28.K w) 4 xs (flat28 xs) := by
  obtain ⟨r, rfl⟩ : ∃ r, xs = r.reverse := ⟨xs.reverse, by simp⟩
  induction r with
  | nil => exact Reps.none _ _
  | cons s r ih =>
    rw [List.reverse_cons, flat28_snoc]
    exact ih.snoc (k28_mk w s) rfl
theorem row28 {w : World} {base n : Nat} {v : Value} {xs : List S28} (h : w.ownsRow base 28 4 v n (flat28 xs)) (hn : xs.length = n) : ∃ A c, v = .slice A n c ∧ Kd.C k28 w A n xs :=
  own_reads_row h (flat28_reps w xs) hn
def OutT (W : World) (B n1 : Nat) (out : List S28) : Prop := ∃ v, Boxed W B 22 v ∧ W.ownsRow n1 28 4 v out.length (flat28 out)
theorem out_put {W w1 : World} {n0 n1 B : Nat} {v v' : Value} {k m : Nat} {xs ys : List Value} {tmp : Obj}
    (hv : Boxed W B 22 v) (hrow : W.ownsRow n1 28 4 v k xs) (hsz : n1 ≤ W.heap.size) (hn0 : n0 ≤ n1) (hB : n0 ≤ B)
    (hown' : w1.ownsRow n1 28 4 v' m ys) (hgrow : (W.alloc tmp).grownBy w1 v.ownBlock) :
    Boxed w1 B 22 v ∧ Boxed (w1.setCell ⟨B, 0, none⟩ v') B 22 v' ∧ (w1.setCell ⟨B, 0, none⟩ v').ownsRow n1 28 4 v' m ys ∧ Below n0 W (w1.setCell ⟨B, 0, none⟩ v') ∧ (∀ b, b < W.heap.size → b ≠ B → v.ownBlock ≠ some b → (w1.setCell ⟨B, 0, none⟩ v').heap[b]? = W.heap[b]?) := by
  obtain ⟨a1, a2, a3, a4, a5⟩ := hv.appended (t := 22) (e := 28) (n₀ := n0) (by decide) (own_weaken hrow hn0) (by omega) hB (own_weaken hown' hn0) hgrow
  refine ⟨a1, a2, hown'.kept (grownBy_setCell' w1 B v') (.inr (a1.not_row (by decide) hown').symm), a5, ?_⟩
  intro b h1 h2 h3
  exact (Below.heap_setCell _ _ _ b h2).trans ((hgrow.block b (by simp; omega) h3.symm).trans (Below.heap_alloc _ _ b (by omega)))
theorem cell_tok_new (w : World) (x : S28) (n : Nat) (hn : w.heap.size = n) : ∀ j u, (cells28 x)[j]? = some u → (w.alloc (.cells #[.int .i64 x.f0, .string x.f1, .int .i64 x.f2, .int .i64 x.f3] 28)).cell? ((⟨n, 0, none⟩ : Addr).add j) = some u := by
  intro j u hj
  subst hn
  rw [add_zero_off]
  refine (blk_cell (World.alloc_heap_new w (.cells #[.int .i64 x.f0, .string x.f1, .int .i64 x.f2, .int .i64 x.f3] 28)) j).trans ?_
  rw [← hj]
  simp [cells28]
theorem own_out {W : World} {n1 k : Nat} {v : Value} {xs : List Value} (h : W.ownsRow n1 28 4 v k xs) (o : Obj) : (W.alloc o).ownsRow n1 28 4 v k xs := h.alloc o
def tok28 (x : S28) : Value := .agg #[.int .i64 x.f0, .string x.f1, .int .i64 x.f2, .int .i64 x.f3]
/-- a closure that appends a token to the list in a box -/
def YieldC (K : Nat) : Prop := (∀ (args : Array Value) (w : World), (callFunc K args).run Tryd.prog w = .ok (.enter K args) w) ∧ ∀ (W : World) (B n0 n1 : Nat) (xs : List S28) (x : S28) (v : Value), Boxed W B 22 v → W.ownsRow n1 28 4 v xs.length (flat28 xs) → n1 ≤ W.heap.size → B < n1 → n0 ≤ B → xs.length ≤ 65537 →
    Calls Tryd.prog K #[tok28 x, .pointer (some ⟨B, 0, none⟩)] W fun e w' => e = .returned (.bool true) ∧ OutT w' B n1 (xs ++ [x]) ∧ (∀ b, b < W.heap.size → b ≠ B → v.ownBlock ≠ some b → w'.heap[b]? = W.heap[b]?) ∧ Below n0 W w'
open Go.Shelf in
set_option maxRecDepth 100000 in
set_option maxHeartbeats 16000000 in
theorem yield_scan : YieldC 21 := by
  refine ⟨enters_of Tryd.func21 (by kernel_rfl) rfl, ?_⟩
  intro W B n0 n1 xs x v hv hrow hsz hB hn0 hlen
  obtain ⟨i0, hi, hz0, hz1, hz2⟩ := info_parts info28
  generalize hm : xs.length = m at *
  obtain ⟨A, c, rfl⟩ : ∃ A c, v = .slice A m c := by
    obtain ⟨A, c, e, _⟩ := row28 hrow hm
    exact ⟨A, c, e⟩
  obtain ⟨W1, hW1⟩ : ∃ W1, W1 = W.alloc (.cells #[.int .i64 x.f0, .string x.f1, .int .i64 x.f2, .int .i64 x.f3] 28) := ⟨_, rfl⟩
  have hbl : Below W.heap.size W W1 := by rw [hW1]; exact (Below.refl _ _).alloc (Nat.le_refl _) _
  have hv1 : Boxed W1 B 22 (.slice A m c) := boxed_below hv hbl
  have hrow1 : W1.ownsRow n1 28 4 (.slice A m c) m (flat28 xs) := by rw [hW1]; exact hrow.alloc _
  have hx1 : W1.heap[W.heap.size]? = some (.cells #[.int .i64 x.f0, .string x.f1, .int .i64 x.f2, .int .i64 x.f3] 28) := by rw [hW1]; exact World.alloc_heap_new _ _
  have hsz1 : n1 ≤ W1.heap.size := Nat.le_trans hsz hbl.size
  have hc := hv1.cell
  have hf := hv1.frozen
  obtain ⟨⟨y0, y1, y2, y3⟩, e0, e1, e2, e3⟩ := tok_loaded hx1
  have HV := Lib.hid hv1; have HROW := Lib.hid hrow1; have HBL := Lib.hid hbl; have HM := Lib.hid hm
  clear hv hrow hv1 hrow1 hbl hx1 hm
  unfold tok28
  go_enter Tryd.func21, Tryd.ntmps21
  subst hW1
  go_wp2_with ((with_reducible refine gate_dst (N := 7) rfl ?_); refine wpList_append_own _ rfl _ _ 22 rfl n1 28 i0 _ 4 40 Tryd.underlying22 hi hz0 hz1 hz2 rfl (by decide) _ _ _ rfl (HROW.out.alloc _) ⟨_, 0, none⟩ 1 1 (cells28 x) rfl rfl (cell_tok_new _ _ _ (World.size_alloc _ _)) (by simp [Value.oneCell', cells28]) (by simp only [maxLen]; omega) (by omega) (by simp; omega) ?_; intro v' w1 hown' hgrow _; obtain ⟨g', cap', rfl⟩ := ownsRow_succ hown'; obtain ⟨q1, q2, q3, q5, q6⟩ := out_put (n0 := n0) HV.out HROW.out hsz1 (by omega) hn0 hown' hgrow; have hc1 := q1.cell; have hf1 := q1.frozen)
  go_ret
  refine ⟨rfl, ⟨_, q2, ?_⟩, fun b h1 h2 h3 => (q6 b (Nat.lt_of_lt_of_le h1 HBL.out.size) h2 h3).trans (HBL.out.block b h1), (HBL.out.mono (by omega)).trans q5⟩
  rw [flat28_snoc, List.length_append, HM.out]
  exact q3
open Go.Shelf in
set_option maxRecDepth 100000 in
set_option maxHeartbeats 16000000 in
theorem yield_each : YieldC 29 := by
  refine ⟨enters_of Tryd.func29 (by kernel_rfl) rfl, ?_⟩
  intro W B n0 n1 xs x v hv hrow hsz hB hn0 hlen
  obtain ⟨i0, hi, hz0, hz1, hz2⟩ := info_parts info28
  generalize hm : xs.length = m at *
  obtain ⟨A, c, rfl⟩ : ∃ A c, v = .slice A m c := by
    obtain ⟨A, c, e, _⟩ := row28 hrow hm
    exact ⟨A, c, e⟩
  obtain ⟨W1, hW1⟩ : ∃ W1, W1 = W.alloc (.cells #[.int .i64 x.f0, .string x.f1, .int .i64 x.f2, .int .i64 x.f3] 28) := ⟨_, rfl⟩
  have hbl : Below W.heap.size W W1 := by rw [hW1]; exact (Below.refl _ _).alloc (Nat.le_refl _) _
  have hv1 : Boxed W1 B 22 (.slice A m c) := boxed_below hv hbl
  have hrow1 : W1.ownsRow n1 28 4 (.slice A m c) m (flat28 xs) := by rw [hW1]; exact hrow.alloc _
  have hx1 : W1.heap[W.heap.size]? = some (.cells #[.int .i64 x.f0, .string x.f1, .int .i64 x.f2, .int .i64 x.f3] 28) := by rw [hW1]; exact World.alloc_heap_new _ _
  have hsz1 : n1 ≤ W1.heap.size := Nat.le_trans hsz hbl.size
  have hc := hv1.cell
  have hf := hv1.frozen
  obtain ⟨⟨y0, y1, y2, y3⟩, e0, e1, e2, e3⟩ := tok_loaded hx1
  have HV := Lib.hid hv1; have HROW := Lib.hid hrow1; have HBL := Lib.hid hbl; have HM := Lib.hid hm
  clear hv hrow hv1 hrow1 hbl hx1 hm
  unfold tok28
  go_enter Tryd.func29, Tryd.ntmps29
  subst hW1
  go_wp2_with ((with_reducible refine gate_dst (N := 7) rfl ?_); refine wpList_append_own _ rfl _ _ 22 rfl n1 28 i0 _ 4 40 Tryd.underlying22 hi hz0 hz1 hz2 rfl (by decide) _ _ _ rfl (HROW.out.alloc _) ⟨_, 0, none⟩ 1 1 (cells28 x) rfl rfl (cell_tok_new _ _ _ (World.size_alloc _ _)) (by simp [Value.oneCell', cells28]) (by simp only [maxLen]; omega) (by omega) (by simp; omega) ?_; intro v' w1 hown' hgrow _; obtain ⟨g', cap', rfl⟩ := ownsRow_succ hown'; obtain ⟨q1, q2, q3, q5, q6⟩ := out_put (n0 := n0) HV.out HROW.out hsz1 (by omega) hn0 hown' hgrow; have hc1 := q1.cell; have hf1 := q1.frozen)
  go_ret
  refine ⟨rfl, ⟨_, q2, ?_⟩, fun b h1 h2 h3 => (q6 b (Nat.lt_of_lt_of_le h1 HBL.out.size) h2 h3).trans (HBL.out.block b h1), (HBL.out.mono (by omega)).trans q5⟩
  rw [flat28_snoc, List.length_append, HM.out]
  exact q3

end Go.Proofs.YtgpdahgpopmjiaaDoor.PL
