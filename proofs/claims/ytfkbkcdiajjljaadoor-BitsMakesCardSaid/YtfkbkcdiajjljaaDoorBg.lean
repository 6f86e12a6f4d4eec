/- Parts of the laws of bits: functions of the program, each with the proof of what it answers; the conditions are those of each theorem. -/
import Derived.Test.YtfkbkcdiajjljaaDoorBf
import Derived.Maps.AppendAt
namespace Go.Proofs.YtfkbkcdiajjljaaDoor.PBitsSteps
open Go.RowKit Go.Proofs.YtfkbkcdiajjljaaDoorW.PrintWords Go.Proofs.YtfkbkcdiajjljaaDoorW.PrintLast Go.Proofs.YtfkbkcdiajjljaaDoorW.PrintMore
set_option linter.unusedVariables false
set_option linter.unusedSimpArgs false
/-! ### Ranges -/
def rgStep (out : List S71) (v : Int) : List S71 :=
  match out.getLast? with
  | some s => if s.f1 + 1 = v then out.dropLast ++ [⟨s.f0, v⟩] else out ++ [⟨v, v⟩]
  | none => [⟨v, v⟩]
theorem rgStep_nil (v : Int) : rgStep [] v = [⟨v, v⟩] := rfl
theorem rgStep_hit (ys : List S71) (s : S71) (v : Int) (h : s.f1 + 1 = v) : rgStep (ys ++ [s]) v = ys ++ [⟨s.f0, v⟩] := by
  simp [rgStep, h]
theorem rgStep_miss (ys : List S71) (s : S71) (v : Int) (h : ¬ s.f1 + 1 = v) : rgStep (ys ++ [s]) v = ys ++ [s] ++ [⟨v, v⟩] := by
  simp [rgStep, h]
def rg (l : List Int) : List S71 := l.foldl rgStep []
theorem rg_snoc (l : List Int) (v : Int) : rg (l ++ [v]) = rgStep (rg l) v := by simp [rg]
theorem snoc_cases {α : Type} (l : List α) : l = [] ∨ ∃ ys s, l = ys ++ [s] := by
  rcases List.eq_nil_or_concat l with h | ⟨ys, s, h⟩
  · exact .inl h
  · exact .inr ⟨ys, s, by rw [h, List.concat_eq_append]⟩
theorem rgStep_props (out : List S71) (v : Int) (P : S71 → Prop) (h : ∀ s ∈ out, P s) (hv : P ⟨v, v⟩) (hx : ∀ s, P s → P ⟨s.f0, v⟩) : (∀ s ∈ rgStep out v, P s) ∧ (rgStep out v).length ≤ out.length + 1 := by
  rcases snoc_cases out with rfl | ⟨ys, s, rfl⟩
  · rw [rgStep_nil]
    exact ⟨fun s hs => by simp at hs; subst hs; exact hv, by simp⟩
  · have hs := h s (by simp)
    have hys : ∀ s ∈ ys, P s := fun s hs => h s (by simp [hs])
    by_cases e : s.f1 + 1 = v
    · rw [rgStep_hit ys s v e]
      refine ⟨fun t ht => ?_, by simp⟩
      simp only [List.mem_append, List.mem_singleton] at ht
      rcases ht with ht | rfl
      · exact hys t ht
      · exact hx s hs
    · rw [rgStep_miss ys s v e]
      refine ⟨fun t ht => ?_, by simp⟩
      simp only [List.mem_append, List.mem_singleton] at ht
      rcases ht with (ht | rfl) | rfl
      · exact hys t ht
      · exact hs
      · exact hv
theorem rg_props (P : S71 → Prop) (Q : Int → Prop) (hv : ∀ v, Q v → P ⟨v, v⟩) (hx : ∀ s v, P s → Q v → P ⟨s.f0, v⟩) : ∀ l : List Int, (∀ v ∈ l, Q v) → (∀ s ∈ rg l, P s) ∧ (rg l).length ≤ l.length := by
  intro l
  obtain ⟨r, rfl⟩ : ∃ r, l = r.reverse := ⟨l.reverse, by simp⟩
  induction r with
  | nil => intro _; exact ⟨fun s hs => by simp [rg] at hs, by simp [rg]⟩
  | cons v r ih =>
    intro h
    rw [List.reverse_cons] at h ⊢
    have ih := ih (fun v hv => h v (by simp at hv; simp [hv]))
    have hq : Q v := h v (by simp)
    rw [rg_snoc]
    have := rgStep_props (rg r.reverse) v P ih.1 (hv v hq) (fun s hs => hx s v hs hq)
    refine ⟨this.1, Nat.le_trans this.2 ?_⟩
    simp only [List.length_append, List.length_cons, List.length_nil]
    omega
def cells71 (s : S71) : List Value := [.int .i64 s.f0, .int .i64 s.f1]
def flat71 (xs : List S71) : List Value := xs.flatMap cells71
theorem flat71_len (xs : List S71) : (flat71 xs).length = xs.length * 2 := by
  induction xs with
  | nil => rfl
  | cons s xs ih =>
    have : flat71 (s :: xs) = cells71 s ++ flat71 xs := by simp [flat71]
    rw [this, List.length_append, ih, List.length_cons]
    show 2 + _ = _
    omega
theorem flat71_snoc (ys : List S71) (s : S71) : flat71 (ys ++ [s]) = flat71 ys ++ cells71 s := by simp [flat71]
theorem flat71_last (ys : List S71) (s : S71) : (flat71 (ys ++ [s]))[ys.length * 2 + 1]? = some (.int .i64 s.f1) := by
  rw [flat71_snoc, List.getElem?_append_right (by rw [flat71_len]; omega), flat71_len, Nat.add_sub_cancel_left]
  rfl
theorem flat71_set (ys : List S71) (s : S71) (v : Int) : (flat71 (ys ++ [s])).set (ys.length * 2 + 1) (.int .i64 v) = flat71 (ys ++ [⟨s.f0, v⟩]) := by
  rw [flat71_snoc, flat71_snoc, List.set_append_right _ _ (by rw [flat71_len]; omega), flat71_len, Nat.add_sub_cancel_left]
  rfl
theorem flat71_reps (w : World) (xs : List S71) : Reps (k71.K w) 2 xs (flat71 xs) := by
  obtain ⟨r, rfl⟩ : ∃ r, xs = r.reverse := ⟨xs.reverse, by simp⟩
  induction r with
  | nil => exact Reps.none _ _
  | cons s r ih =>
    rw [List.reverse_cons, flat71_snoc]
    exact ih.snoc (k71_mk w s) rfl
theorem row71 {w : World} {base n : Nat} {v : Value} {xs : List S71} (h : w.ownsRow base 71 2 v n (flat71 xs)) (hn : xs.length = n) : ∃ A c, v = .slice A n c ∧ Kd.C k71 w A n xs :=
  own_reads_row h (flat71_reps w xs) hn
theorem row_form {w : World} {base e size n : Nat} {v : Value} {xs : List Value} (h : w.ownsRow base e size v n xs) : ∃ A c, v = .slice A n c := by
  rcases h.2 with ⟨rfl, rfl⟩ | ⟨g, cap, cur, rfl, _⟩
  · exact ⟨_, _, rfl⟩
  · exact ⟨_, _, rfl⟩

theorem keepsB_grown {bs : List Nat} {W W' : World} {row : Option Nat} (hbs : ∀ b ∈ bs, b < W.heap.size) (hg : W.grownBy W' row) (hr : ∀ r, row = some r → r ∉ bs) : keepsB bs W W' :=
  fun b hb => hg.block b (hbs b hb) (fun e => hr b e.symm hb)
theorem keepsB_trans {bs : List Nat} {A B C : World} (h : keepsB bs A B) (k : keepsB bs B C) : keepsB bs A C := fun b hb => (k b hb).trans (h b hb)
theorem ownFrom_keepsB {β : Type} (bs : List Nat) (W0 : World) (hbs : ∀ b ∈ bs, b < W0.heap.size) : OwnFrom W0.heap.size (fun (_ : β) W => keepsB bs W0 W) := by
  intro s W W' row hs hg hr b hb
  have hlt : b < W.heap.size := by
    have h1 := hs b hb
    rw [Array.getElem?_eq_getElem (hbs b hb)] at h1
    exact (Array.getElem?_eq_some_iff.1 h1).1
  refine (hg.block b hlt (fun e => ?_)).trans (hs b hb)
  have := (hr b e.symm).1
  have := hbs b hb
  omega
theorem ownFrom_size {β : Type} (n : Nat) (W0 : World) : OwnFrom n (fun (_ : β) (W : World) => W0.heap.size ≤ W.heap.size) := fun _ _ _ _ hs hg _ => Nat.le_trans hs hg.size
theorem row_out {W0 W : World} {e size k b : Nat} {v : Value} {xs : List Value} (h : W.ownsRow W0.heap.size e size v k xs) (hb : b < W0.heap.size) : some b ≠ v.ownBlock := by
  intro e
  have := own_base h b e.symm
  omega
theorem out_put {bs : List Nat} {W0 W w1 : World} {n0 B : Nat} {v v' : Value} {k m : Nat} {xs ys : List Value} {tmp : Obj}
    (hv : Boxed W B 22 v) (hrow : W.ownsRow W0.heap.size 71 2 v k xs) (hsz : W0.heap.size ≤ W.heap.size) (hn0 : n0 ≤ W0.heap.size) (hB : n0 ≤ B) (hbs : ∀ b ∈ bs, b < W0.heap.size ∧ b ≠ B)
    (hown' : w1.ownsRow W0.heap.size 71 2 v' m ys) (hgrow : (W.alloc tmp).grownBy w1 v.ownBlock) :
    Boxed w1 B 22 v ∧ Boxed (w1.setCell ⟨B, 0, none⟩ v') B 22 v' ∧ (w1.setCell ⟨B, 0, none⟩ v').ownsRow W0.heap.size 71 2 v' m ys ∧ KeepsOthers W (w1.setCell ⟨B, 0, none⟩ v') ∧ Below n0 W (w1.setCell ⟨B, 0, none⟩ v') ∧ keepsB bs W (w1.setCell ⟨B, 0, none⟩ v') ∧ W0.heap.size ≤ (w1.setCell ⟨B, 0, none⟩ v').heap.size := by
  obtain ⟨a1, a2, a3, a4, a5⟩ := hv.appended (t := 22) (e := 71) (n₀ := n0) (by decide) (own_weaken hrow hn0) (by omega) hB (own_weaken hown' hn0) hgrow
  refine ⟨a1, a2, hown'.kept (grownBy_setCell' w1 B v') (.inr (a1.not_row (by decide) hown').symm), a4, a5, ?_, Nat.le_trans hsz a4.size⟩
  intro b hb
  obtain ⟨h1, h2⟩ := hbs b hb
  refine (Below.heap_setCell _ _ _ b h2).trans ((hgrow.block b (by simp; omega) (row_out hrow h1)).trans (Below.heap_alloc _ _ b (by omega)))
theorem out_last {bs : List Nat} {W0 W : World} {n0 B g cap k : Nat} {xs : List Value} (hv : Boxed W B 22 (.slice (some ⟨g, 0, none⟩) k cap)) (hrow : W.ownsRow W0.heap.size 71 2 (.slice (some ⟨g, 0, none⟩) k cap) k xs) (hn0 : n0 ≤ W0.heap.size) (hbs : ∀ b ∈ bs, b < W0.heap.size) (j : Nat) (u : Value) :
    Boxed (W.setCell ⟨g, j, none⟩ u) B 22 (.slice (some ⟨g, 0, none⟩) k cap) ∧ (W.setCell ⟨g, j, none⟩ u).ownsRow W0.heap.size 71 2 (.slice (some ⟨g, 0, none⟩) k cap) k (xs.set j u) ∧ KeepsOthers W (W.setCell ⟨g, j, none⟩ u) ∧ Below n0 W (W.setCell ⟨g, j, none⟩ u) ∧ keepsB bs W (W.setCell ⟨g, j, none⟩ u) := by
  have hg : W0.heap.size ≤ g := own_base hrow g rfl
  have hne := hv.not_row (by decide) hrow
  obtain ⟨b1, b2⟩ := hrow.stored j u
  refine ⟨hv.kept b2 (fun e => hne (by rw [e]; rfl)), b1, KeepsOthers.setCell _ _ _, (Below.refl n0 W).setCell (p := ⟨g, j, none⟩) (by show n0 ≤ g; omega) _, ?_⟩
  intro b hb
  have := hbs b hb
  exact Below.heap_setCell _ _ _ b (by show b ≠ g; omega)
theorem Tryd.info71 : (Tryd.prog.info? 71).map (fun i => (i.zero, i.size, i.bytes)) = some (some (.agg #[.int .i64 0, .int .i64 0]), 2, 16) := by kernel_rfl
theorem cell_pair_new (w : World) (x y : Value) (t : TypeId) : ∀ j u, [x, y][j]? = some u → (w.alloc (.cells #[x, y] t)).cell? ((⟨w.heap.size, 0, none⟩ : Addr).add j) = some u := by
  intro j u hj
  rw [add_zero_off]
  refine (blk_cell (World.alloc_heap_new w (.cells #[x, y] t)) j).trans ?_
  rw [← hj]
  simp
def valL {M : Int → Bool} (pre : List (Val M)) : List Int := pre.map (·.1)
theorem valL_snoc {M : Int → Bool} (pre : List (Val M)) (x : Val M) : valL (pre ++ [x]) = valL pre ++ [x.1] := by simp [valL]
def OutAt (W : World) (B n1 : Nat) (out : List S71) : Prop := ∃ v, Boxed W B 22 v ∧ W.ownsRow n1 71 2 v out.length (flat71 out)
theorem ownFrom_out {β : Type} (k B n1 : Nat) (F : β → List S71) : OwnFrom k (fun s W => OutAt W B n1 (F s)) := by
  intro s W W' row ⟨v, h1, h2⟩ hg hr
  obtain ⟨v, a, b, _⟩ := (Own.from (holdsRow_own n1 B 22 71 2 (fun s => (F s).length) (fun s => flat71 (F s)) (fun _ _ => True)) k) s W W' row ⟨v, h1, h2, trivial⟩ hg hr
  exact ⟨v, a, b⟩

end Go.Proofs.YtfkbkcdiajjljaaDoor.PBitsSteps
