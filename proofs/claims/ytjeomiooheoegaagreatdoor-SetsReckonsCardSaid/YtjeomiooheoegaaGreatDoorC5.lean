/- Parts of the laws of sets and branch: functions of the program, each with the proof of what it answers; the conditions are those of each theorem. -/
import Derived.Test.YtjeomiooheoegaaGreatDoorC3
import Derived.Test.YtjeomiooheoegaaGreatDoorC4
import Derived.Sort.OwnSortedInts
import Derived.Lib.LazyBuf
namespace Go.Proofs.YtjeomiooheoegaaGreatDoor.PD
open Go.RowKit Go.Proofs.YtjeomiooheoegaaGreatDoorW.PrintWords Go.Proofs.YtjeomiooheoegaaGreatDoorW.PrintLast Go.Proofs.YtjeomiooheoegaaGreatDoorW.PrintMore
set_option linter.unusedVariables false
set_option linter.unusedSimpArgs false
/-! ### Clone, Sort, Compact of whole numbers -/
theorem infoI : (Tryz.prog.info? 2).map (fun i => (i.zero, i.size, i.bytes)) = some (some (.int .i64 0), 1, 8) := by kernel_rfl
theorem CI_none {w : World} {n : Nat} {l : List Int} (h : Kd.C (Kd.int .i64) w none n l) : l = [] := by
  cases l with
  | nil => rfl
  | cons s t =>
    have hn : n = (s :: t).length := h.1.symm
    obtain ⟨ad, e, _⟩ := Kd.at_int h 0 (by omega) (by rw [hn]; simp)
    cases e
set_option maxRecDepth 100000 in
set_option maxHeartbeats 8000000 in
theorem cloneI_big {v : Value} (l : List Int) (w : World) (h : LstI w v l) (hn2 : l.length ≤ 17592186044000) :
    Calls Tryz.prog 119 #[v] w fun e w' => ∃ v', e = .returned v' ∧ RowI w' w.heap.size v' l ∧ Below w.heap.size w w' := by
  obtain ⟨A, c, rfl, hC, hc⟩ := h
  have hu := Tryz.underlying50
  cases A with
  | none =>
    have h0 := CI_none hC
    subst h0
    clear hC hc
    go_enter Tryz.func119, Tryz.ntmps119
    go_wp2_with fail
    rw [run_eql_slice_nil _ 50 2 _ _ c hu]
    go_wp2_with fail
    go_ret
    exact ⟨_, rfl, RowI.nil _ _, Below.refl _ _⟩
  | some ad =>
    obtain ⟨i, hi1, hz, hs, hby⟩ := info_parts infoI
    have hown : (w.alloc (.cells #[] 2)).ownsRow w.heap.size 2 1 (.slice (some ⟨w.heap.size, 0, none⟩) 0 0) 0 [] :=
      ⟨rfl, .inr ⟨w.heap.size, 0, #[], rfl, Nat.le_refl _, World.alloc_heap_new _ _, Nat.le_refl _, by decide, rfl, rfl⟩⟩
    have hC2 : Kd.C (Kd.int .i64) (w.alloc (.cells #[] 2)) (some ad) l.length l := Kd.C_below hC ((Below.refl _ _).alloc (Nat.le_refl _) _)
    obtain ⟨news, hreps, hnews⟩ := ReadsRow.inner_ hC2
    have hnf : news = intsV l := ints_reps l news hreps
    subst hnf
    have hone := intsV_one l
    have hlen : (intsV l).length = l.length * 1 := by rw [intsV_len, Nat.mul_one]
    have hml : 0 + l.length ≤ maxLen := by simp only [maxLen]; omega
    have hle : w.heap.size ≤ (w.alloc (.cells #[] 2)).heap.size := by simp
    have hB0 : Below w.heap.size w (w.alloc (.cells #[] 2)) := (Below.refl _ _).alloc (Nat.le_refl _) _
    clear hreps hC hC2
    generalize hm : l.length = m at *
    have HM := Lib.hid hm
    go_enter Tryz.func119, Tryz.ntmps119
    go_wp2_with fail
    rw [run_eql_slice_nil _ 50 2 _ m c hu]
    go_wp2_with ((with_reducible refine gate_dst (N := 7) rfl ?_); refine wpList_append_own _ rfl _ _ 50 rfl w.heap.size 2 i _ 1 8 hu hi1 hz hs hby rfl (by decide) _ 0 [] rfl hown ad m c _ rfl hlen hnews hone hml (by omega) hle ?_; intro v' w' hown' hg hnil)
    go_ret
    have hb := hB0.grown hg hle (fun k hk => by cases hk; exact Nat.le_refl _)
    refine ⟨v', rfl, ?_, hb⟩
    refine RowI.mk ?_
    rw [HM.out]
    rw [Nat.zero_add, List.nil_append] at hown'
    exact hown'
theorem cloneI_calls {v : Value} (l : List Int) (w : World) (h : LstI w v l) (hn2 : l.length ≤ 1000000) :
    Calls Tryz.prog 119 #[v] w fun e w' => ∃ v', e = .returned v' ∧ RowI w' w.heap.size v' l ∧ Below w.heap.size w w' := cloneI_big l w h (by omega)
/-- a row's block -/
theorem RowI.block {w : World} {base : Nat} {v : Value} {l : List Int} (h : RowI w base v l) : (v = .slice none 0 0 ∧ l = []) ∨ ∃ g cap cur, v = .slice (some ⟨g, 0, none⟩) l.length cap ∧ base ≤ g ∧ w.heap[g]? = some (.cells cur 2 (0, 0)) ∧ l.length ≤ cap ∧ cap ≤ maxLen ∧ cur.size = cap * 1 ∧ cur.toList.take l.length = l.map (Value.int .i64) := by
  rcases h.own.2 with ⟨h1, h2⟩ | ⟨g, cap, cur, h1, h2, h3, h4, h5, h6, h7⟩
  · exact .inl ⟨h1, List.length_eq_zero_iff.1 h2⟩
  · refine .inr ⟨g, cap, cur, h1, h2, h3, h4, h5, h6, ?_⟩
    rw [Nat.mul_one] at h7
    exact h7
theorem sortI_calls {v : Value} {base : Nat} (l : List Int) (w : World) (h : RowI w base v l) (hb : base ≤ w.heap.size) (hl : l.length ≤ 1000000) :
    Calls Tryz.prog 174 #[v] w fun e w' => e = .returned (.tuple #[]) ∧ RowI w' base v (l.mergeSort fun x y => decide (x ≤ y)) ∧ w.grownBy w' v.ownBlock := by
  rcases h.block with ⟨rfl, rfl⟩ | ⟨g, cap, cur, rfl, hg, hc, h1, h2, h3, h4⟩
  · have hcon := AnyM.slices_Sort_int_none Tryz.sortI none 0 w
    change Calls Tryz.prog 174 _ _ _ at hcon
    refine hcon.mono ?_
    rintro e w' ⟨rfl, rfl⟩
    refine ⟨rfl, ?_, rfl, rfl, rfl, Nat.le_refl _, fun _ _ _ => rfl⟩
    rw [List.mergeSort_nil]
    exact h
  · have hcon := AnyM.slices_Sort_int Tryz.sortI g 0 cap l w (holds_of_blockI hc h4) (blk_lt hc) (by omega)
    change Calls Tryz.prog 174 _ _ _ at hcon
    refine hcon.mono ?_
    rintro e w' ⟨rfl, n, os, rfl⟩
    refine ⟨rfl, ?_, ?_⟩
    · refine RowI.mk ?_
      have := ownsRow_sortedI (n := n) (os := os) (ts := l.mergeSort fun x y => decide (x ≤ y)) (by simp) hg hc h1 h2 h3
      rw [List.length_mergeSort]
      exact this
    · exact grownBy_sortedI _
theorem compact_mem (d : Array Int) (m : Nat) (hm : m ≤ d.size) (v : Int) : v ∈ Lib.compactUpTo d m ↔ v ∈ d.toList.take m := by
  induction m with
  | zero => simp [Lib.compactUpTo]
  | succ m ih =>
    have hlt : m < d.size := by omega
    have hl : m < d.toList.length := by simpa using hlt
    rw [Lib.compactUpTo_succ, List.mem_append, ih (by omega), List.take_succ_eq_append_getElem hl, List.mem_append, List.mem_singleton]
    have e : d[m]! = d.toList[m] := by rw [getElem!_pos d m hlt]; simp
    constructor
    · rintro (h | h)
      · exact .inl h
      · split at h
        · rw [List.mem_singleton] at h
          exact .inr (h.trans e)
        · cases h
    · rintro (h | rfl)
      · exact .inl h
      · by_cases hk : Lib.keeps d m = true
        · right
          rw [if_pos hk, ← e]
          simp
        · left
          by_cases h0 : m = 0
          · subst h0
            exact absurd (Lib.keeps_lt_one d 0 (by omega)) hk
          · have hne : d[m]! = d[m - 1]! := by
              refine Classical.byContradiction fun q => hk (Lib.keeps_pos q)
            rw [← e, hne, getElem!_pos d (m - 1) (by omega)]
            have hl2 : m - 1 < d.toList.length := by simp; omega
            have : d[m - 1] = d.toList[m - 1] := by simp
            rw [this]
            exact List.mem_take_iff_getElem.2 ⟨m - 1, by simp; omega, rfl⟩
theorem compact_ris (d : Array Int) (hs : d.toList.Pairwise (· ≤ ·)) (m : Nat) (hm : m ≤ d.size) : Ris (Lib.compactUpTo d m) ∧ ∀ x ∈ Lib.compactUpTo d m, ∀ h : m - 1 < d.size, 0 < m → x ≤ d[m - 1] := by
  induction m with
  | zero => exact ⟨by simp [Lib.compactUpTo, Ris], fun x hx => by simp [Lib.compactUpTo] at hx⟩
  | succ m ih =>
    obtain ⟨i1, i2⟩ := ih (by omega)
    have hlt : m < d.size := by omega
    have hle : ∀ h : m - 1 < d.size, 0 < m → d[m - 1] ≤ d[m] := fun h h0 => by
      have := List.pairwise_iff_getElem.1 hs (m - 1) m (by simpa using h) (by simpa using hlt) (by omega)
      simpa using this
    rw [Lib.compactUpTo_succ]
    by_cases hk : Lib.keeps d m = true
    · rw [if_pos hk, getElem!_pos d m hlt]
      have hstrict : ∀ x ∈ Lib.compactUpTo d m, x < d[m] := by
        intro x hx
        by_cases h0 : m = 0
        · subst h0
          simp [Lib.compactUpTo] at hx
        · have h1 := i2 x hx (by omega) (by omega)
          have h2 := hle (by omega) (by omega)
          have h3 : d[m - 1] ≠ d[m] := by
            intro e
            unfold Lib.keeps at hk
            rw [decide_eq_true_iff, getElem!_pos d m hlt, getElem!_pos d (m - 1) (by omega)] at hk
            rcases hk with hk | hk
            · exact h0 hk
            · exact hk e.symm
          omega
      refine ⟨?_, fun x hx _ _ => ?_⟩
      · unfold Ris
        rw [List.pairwise_append]
        exact ⟨i1, List.pairwise_singleton _ _, fun x hx y hy => by rw [List.mem_singleton] at hy; rw [hy]; exact hstrict x hx⟩
      · rw [List.mem_append, List.mem_singleton] at hx
        show x ≤ d[m + 1 - 1]
        simp only [Nat.add_sub_cancel]
        rcases hx with hx | rfl
        · have := hstrict x hx
          omega
        · exact Int.le_refl _
    · rw [if_neg hk, List.append_nil]
      refine ⟨i1, fun x hx _ _ => ?_⟩
      show x ≤ d[m + 1 - 1]
      simp only [Nat.add_sub_cancel]
      by_cases h0 : m = 0
      · subst h0
        simp [Lib.compactUpTo] at hx
      · have := i2 x hx (by omega) (by omega)
        have := hle (by omega) (by omega)
        omega
/-- two rising lists, put together, sorted and each once -/
theorem compact_uni (a b : List Int) (ha : Ris a) (hb : Ris b) : Lib.compactUpTo ((a ++ b).mergeSort fun x y => decide (x ≤ y)).toArray ((a ++ b).mergeSort fun x y => decide (x ≤ y)).toArray.size = uniL a b := by
  have hs : ((a ++ b).mergeSort fun x y => decide (x ≤ y)).Pairwise (· ≤ ·) := by
    have := List.pairwise_mergeSort (le := fun (x y : Int) => decide (x ≤ y)) (fun a b c h1 h2 => by simp at h1 h2 ⊢; omega) (fun a b => by simp; omega) (a ++ b)
    exact this.imp (fun h => by simpa using h)
  refine ris_ext _ _ (compact_ris _ hs _ (Nat.le_refl _)).1 (uniL_ris a b ha hb) fun v => ?_
  rw [compact_mem _ _ (Nat.le_refl _), uniL_mem]
  have e : ((a ++ b).mergeSort fun x y => decide (x ≤ y)).toArray.toList.take ((a ++ b).mergeSort fun x y => decide (x ≤ y)).toArray.size = (a ++ b).mergeSort fun x y => decide (x ≤ y) := List.take_of_length_le (by simp)
  rw [e, List.mem_mergeSort, List.mem_append]
theorem compactI_calls {v : Value} {base : Nat} (l : List Int) (w : World) (h : RowI w base v l) (hb : base ≤ w.heap.size) (hl : l.length ≤ 1000000) :
    Calls Tryz.prog 175 #[v] w fun e w' => ∃ v', e = .returned v' ∧ RowI w' base v' (Lib.compactUpTo l.toArray l.toArray.size) ∧ w.grownBy w' v.ownBlock := by
  rcases h.block with ⟨rfl, rfl⟩ | ⟨g, cap, cur, rfl, hg, hc, h1, h2, h3, h4⟩
  · go_enter Tryz.func175, Tryz.ntmps175
    go_wp2_with fail
    go_ret
    exact ⟨_, rfl, RowI.nil _ _, rfl, rfl, rfl, Nat.le_refl _, fun _ _ _ => rfl⟩
  · have hcon := AnyE.slices_Compact Tryz.compactI (Value.int .i64) (fun _ => rfl) (EqlAt.intD _ _ .i64) (NeqAt.intD _ _ .i64) (0 : Int) (fun w => by kernel_rfl) g 0 cap l.toArray w (holds_of_blockI hc h4) (by simp; omega) (by simpa using h1)
    change Calls Tryz.prog 175 _ _ _ at hcon
    rw [show l.toArray.size = l.length by simp] at hcon ⊢
    obtain ⟨C, hC⟩ : ∃ C, Lib.compactUpTo l.toArray l.length = C := ⟨_, rfl⟩
    have hcl : C.length ≤ l.length := by
      rw [← hC]
      unfold Lib.compactUpTo
      rw [List.length_map]
      exact Nat.le_trans (List.length_filter_le _ _) (by simp)
    rw [hC] at hcon ⊢
    refine hcon.mono ?_
    rintro e w' ⟨rfl, q, rfl⟩
    have hl2 : (C ++ List.replicate (l.length - C.length) 0).length = l.length := by simp; omega
    have hrow := ownsRow_sortedI (n := q) (os := #[]) (ts := C ++ List.replicate (l.length - C.length) 0) hl2 hg hc h1 h2 h3
    have hgr := grownBy_sortedI (w := w) (g := g) (n := q) (os := #[]) (C ++ List.replicate (l.length - C.length) 0).toArray
    have e0 : ∀ W : World, Sort.grow W #[] = W := fun W => by unfold Sort.grow; simp
    rw [e0] at hrow hgr
    refine ⟨_, rfl, ?_, hgr⟩
    refine RowI.mk ?_
    rcases hrow.2 with ⟨hx, _⟩ | ⟨g2, cap2, cur2, hx, k1, k2, k3, k4, k5, k6⟩
    · cases hx
    · injection hx with hx1 hx2 hx3
      injection hx1 with hx1
      injection hx1 with hx1
      subst hx1 hx3
      refine ⟨by rw [intsV_len, Nat.mul_one], .inr ⟨g, cap, cur2, rfl, k1, k2, by omega, k4, k5, ?_⟩⟩
      rw [Nat.mul_one] at k6 ⊢
      have := congrArg (List.take C.length) k6
      rw [List.take_take, Nat.min_eq_left hcl] at this
      rw [this]
      unfold intsV
      rw [List.map_append, List.take_left' (by simp)]

end Go.Proofs.YtjeomiooheoegaaGreatDoor.PD

namespace Go.Proofs.YtjeomiooheoegaaGreatDoor.PD
open Go.RowKit Go.Proofs.YtjeomiooheoegaaGreatDoorW.PrintWords Go.Proofs.YtjeomiooheoegaaGreatDoorW.PrintLast Go.Proofs.YtjeomiooheoegaaGreatDoorW.PrintMore
set_option linter.unusedVariables false
set_option linter.unusedSimpArgs false
/-! ### Concat of whole numbers -/
section
variable {ops : Array Oper} {rest : List Oper} {o : Oper} {a : Act} {Q : Exit → Act → World → Prop}
theorem appendI_lst {w0 W : World} (base : Nat) (hgd : o.guard = none) (s x : Operand)
    (ho : o.op = .call { callee := .builtin .append, args := #[s, x], argTypes := #[50, 50] })
    (v : Value) (xs ys : List Int) (A : Option Addr) (m c : Nat) (hs : a.eval s = v) (hx : a.eval x = .slice A m c)
    (HO : RowI W base v xs) (HR : Kd.C (Kd.int .i64) W A m ys) (HB : Below base w0 W) (hbase : base ≤ W.heap.size) (hl : xs.length + m ≤ 8796093022000)
    (h : ∀ v1 w1, RowI w1 base v1 (xs ++ ys) → Below base w0 w1 → wpList Tryz.prog ops Q rest (a.put o.dst v1) w1) :
    wpList Tryz.prog ops Q (o :: rest) a W := by
  refine Kd.R_append_rows (Kd.int .i64) (w0 := w0) base hgd s x 50 2 (.int .i64 0) 8 ho Tryz.underlying50 infoI rfl (by decide) (by omega) v xs ys A m c (fun _ => True) (fun _ => False) hs hx HO HR (fun _ _ h => h) (fun _ h => h.elim) (fun _ _ => trivial) HB hbase (by omega) ?_
  intro v1 w1 ho1 hb1 _ _
  exact h v1 w1 ho1 hb1
end
theorem growI_room (w : World) : Calls Tryz.prog 199 #[.slice none 0 0, .int .i64 0] w fun e w' => e = .returned (.slice none 0 0) ∧ w' = w := by
  have h := Any8.slices_Grow_room Tryz.growI none 0 0 0 w (by omega) (by omega) (by omega) (by omega)
  change Calls Tryz.prog 199 _ _ _ at h
  exact h
theorem zeroI_size (n : Nat) : (Builtin.zeroCells #[(.int .i64 0 : Value)] n).size = n := by
  unfold Builtin.zeroCells
  simp
theorem growI_calls (n : Nat) (hn : n ≤ 1000000) (w : World) : Calls Tryz.prog 199 #[.slice none 0 0, .int .i64 n] w fun e w' => ∃ v', e = .returned v' ∧ RowI w' w.heap.size v' [] ∧ Below w.heap.size w w' := by
  by_cases h0 : n = 0
  · subst h0
    refine (growI_room w).mono ?_
    rintro e w' ⟨rfl, rfl⟩
    exact ⟨_, rfl, RowI.nil _ _, Below.refl _ _⟩
  · obtain ⟨i0, hi0, hz0, hz1, hz2⟩ := info_parts infoI
    have h := Any8.slices_Grow_grow Tryz.growI i0 (.int .i64 0) hi0 hz0 (by omega) none 0 0 n [] w (by omega) (by omega) (by rw [hz2]; omega) (by omega) (by simp) (fun _ => rfl) (fun a ha => by cases ha)
    change Calls Tryz.prog 199 _ _ _ at h
    refine h.mono ?_
    rintro e w' ⟨rfl, rfl⟩
    have hg1 := grownCap_ge w (0 + n) 0 (Tryz.growI_ren.t 25)
    have hg2 := grownCap_le_maxLen w (0 + n) 0 (Tryz.growI_ren.t 25) (by unfold maxLen; omega)
    generalize grownCap w (0 + n) 0 (Tryz.growI_ren.t 25) = G at *
    refine ⟨_, rfl, RowI.mk ⟨rfl, .inr ⟨w.heap.size, G, _, rfl, Nat.le_refl _, World.alloc_heap_new _ _, Nat.zero_le _, hg2, ?_, rfl⟩⟩, ((Below.refl _ _).drew).alloc (Nat.le_refl _) _⟩
    rw [Array.size_append, Array.size_append]
    have e1 := zeroI_size (0 + n - 0)
    have e2 := zeroI_size (G - (0 + n))
    have e3 : (Value.int .i64 0).cells = #[(.int .i64 0 : Value)] := by rfl
    rw [e3, e1, e2]
    simp
    omega
theorem indexSI_at (b : Nat) (m c : Nat) (i : Int) (h : 0 ≤ i ∧ i < m) (W : World) : (Instr.indexAt 77 (.slice (some ⟨b, 0, none⟩) m c) (.int .i64 i)).run Tryz.prog W = .ok (.pointer (some ⟨b, i.toNat, none⟩)) W := by
  obtain ⟨h1, h2⟩ := h
  rw [run_indexAt_slice (k := .i64) (h := by kernel_rfl)]
  simp [go_sem, h1, h2, add_zero_off]
set_option maxRecDepth 100000 in
set_option maxHeartbeats 8000000 in
theorem concatI_calls {v1 v2 : Value} (a b : List Int) (g : Nat) (w : World) (h1 : LstI w v1 a) (h2 : LstI w v2 b) (ha : a.length ≤ 100000) (hb : b.length ≤ 100000) (c0 : w.cell? ⟨g, 0, none⟩ = some v1) (c1 : w.cell? ⟨g, 1, none⟩ = some v2) :
    Calls Tryz.prog 173 #[.slice (some ⟨g, 0, none⟩) 2 2] w fun e w' => ∃ v', e = .returned v' ∧ RowI w' w.heap.size v' (a ++ b) ∧ Below w.heap.size w w' := by
  obtain ⟨A1, k1, rfl, hC1, hk1⟩ := h1
  obtain ⟨A2, k2, rfl, hC2, hk2⟩ := h2
  have HC1 := Lib.hid hC1; have HC2 := Lib.hid hC2
  have HG := Lib.hid (fun n hn W => growI_calls n hn W)
  have HCELL := Lib.hid (fun W (h : Below w.heap.size w W) => (⟨(h.cell (World.block_lt_of_cell? w _ c0)).trans c0, (h.cell (World.block_lt_of_cell? w _ c1)).trans c1⟩ : W.cell? ⟨g, 0, none⟩ = some (.slice A1 a.length k1) ∧ W.cell? ⟨g, 1, none⟩ = some (.slice A2 b.length k2)))
  clear hC1 hC2
  obtain ⟨n1, hn1⟩ : ∃ n, a.length = n := ⟨_, rfl⟩
  obtain ⟨n2, hn2⟩ : ∃ n, b.length = n := ⟨_, rfl⟩
  rw [hn1] at HC1 HCELL c0 ha
  rw [hn2] at HC2 HCELL c1 hb
  have HN1 := Lib.hid hn1; have HN2 := Lib.hid hn2
  clear hn1 hn2 hk1 hk2
  have hix0 := fun W => indexSI_at g 2 2 0 (by omega) W
  have hix1 := fun W => indexSI_at g 2 2 1 (by omega) W
  simp only [Int.toNat_zero, Int.toNat_one] at hix0 hix1
  go_enter Tryz.func173, Tryz.ntmps173
  go_wp2_with fail
  go_loopw [3, 11] (fun s i wr => wr = w ∧ ((i = .int .i64 0 ∧ s = .int .i64 0) ∨ (i = .int .i64 1 ∧ s = .int .i64 (n1 : Nat)) ∨ (i = .int .i64 2 ∧ s = .int .i64 ((n1 + n2 : Nat) : Int))))
    (fun _ i _ => 2 - (intOf i).toNat)
  case atStart => exact ⟨rfl, .inl ⟨rfl, rfl⟩⟩
  case round =>
    obtain ⟨rfl, ⟨rfl, rfl⟩ | ⟨rfl, rfl⟩ | ⟨rfl, rfl⟩⟩ := hrel
    · have hw1 : IntKind.i64.wrap (n1 : Int) = n1 := IntWalk.i64_in _ (by omega)
      have hng : decide ((n1 : Int) < 0) = false := decide_eq_false (by omega)
      go_wp2_with fail
      refine ⟨⟨trivial, .inr (.inl ⟨rfl, rfl⟩)⟩, by simp [intOf]⟩
    · have hw1 : IntKind.i64.wrap ((n1 : Int) + n2) = n1 + n2 := IntWalk.i64_in _ (by omega)
      have hng : decide ((n1 : Int) + n2 < 0) = false := decide_eq_false (by omega)
      go_wp2_with fail
      refine ⟨⟨trivial, .inr (.inr ⟨rfl, by rw [Int.natCast_add]⟩)⟩, by simp [intOf]⟩
    · have HGG := Lib.hid (HG.out (n1 + n2) (by omega) wr)
      clear c0 c1
      generalize n1 + n2 = n at *
      go_wp2_with fail
      refine HGG.out.mono ?_
      rintro e w2 ⟨v3, rfl, hO2, hb2⟩
      have HO2 := Lib.hid hO2; have HB2 := Lib.hid hb2
      clear hO2 hb2
      go_wp2_with fail
      go_loopw [6, 27] (fun o i w3 => Hid (Below wr.heap.size wr w3) ∧ ((i = .int .i64 0 ∧ Hid (RowI w3 wr.heap.size o [])) ∨ (i = .int .i64 1 ∧ Hid (RowI w3 wr.heap.size o a)) ∨ (i = .int .i64 2 ∧ Hid (RowI w3 wr.heap.size o (a ++ b)))))
        (fun _ i _ => 2 - (intOf i).toNat)
      case atStart => exact ⟨HB2, .inl ⟨rfl, HO2⟩⟩
      case round =>
        obtain ⟨hB, ⟨rfl, hO⟩ | ⟨rfl, hO⟩ | ⟨rfl, hO⟩⟩ := hrel
        · obtain ⟨q0, q1⟩ := HCELL.out _ hB.out
          obtain ⟨A3, c3, rfl, _⟩ := RowI.form hO.out
          have HCX := Lib.hid (Kd.C_below HC1.out hB.out)
          have hsz := hB.out.size
          go_wp2_with ((with_reducible refine gate_builtin (b := .append) (xs := #[.tmp 31, .tmp 32]) rfl ?_); at_builtin; refine appendI_lst (w0 := _) _ rfl (.tmp 31) (.tmp 32) rfl _ [] _ _ _ _ rfl rfl hO.out HCX.out hB.out hsz (by have := HN1.out; first | omega | (simp; omega)) ?_; intro v6 w6 hO6 hb6; have HO6 := Lib.hid hO6; have HB6 := Lib.hid hb6; clear hO6 hb6)
          refine ⟨⟨HB6, .inr (.inl ⟨rfl, HO6⟩)⟩, by simp [intOf]⟩
        · obtain ⟨q0, q1⟩ := HCELL.out _ hB.out
          obtain ⟨A3, c3, rfl, _⟩ := RowI.form hO.out
          have HCX := Lib.hid (Kd.C_below HC2.out hB.out)
          have hsz := hB.out.size
          go_wp2_with ((with_reducible refine gate_builtin (b := .append) (xs := #[.tmp 31, .tmp 32]) rfl ?_); at_builtin; refine appendI_lst (w0 := _) _ rfl (.tmp 31) (.tmp 32) rfl _ a _ _ _ _ rfl rfl hO.out HCX.out hB.out hsz (by have := HN1.out; first | omega | (simp; omega)) ?_; intro v6 w6 hO6 hb6; have HO6 := Lib.hid hO6; have HB6 := Lib.hid hb6; clear hO6 hb6)
          refine ⟨⟨HB6, .inr (.inr ⟨rfl, HO6⟩)⟩, by simp [intOf]⟩
        · go_wp2_with fail
          go_ret
          exact ⟨_, rfl, hO.out, hB.out⟩

end Go.Proofs.YtjeomiooheoegaaGreatDoor.PD
