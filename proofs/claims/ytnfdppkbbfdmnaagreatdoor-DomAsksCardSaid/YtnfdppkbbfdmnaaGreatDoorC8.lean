/- Parts of the laws of dom: functions of the program, each with the proof of what it answers; the conditions are those of each theorem. -/
import Derived.Test.YtnfdppkbbfdmnaaGreatDoorC6
import Derived.Test.YtnfdppkbbfdmnaaGreatDoorC7
import Derived.ArgAppend
namespace Go.Proofs.YtnfdppkbbfdmnaaGreatDoor.PD
open Go.RowKit Go.Proofs.YtnfdppkbbfdmnaaGreatDoorW.PrintWords Go.Proofs.YtnfdppkbbfdmnaaGreatDoorW.PrintLast Go.Proofs.YtnfdppkbbfdmnaaGreatDoorW.PrintMore
set_option linter.unusedVariables false
set_option linter.unusedSimpArgs false
/-! ### the library's sort at ranges -/
instance : Inhabited S57 := ⟨z57⟩
def cmpI (x y : Int) : Int := if x < y then -1 else if x > y then 1 else 0
set_option maxHeartbeats 4000000 in
theorem nan_calls (x : Int) (W : World) : Calls Tryz.prog 81 #[.int .i64 x] W fun e w' => e = .returned (.bool false) ∧ w' = W := by
  go_enter Tryz.func81, Tryz.ntmps81
  go_wp2_with fail
  go_ret
  exact ⟨by first | rfl | simp, rfl⟩
set_option maxHeartbeats 4000000 in
theorem compare_calls (x y : Int) (W : World) : Calls Tryz.prog 58 #[.int .i64 x, .int .i64 y] W fun e w' => e = .returned (.int .i64 (cmpI x y)) ∧ w' = W := by
  have HN := Lib.hid (fun v W => nan_calls v W)
  have HD := Lib.hid (show cmpI x y = if x < y then -1 else if x > y then 1 else 0 from rfl)
  generalize cmpI x y = r at *
  go_enter Tryz.func58, Tryz.ntmps58
  go_wp2_with fail
  refine (HN.out _ _).mono ?_
  rintro e w1 ⟨rfl, rfl⟩
  go_wp2_with fail
  refine (HN.out _ _).mono ?_
  rintro e w1 ⟨rfl, rfl⟩
  by_cases h1 : x < y
  · have h1b : decide (x < y) = true := decide_eq_true h1
    go_wp2_with fail
    go_ret
    rw [HD.out, if_pos h1]
    exact ⟨rfl, rfl⟩
  · have h1b : decide (x < y) = false := decide_eq_false h1
    by_cases h2 : x > y
    · have h2b : decide (y < x) = true := decide_eq_true h2
      go_wp2_with fail
      go_ret
      rw [HD.out, if_neg (by omega), if_pos h2]
      exact ⟨rfl, rfl⟩
    · have h2b : decide (y < x) = false := decide_eq_false h2
      go_wp2_with fail
      go_ret
      rw [HD.out, if_neg (by omega), if_neg (by omega)]
      exact ⟨rfl, rfl⟩
set_option maxHeartbeats 4000000 in
theorem closure_calls (x y : S57) (W : World) : Calls Tryz.prog 57 #[.agg #[.int .i64 x.f0, .int .i64 x.f1], .agg #[.int .i64 y.f0, .int .i64 y.f1]] W fun e w' => e = .returned (.int .i64 (cmpI x.f0 y.f0)) ∧ ∃ q os', w' = Sort.grow (W.drewN q) os' := by
  have hcon := Lib.hid (fun W' => compare_calls x.f0 y.f0 W')
  generalize cmpI x.f0 y.f0 = r at hcon ⊢
  go_enter Tryz.func57, Tryz.ntmps57
  go_wp2_with fail
  refine (hcon.out _).mono ?_
  rintro e w' ⟨rfl, rfl⟩
  go_wp2_with fail
  go_ret
  exact ⟨rfl, 0, _, by rw [Sort.alloc_eq_grow, Sort.alloc_eq_grow, Sort.grow_grow]; rfl⟩
theorem cmp_lays (blk off size : Nat) (w : World) : CmpLays Tryz.prog 57 #[] cells57 2 (fun x y : S57 => cmpI x.f0 y.f0) blk off size w :=
  fun _ _ _ _ x y => closure_calls x y _
theorem lt_lo (x y : S57) : ltOf (fun x y : S57 => cmpI x.f0 y.f0) x y = decide (x.f0 < y.f0) := by
  unfold ltOf cmpI
  by_cases h1 : x.f0 < y.f0
  · simp [h1]
  · by_cases h2 : y.f0 < x.f0 <;> simp [h1, h2]
theorem swo_lo : Sort.SWO (ltOf fun x y : S57 => cmpI x.f0 y.f0) where
  irrefl x := by rw [lt_lo]; simp
  trans x y z h1 h2 := by rw [lt_lo] at *; simp at *; omega
  ntrans x y z h1 h2 := by rw [lt_lo] at *; simp at *; omega
theorem flat_get : ∀ (l : List S57) (t : Nat), t < l.length * 2 → (flat57 l)[t]? = some ((cells57 (l.toArray[t / 2]!))[t % 2]!)
  | [], t, h => by simp at h
  | s :: l, 0, _ => by simp [flat57, cells57]
  | s :: l, 1, _ => by simp [flat57, cells57]
  | s :: l, t + 2, h => by
    rw [List.length_cons] at h
    have ih := flat_get l t (by omega)
    have e : flat57 (s :: l) = (.int .i64 s.f0) :: (.int .i64 s.f1) :: flat57 l := by simp [flat57, cells57]
    rw [e, List.getElem?_cons_succ, List.getElem?_cons_succ, ih]
    rw [show (t + 2) / 2 = t / 2 + 1 by omega, show (t + 2) % 2 = t % 2 by omega]
    simp
theorem flat_getk (d : Array S57) (t : Nat) (h : t < d.size * 2) : (flat57 d.toList)[t]? = some (Sort.flatK cells57 2 d)[t]! := by
  rw [flat_get _ _ (by simpa using h), Sort.get_flatK _ _ _ _ h]

end Go.Proofs.YtnfdppkbbfdmnaaGreatDoor.PD

namespace Go.Proofs.YtnfdppkbbfdmnaaGreatDoor.PD
open Go.RowKit Go.Proofs.YtnfdppkbbfdmnaaGreatDoorW.PrintWords Go.Proofs.YtnfdppkbbfdmnaaGreatDoorW.PrintLast Go.Proofs.YtnfdppkbbfdmnaaGreatDoorW.PrintMore
set_option linter.unusedVariables false
set_option linter.unusedSimpArgs false
theorem put_get (F c : Array Value) (t : Nat) (h : t < F.size) (hc : t < c.size) : (Sort.putCells id 0 F c)[t]? = some F[t]! := by
  unfold Sort.putCells
  rw [Array.getElem?_mapIdx, Array.getElem?_eq_getElem hc]
  simp [h]
theorem sort_world_block {w : World} {g n : Nat} {cur : Array Value} (d : Array S57) (os : Array Obj) (hg : w.heap[g]? = some (.cells cur 57 (0, 0))) :
    (sortWorldK cells57 2 w g 0 n d os).heap[g]? = some (.cells (Sort.putCells id 0 (Sort.flatK cells57 2 d) cur) 57 (0, 0)) := by
  have hlt := blk_lt hg
  show ((w.heap.modify g (Sort.onCells (Sort.putCells id 0 (Sort.flatK cells57 2 d)))) ++ os)[g]? = _
  rw [Array.getElem?_append_left (by rw [Array.size_modify]; exact hlt), Array.getElem?_modify, if_pos rfl, hg]
  rfl
theorem sort_world_below {w : World} {base g n : Nat} (d : Array S57) (os : Array Obj) (hg : base ≤ g) (hb : base ≤ w.heap.size) : Below base w (sortWorldK cells57 2 w g 0 n d os) :=
  ⟨rfl, rfl, rfl, by show w.heap.size ≤ (w.heap.modify g _ ++ os).size; rw [Array.size_append, Array.size_modify]; omega, fun j hj => by
    show (w.heap.modify g _ ++ os)[j]? = _
    rw [Array.getElem?_append_left (by rw [Array.size_modify]; omega), Array.getElem?_modify, if_neg (by omega)]⟩
theorem perm_all {d d' : Array S57} (h : Sort.PermIn 0 d.size d d') : d'.toList.Perm d.toList ∧ d'.size = d.size := by
  obtain ⟨h1, _, h3⟩ := h
  have e1 : d'.extract 0 d.size = d' := by rw [← h1]; simp
  have e2 : d.extract 0 d.size = d := by simp
  rw [e1, e2] at h3
  exact ⟨h3, h1⟩
theorem sorted_all {d : Array S57} {n : Nat} (hn : n = d.size) (h : Sort.SortedIn (ltOf fun x y : S57 => cmpI x.f0 y.f0) 0 n d) : Srt d.toList := by
  subst hn
  unfold Srt
  rw [List.pairwise_iff_getElem]
  intro i j hi hj hij
  have := h i j (Nat.zero_le _) hij (by simpa using hj)
  rw [lt_lo, decide_eq_false_iff_not] at this
  rw [getElem!_pos d i (by simpa using hi), getElem!_pos d j (by simpa using hj)] at this
  simp only [Array.getElem_toList]
  omega
theorem sort_is (v : Value) (base : Nat) (s : List S57) (w : World) (h : Row w base v s) (hb : base ≤ w.heap.size) (hs : s.length ≤ 1000000000000) : SortIs v base s w := by
  unfold SortIs
  rcases h.2 with ⟨hv, hn⟩ | ⟨g, cap, cur, hv, hbg, hg, hnc, hcm, hcs, ht⟩
  · have hs0 : s = [] := List.length_eq_zero_iff.1 hn
    subst hs0 hv
    have hcon := AnyF.slices_SortFunc_none Tryz.sortRange none 0 (.func (.func 57) #[] #[]) w
    change Calls Tryz.prog 56 _ _ _ at hcon
    refine hcon.mono ?_
    rintro e w' ⟨rfl, rfl⟩
    exact ⟨rfl, [], List.Perm.refl _, List.Pairwise.nil, h, Below.refl _ _⟩
  · subst hv
    have hd : s.toArray.size = s.length := by simp
    have hH : Sort.HoldsK cells57 2 w g 0 s.toArray := by
      intro j hj
      rw [Sort.size_flatK, hd] at hj
      refine ⟨?_, blk_frozen hg _⟩
      rw [Nat.zero_add]
      refine (blk_cell hg j).trans ?_
      have q := flat_getk s.toArray j (by rw [hd]; exact hj)
      rw [show s.toArray.toList = s from rfl, ← ht, List.getElem?_take, if_pos hj, Array.getElem?_toList] at q
      exact q
    have eg : ∀ args w, (callFunc 57 args).run Tryz.prog w = .ok (.enter 57 args) w := enters_of Tryz.func57 (by kernel_rfl) rfl
    have hcon := AnyQ.slices_SortFunc Tryz.sortRange 2 Tryz.isAgg57 Tryz.sizeOf57 cells57 (fun _ => rfl) (fun x v hv => by simp [cells57] at hv; rcases hv with rfl | rfl <;> rfl) (fun x y : S57 => cmpI x.f0 y.f0) swo_lo 57 #[] g 0 cap s.toArray w eg (cmp_lays g 0 s.toArray.size w) hH (blk_lt hg) (by rw [hd]; omega)
    change Calls Tryz.prog 56 _ _ _ at hcon
    rw [hd] at hcon
    refine hcon.mono ?_
    rintro e w' ⟨rfl, d', n, os, hp, hso, rfl⟩
    rw [← hd] at hp
    obtain ⟨hpp, hsz⟩ := perm_all hp
    rw [hd] at hsz
    refine ⟨rfl, d'.toList, hpp, sorted_all (by omega) hso, ?_, sort_world_below d' os hbg hb⟩
    have hl : d'.toList.length = s.length := by simpa using hsz
    unfold Row
    rw [hl]
    refine ⟨by rw [flat57_len, hl], .inr ⟨g, cap, _, rfl, hbg, sort_world_block d' os hg, hnc, hcm, ?_, ?_⟩⟩
    · unfold Sort.putCells
      rw [Array.size_mapIdx]
      exact hcs
    · apply List.ext_getElem?
      intro t
      by_cases htl : t < s.length * 2
      · rw [List.getElem?_take, if_pos htl, Array.getElem?_toList, put_get _ _ t (by rw [Sort.size_flatK]; omega) (by have := Nat.mul_le_mul_right 2 hnc; omega)]
        exact (flat_getk d' t (by omega)).symm
      · rw [List.getElem?_take, if_neg htl, List.getElem?_eq_none (by rw [flat57_len, hl]; omega)]
theorem Norm_calls' {v : Value} (l : List S57) (w : World) (h : Lst w v l) (hl : l.length ≤ 1000000000000) :
    Calls Tryz.prog 12 #[v] w fun e w' => ∃ v', e = .returned (.tuple #[v', .int .i64 (normS l).2]) ∧ RowC w' w.heap.size v' (normS l).1 ∧ Below w.heap.size w w' :=
  Norm_calls l w h hl (fun v s W hr hb hs => sort_is v _ s W hr hb hs)

end Go.Proofs.YtnfdppkbbfdmnaaGreatDoor.PD

namespace Go.Proofs.YtnfdppkbbfdmnaaGreatDoor.PD
open Go.RowKit Go.Proofs.YtnfdppkbbfdmnaaGreatDoorW.PrintWords Go.Proofs.YtnfdppkbbfdmnaaGreatDoorW.PrintLast Go.Proofs.YtnfdppkbbfdmnaaGreatDoorW.PrintMore
set_option linter.unusedVariables false
set_option linter.unusedSimpArgs false
/-! ### Of and Span of the program -/
theorem indexI_at (ad : Addr) (m c : Nat) (i : Int) (h : 0 ≤ i ∧ i < m) (W : World) : (Instr.indexAt 22 (.slice (some ad) m c) (.int .i64 i)).run Tryz.prog W = .ok (.pointer (some (ad.add i.toNat))) W := by
  obtain ⟨h1, h2⟩ := h
  rw [run_indexAt_slice (k := .i64) (h := by kernel_rfl)]
  simp [go_sem, h1, h2]
theorem rdI (l : List Int) (i : Nat) (h : i < l.length) : rd l (i : Int) = l[i] := by
  unfold rd
  rw [Int.toNat_natCast, List.getD_eq_getElem?_getD, List.getElem?_eq_getElem h]
  rfl
theorem points_take {l : List Int} {k : Nat} (h : k < l.length) : points (l.take (k + 1)) = points (l.take k) ++ [⟨l[k], l[k]⟩] := by
  rw [take_at h]
  unfold points
  rw [List.map_append]
  rfl
set_option maxRecDepth 100000 in
set_option maxHeartbeats 8000000 in
theorem Of_calls {v : Value} (l : List Int) (w : World) (h : LstI w v l) (hl : l.length ≤ 1000000000000) :
    Calls Tryz.prog 10 #[v] w fun e w' => ∃ v', e = .returned (.tuple #[v', .int .i64 (normS (points l)).2]) ∧ RowC w' w.heap.size v' (normS (points l)).1 ∧ Below w.heap.size w w' := by
  obtain ⟨i0, hi0, hz0, hz1, hz2⟩ := info_parts info57
  obtain ⟨A, c, rfl, hC, hc⟩ := h
  have HC := Lib.hid hC
  have HNORM := Lib.hid (fun v l W (h : Lst W v l) (hl : l.length ≤ 1000000000000) => Norm_calls' l W h hl)
  clear hC
  generalize hm : l.length = m at *
  have HL := Lib.hid hm
  clear hm
  go_enter Tryz.func10, Tryz.ntmps10
  go_wp2_with fail
  go_loopw [4, 9] (fun a i wr => ∃ (k : Nat) (s : List S57), i = .int .i64 k ∧ k ≤ m ∧ s.length ≤ k ∧ Hid (points (l.take k) = s) ∧ Hid (Row wr w.heap.size a s) ∧ Hid (Below w.heap.size w wr))
    (fun _ i _ => m - (intOf i).toNat)
  case atStart => exact ⟨0, [], rfl, Nat.zero_le _, Nat.zero_le _, Lib.hid rfl, Lib.hid (Row.nil _ _), Lib.hid (Below.refl _ _)⟩
  case round =>
    obtain ⟨k, s, rfl, hk, hsl, hN, hO, hB⟩ := hrel
    obtain ⟨A0, c0, rfl⟩ := row_form hO.out
    by_cases hkm : k < m
    · have hkt : k < l.length := by rw [HL.out]; exact hkm
      obtain ⟨ad, hA, x0⟩ := Kd.at_int (Kd.C_below HC.out hB.out) (k : Int) (by omega) (by omega)
      subst hA
      rw [rdI l k hkt, Int.toNat_natCast] at x0
      have HS := Lib.hid ((points_take hkt).trans (by rw [hN.out]))
      generalize l[k] = a at *
      have hix := fun W => indexI_at ad m c (k : Nat) (by omega) W
      simp only [Int.toNat_natCast] at hix
      have hsz := hB.out.size
      go_wp2_with ((with_reducible refine gate_dst (N := 18) rfl ?_); refine wpList_append_own _ rfl _ _ 23 rfl w.heap.size 57 i0 _ 2 16 Tryz.underlying23 hi0 hz0 hz1 hz2 rfl (by decide) _ _ _ rfl ((Row.own hO.out).alloc _) ⟨_, 0, none⟩ 1 1 [.int .i64 a, .int .i64 a] rfl rfl (cell_pair_at _ _ (by simp) _ _ _) (by simp [Value.oneCell']) (by simp only [maxLen]; omega) (by omega) (by first | omega | (simp; omega)) ?_; intro v' w4 hown' hgrow _; obtain ⟨q1, q2⟩ := hO.out.pushed hown' hgrow (by first | omega | (simp; omega)); have hQ1 := Lib.hid q1; have hQ2 := Lib.hid (hB.out.trans q2); clear hown' hgrow q1 q2)
      refine ⟨⟨k + 1, s ++ [⟨a, a⟩], by rw [Int.natCast_add]; rfl, by omega, by rw [List.length_append, List.length_singleton]; omega, HS, hQ1, hQ2⟩, by simp [intOf]; omega⟩
    · obtain rfl : k = m := by omega
      rw [List.take_of_length_le (by rw [HL.out]; exact Nat.le_refl _)] at hN
      have HNN := Lib.hid (HNORM.out _ s wr hO.out.lst (by omega))
      go_wp2_with fail
      refine HNN.out.mono ?_
      rintro e w3 ⟨v3, rfl, hO3, hb3⟩
      go_wp2_with fail
      go_ret2
      rw [hN.out]
      exact ⟨_, rfl, hO3.lower hB.out.size, below_step hB.out hb3⟩
theorem norm_one {lo hi : Int} (h0 : inB lo = true) (h1 : inB hi = true) : normS [⟨lo, hi⟩] = spanS lo hi := by
  unfold normS spanS
  rw [gather, if_pos (⟨h0, h1⟩ : inB lo = true ∧ inB hi = true)]
  by_cases h : lo > hi
  · rw [if_pos h, if_pos h]
    rfl
  · rw [if_neg h, if_neg h, if_pos h0, if_pos h1]
    rfl
set_option maxRecDepth 100000 in
set_option maxHeartbeats 8000000 in
theorem Span_calls (lo hi : Int) (w : World) :
    Calls Tryz.prog 14 #[.int .i64 lo, .int .i64 hi] w fun e w' => ∃ v', e = .returned (.tuple #[v', .int .i64 (spanS lo hi).2]) ∧ RowC w' w.heap.size v' (spanS lo hi).1 ∧ Below w.heap.size w w' := by
  have HIN := Lib.hid (fun x W => in_calls x W)
  have HNORM := Lib.hid (fun v l W (h : Lst W v l) (hl : l.length ≤ 1000000000000) => Norm_calls' l W h hl)
  obtain ⟨r, hr⟩ : ∃ r, spanS lo hi = r := ⟨_, rfl⟩
  rw [hr]
  obtain ⟨r1, r2⟩ := r
  have HR := Lib.hid hr
  clear hr
  go_enter Tryz.func14, Tryz.ntmps14
  go_wp2_with fail
  refine (HIN.out lo _).mono ?_
  rintro e w1 ⟨rfl, hb1⟩
  have HB1 := Lib.hid hb1
  clear hb1
  cases ha : inB lo with
  | false =>
    have ha' : (decide (-1000000 ≤ lo) && decide (lo ≤ 1000000)) = false := ha
    rw [ha']
    have HA := Lib.hid ha
    clear ha
    go_wp2_with fail
    go_ret2
    have hq := HR.out
    unfold spanS at hq
    rw [if_neg (by rw [HA.out]; simp)] at hq
    injection hq with q1 q2
    subst q1 q2
    exact ⟨_, rfl, (Row.nil _ _).cut, HB1.out⟩
  | true =>
    have ha' : (decide (-1000000 ≤ lo) && decide (lo ≤ 1000000)) = true := ha
    rw [ha']
    have HA := Lib.hid ha
    clear ha
    go_wp2_with fail
    refine (HIN.out hi _).mono ?_
    rintro e w2 ⟨rfl, hb2⟩
    have HB2 := Lib.hid (below_step HB1.out hb2)
    clear hb2
    cases hb : inB hi with
    | false =>
      have hb' : (decide (-1000000 ≤ hi) && decide (hi ≤ 1000000)) = false := hb
      rw [hb']
      have HBB := Lib.hid hb
      clear hb
      go_wp2_with fail
      go_ret2
      have hq := HR.out
      unfold spanS at hq
      rw [if_neg (by rw [HBB.out]; simp)] at hq
      injection hq with q1 q2
      subst q1 q2
      exact ⟨_, rfl, (Row.nil _ _).cut, HB2.out⟩
    | true =>
      have hb' : (decide (-1000000 ≤ hi) && decide (hi ≤ 1000000)) = true := hb
      rw [hb']
      have HBB := Lib.hid hb
      clear hb
      have HNN := Lib.hid (HNORM.out _ [⟨lo, hi⟩] _ (one_lst w2 lo hi) (by simp))
      rw [norm_one HA.out HBB.out, HR.out] at HNN
      have hb3 : Below w2.heap.size w2 (w2.alloc (.cells #[.int .i64 lo, .int .i64 hi] 57)) := (Below.refl _ _).alloc (Nat.le_refl _) _
      have HB3 := Lib.hid (below_step HB2.out hb3)
      clear hb3
      go_wp2_with fail
      refine HNN.out.mono ?_
      rintro e w4 ⟨v4, rfl, hO4, hb4⟩
      go_wp2_with fail
      go_ret2
      exact ⟨_, rfl, hO4.lower HB3.out.size, below_step HB3.out hb4⟩

end Go.Proofs.YtnfdppkbbfdmnaaGreatDoor.PD

namespace Go.Proofs.YtnfdppkbbfdmnaaGreatDoor.PD
open Go.RowKit Go.Proofs.YtnfdppkbbfdmnaaGreatDoorW.PrintWords Go.Proofs.YtnfdppkbbfdmnaaGreatDoorW.PrintLast Go.Proofs.YtnfdppkbbfdmnaaGreatDoorW.PrintMore
set_option linter.unusedVariables false
set_option linter.unusedSimpArgs false
/-! ### Concat, Either -/
end Go.Proofs.YtnfdppkbbfdmnaaGreatDoor.PD

namespace Go.Proofs.YtnfdppkbbfdmnaaGreatDoor.PD
open Go.RowKit Go.Proofs.YtnfdppkbbfdmnaaGreatDoorW.PrintWords Go.Proofs.YtnfdppkbbfdmnaaGreatDoorW.PrintLast Go.Proofs.YtnfdppkbbfdmnaaGreatDoorW.PrintMore
set_option linter.unusedVariables false
set_option linter.unusedSimpArgs false
/-! ### Spoil of a row whose spare room has been cut off -/
theorem Row.seg {W : World} {base g p cap : Nat} {l : List S57} (h : Row W base (.slice (some ⟨g, 0, none⟩) p cap) l) (k : Nat) (hk : k < l.length) (x y : Int) (hb : base ≤ W.heap.size) :
    Row ((W.setCell ⟨g, k * 2, none⟩ (.int .i64 x)).setCell ⟨g, k * 2 + 1, none⟩ (.int .i64 y)) base (.slice (some ⟨g, 0, none⟩) p cap) (l.set k ⟨x, y⟩) ∧ Below base W ((W.setCell ⟨g, k * 2, none⟩ (.int .i64 x)).setCell ⟨g, k * 2 + 1, none⟩ (.int .i64 y)) := by
  have hR := h.toR
  have hgb := own_base h.own g (by simp [Value.ownBlock])
  have hp := (Kd.R_reads' hR).1
  obtain ⟨ce, hcl, hM, hcc, hfr⟩ := Kd.R_elem hR z57 (k : Int) (by omega) (by omega)
  have hs := Kd.R_seg hR (k : Int) (by omega) (by omega) (seg := [.int .i64 x, .int .i64 y]) (j := 0) hcl hcc (show 0 + 2 ≤ 2 by decide) (x' := (⟨x, y⟩ : S57)) (okp := fun k => k ≠ g) (by
    have e := k57_openM hM
    subst e
    exact k57_mkM _ _ _ (⟨x, y⟩ : S57)) (fun k hk => ⟨trivial, hk⟩)
  rw [Int.toNat_natCast] at hs
  refine ⟨R57_row hs.1, (Below.refl base W).grown hs.2 hb (fun k hk => ?_)⟩
  injection hk with hk
  omega
end Go.Proofs.YtnfdppkbbfdmnaaGreatDoor.PD
