/- Parts of the laws of dom: functions of the program, each with the proof of what it answers; the conditions are those of each theorem. -/
import Derived.Test.YtnfdppkbbfdmnaaGreatDoorC8
import Derived.Test.YtnfdppkbbfdmnaaGreatDoorC9
import Derived.ArgAppend
namespace Go.Proofs.YtnfdppkbbfdmnaaGreatDoor.PD
open Go.RowKit Go.Proofs.YtnfdppkbbfdmnaaGreatDoorW.PrintWords Go.Proofs.YtnfdppkbbfdmnaaGreatDoorW.PrintLast Go.Proofs.YtnfdppkbbfdmnaaGreatDoorW.PrintMore
set_option linter.unusedVariables false
set_option linter.unusedSimpArgs false
/-! ### the library's sort at ranges -/
instance : Inhabited S57 := ⟨z57⟩
def cmpI (x y : Int) : Int := if x < y then -1 else if x > y then 1 else 0
set_option maxHeartbeats 4000000 in
theorem nan_calls (x : Int) (W : World) : Calls Tryz.prog 81 #[.int .i64 x] W fun e w' => e = .returned (.bool false) ∧ w' = W := by
  go_enter Tryz.func81, Tryz.ntmps81
  go_wp2_with fail
  go_ret
  exact ⟨by first | rfl | simp, rfl⟩
set_option maxHeartbeats 4000000 in
theorem compare_calls (x y : Int) (W : World) : Calls Tryz.prog 58 #[.int .i64 x, .int .i64 y] W fun e w' => e = .returned (.int .i64 (cmpI x y)) ∧ w' = W := by
  have HN := Lib.hid (fun v W => nan_calls v W)
  have HD := Lib.hid (show cmpI x y = if x < y then -1 else if x > y then 1 else 0 from rfl)
  generalize cmpI x y = r at *
  go_enter Tryz.func58, Tryz.ntmps58
  go_wp2_with fail
  refine (HN.out _ _).mono ?_
  rintro e w1 ⟨rfl, rfl⟩
  go_wp2_with fail
  refine (HN.out _ _).mono ?_
  rintro e w1 ⟨rfl, rfl⟩
  by_cases h1 : x < y
  · have h1b : decide (x < y) = true := decide_eq_true h1
    go_wp2_with fail
    go_ret
    rw [HD.out, if_pos h1]
    exact ⟨rfl, rfl⟩
  · have h1b : decide (x < y) = false := decide_eq_false h1
    by_cases h2 : x > y
    · have h2b : decide (y < x) = true := decide_eq_true h2
      go_wp2_with fail
      go_ret
      rw [HD.out, if_neg (by omega), if_pos h2]
      exact ⟨rfl, rfl⟩
    · have h2b : decide (y < x) = false := decide_eq_false h2
      go_wp2_with fail
      go_ret
      rw [HD.out, if_neg (by omega), if_neg (by omega)]
      exact ⟨rfl, rfl⟩
set_option maxHeartbeats 4000000 in
theorem closure_calls (x y : S57) (W : World) : Calls Tryz.prog 57 #[.agg #[.int .i64 x.f0, .int .i64 x.f1], .agg #[.int .i64 y.f0, .int .i64 y.f1]] W fun e w' => e = .returned (.int .i64 (cmpI x.f0 y.f0)) ∧ ∃ q os', w' = Sort.grow (W.drewN q) os' := by
  have hcon := Lib.hid (fun W' => compare_calls x.f0 y.f0 W')
  generalize cmpI x.f0 y.f0 = r at hcon ⊢
  go_enter Tryz.func57, Tryz.ntmps57
  go_wp2_with fail
  refine (hcon.out _).mono ?_
  rintro e w' ⟨rfl, rfl⟩
  go_wp2_with fail
  go_ret
  exact ⟨rfl, 0, _, by rw [Sort.alloc_eq_grow, Sort.alloc_eq_grow, Sort.grow_grow]; rfl⟩
theorem cmp_lays (blk off size : Nat) (w : World) : CmpLays Tryz.prog 57 #[] cells57 2 (fun x y : S57 => cmpI x.f0 y.f0) blk off size w :=
  fun _ _ _ _ x y => closure_calls x y _
theorem lt_lo (x y : S57) : ltOf (fun x y : S57 => cmpI x.f0 y.f0) x y = decide (x.f0 < y.f0) := by
  unfold ltOf cmpI
  by_cases h1 : x.f0 < y.f0
  · simp [h1]
  · by_cases h2 : y.f0 < x.f0 <;> simp [h1, h2]
theorem swo_lo : Sort.SWO (ltOf fun x y : S57 => cmpI x.f0 y.f0) where
  irrefl x := by rw [lt_lo]; simp
  trans x y z h1 h2 := by rw [lt_lo] at *; simp at *; omega
  ntrans x y z h1 h2 := by rw [lt_lo] at *; simp at *; omega
theorem flat_get : ∀ (l : List S57) (t : Nat), t < l.length * 2 → (flat57 l)[t]? = some ((cells57 (l.toArray[t / 2]!))[t % 2]!)
  | [], t, h => by simp at h
  | s :: l, 0, _ => by simp [flat57, cells57]
  | s :: l, 1, _ => by simp [flat57, cells57]
  | s :: l, t + 2, h => by
    rw [List.length_cons] at h
    have ih := flat_get l t (by omega)
    have e : flat57 (s :: l) = (.int .i64 s.f0) :: (.int .i64 s.f1) :: flat57 l := by simp [flat57, cells57]
    rw [e, List.getElem?_cons_succ, List.getElem?_cons_succ, ih]
    rw [show (t + 2) / 2 = t / 2 + 1 by omega, show (t + 2) % 2 = t % 2 by omega]
    simp
theorem flat_getk (d : Array S57) (t : Nat) (h : t < d.size * 2) : (flat57 d.toList)[t]? = some (Sort.flatK cells57 2 d)[t]! := by
  rw [flat_get _ _ (by simpa using h), Sort.get_flatK _ _ _ _ h]

end Go.Proofs.YtnfdppkbbfdmnaaGreatDoor.PD

namespace Go.Proofs.YtnfdppkbbfdmnaaGreatDoor.PD
open Go.RowKit Go.Proofs.YtnfdppkbbfdmnaaGreatDoorW.PrintWords Go.Proofs.YtnfdppkbbfdmnaaGreatDoorW.PrintLast Go.Proofs.YtnfdppkbbfdmnaaGreatDoorW.PrintMore
set_option linter.unusedVariables false
set_option linter.unusedSimpArgs false
theorem put_get (F c : Array Value) (t : Nat) (h : t < F.size) (hc : t < c.size) : (Sort.putCells id 0 F c)[t]? = some F[t]! := by
  unfold Sort.putCells
  rw [Array.getElem?_mapIdx, Array.getElem?_eq_getElem hc]
  simp [h]
theorem sort_world_block {w : World} {g n : Nat} {cur : Array Value} (d : Array S57) (os : Array Obj) (hg : w.heap[g]? = some (.cells cur 57 (0, 0))) :
    (sortWorldK cells57 2 w g 0 n d os).heap[g]? = some (.cells (Sort.putCells id 0 (Sort.flatK cells57 2 d) cur) 57 (0, 0)) := by
  have hlt := blk_lt hg
  show ((w.heap.modify g (Sort.onCells (Sort.putCells id 0 (Sort.flatK cells57 2 d)))) ++ os)[g]? = _
  rw [Array.getElem?_append_left (by rw [Array.size_modify]; exact hlt), Array.getElem?_modify, if_pos rfl, hg]
  rfl
theorem sort_world_below {w : World} {base g n : Nat} (d : Array S57) (os : Array Obj) (hg : base ≤ g) (hb : base ≤ w.heap.size) : Below base w (sortWorldK cells57 2 w g 0 n d os) :=
  ⟨rfl, rfl, rfl, by show w.heap.size ≤ (w.heap.modify g _ ++ os).size; rw [Array.size_append, Array.size_modify]; omega, fun j hj => by
    show (w.heap.modify g _ ++ os)[j]? = _
    rw [Array.getElem?_append_left (by rw [Array.size_modify]; omega), Array.getElem?_modify, if_neg (by omega)]⟩
theorem perm_all {d d' : Array S57} (h : Sort.PermIn 0 d.size d d') : d'.toList.Perm d.toList ∧ d'.size = d.size := by
  obtain ⟨h1, _, h3⟩ := h
  have e1 : d'.extract 0 d.size = d' := by rw [← h1]; simp
  have e2 : d.extract 0 d.size = d := by simp
  rw [e1, e2] at h3
  exact ⟨h3, h1⟩
theorem sorted_all {d : Array S57} {n : Nat} (hn : n = d.size) (h : Sort.SortedIn (ltOf fun x y : S57 => cmpI x.f0 y.f0) 0 n d) : Srt d.toList := by
  subst hn
  unfold Srt
  rw [List.pairwise_iff_getElem]
  intro i j hi hj hij
  have := h i j (Nat.zero_le _) hij (by simpa using hj)
  rw [lt_lo, decide_eq_false_iff_not] at this
  rw [getElem!_pos d i (by simpa using hi), getElem!_pos d j (by simpa using hj)] at this
  simp only [Array.getElem_toList]
  omega
theorem sort_is (v : Value) (base : Nat) (s : List S57) (w : World) (h : Row w base v s) (hb : base ≤ w.heap.size) (hs : s.length ≤ 1000000000000) : SortIs v base s w := by
  unfold SortIs
  rcases h.2 with ⟨hv, hn⟩ | ⟨g, cap, cur, hv, hbg, hg, hnc, hcm, hcs, ht⟩
  · have hs0 : s = [] := List.length_eq_zero_iff.1 hn
    subst hs0 hv
    have hcon := AnyF.slices_SortFunc_none Tryz.sortRange none 0 (.func (.func 57) #[] #[]) w
    change Calls Tryz.prog 56 _ _ _ at hcon
    refine hcon.mono ?_
    rintro e w' ⟨rfl, rfl⟩
    exact ⟨rfl, [], List.Perm.refl _, List.Pairwise.nil, h, Below.refl _ _⟩
  · subst hv
    have hd : s.toArray.size = s.length := by simp
    have hH : Sort.HoldsK cells57 2 w g 0 s.toArray := by
      intro j hj
      rw [Sort.size_flatK, hd] at hj
      refine ⟨?_, blk_frozen hg _⟩
      rw [Nat.zero_add]
      refine (blk_cell hg j).trans ?_
      have q := flat_getk s.toArray j (by rw [hd]; exact hj)
      rw [show s.toArray.toList = s from rfl, ← ht, List.getElem?_take, if_pos hj, Array.getElem?_toList] at q
      exact q
    have eg : ∀ args w, (callFunc 57 args).run Tryz.prog w = .ok (.enter 57 args) w := enters_of Tryz.func57 (by kernel_rfl) rfl
    have hcon := AnyQ.slices_SortFunc Tryz.sortRange 2 Tryz.isAgg57 Tryz.sizeOf57 cells57 (fun _ => rfl) (fun x v hv => by simp [cells57] at hv; rcases hv with rfl | rfl <;> rfl) (fun x y : S57 => cmpI x.f0 y.f0) swo_lo 57 #[] g 0 cap s.toArray w eg (cmp_lays g 0 s.toArray.size w) hH (blk_lt hg) (by rw [hd]; omega)
    change Calls Tryz.prog 56 _ _ _ at hcon
    rw [hd] at hcon
    refine hcon.mono ?_
    rintro e w' ⟨rfl, d', n, os, hp, hso, rfl⟩
    rw [← hd] at hp
    obtain ⟨hpp, hsz⟩ := perm_all hp
    rw [hd] at hsz
    refine ⟨rfl, d'.toList, hpp, sorted_all (by omega) hso, ?_, sort_world_below d' os hbg hb⟩
    have hl : d'.toList.length = s.length := by simpa using hsz
    unfold Row
    rw [hl]
    refine ⟨by rw [flat57_len, hl], .inr ⟨g, cap, _, rfl, hbg, sort_world_block d' os hg, hnc, hcm, ?_, ?_⟩⟩
    · unfold Sort.putCells
      rw [Array.size_mapIdx]
      exact hcs
    · apply List.ext_getElem?
      intro t
      by_cases htl : t < s.length * 2
      · rw [List.getElem?_take, if_pos htl, Array.getElem?_toList, put_get _ _ t (by rw [Sort.size_flatK]; omega) (by have := Nat.mul_le_mul_right 2 hnc; omega)]
        exact (flat_getk d' t (by omega)).symm
      · rw [List.getElem?_take, if_neg htl, List.getElem?_eq_none (by rw [flat57_len, hl]; omega)]
theorem Norm_calls' {v : Value} (l : List S57) (w : World) (h : Lst w v l) (hl : l.length ≤ 1000000000000) :
    Calls Tryz.prog 12 #[v] w fun e w' => ∃ v', e = .returned (.tuple #[v', .int .i64 (normS l).2]) ∧ RowC w' w.heap.size v' (normS l).1 ∧ Below w.heap.size w w' :=
  Norm_calls l w h hl (fun v s W hr hb hs => sort_is v _ s W hr hb hs)

end Go.Proofs.YtnfdppkbbfdmnaaGreatDoor.PD

namespace Go.Proofs.YtnfdppkbbfdmnaaGreatDoor.PD
open Go.RowKit Go.Proofs.YtnfdppkbbfdmnaaGreatDoorW.PrintWords Go.Proofs.YtnfdppkbbfdmnaaGreatDoorW.PrintLast Go.Proofs.YtnfdppkbbfdmnaaGreatDoorW.PrintMore
set_option linter.unusedVariables false
set_option linter.unusedSimpArgs false
/-! ### Of and Span of the program -/
theorem indexI_at (ad : Addr) (m c : Nat) (i : Int) (h : 0 ≤ i ∧ i < m) (W : World) : (Instr.indexAt 22 (.slice (some ad) m c) (.int .i64 i)).run Tryz.prog W = .ok (.pointer (some (ad.add i.toNat))) W := by
  obtain ⟨h1, h2⟩ := h
  rw [run_indexAt_slice (k := .i64) (h := by kernel_rfl)]
  simp [go_sem, h1, h2]
theorem rdI (l : List Int) (i : Nat) (h : i < l.length) : rd l (i : Int) = l[i] := by
  unfold rd
  rw [Int.toNat_natCast, List.getD_eq_getElem?_getD, List.getElem?_eq_getElem h]
  rfl
theorem points_take {l : List Int} {k : Nat} (h : k < l.length) : points (l.take (k + 1)) = points (l.take k) ++ [⟨l[k], l[k]⟩] := by
  rw [take_at h]
  unfold points
  rw [List.map_append]
  rfl
set_option maxRecDepth 100000 in
set_option maxHeartbeats 8000000 in
theorem Of_calls {v : Value} (l : List Int) (w : World) (h : LstI w v l) (hl : l.length ≤ 1000000000000) :
    Calls Tryz.prog 10 #[v] w fun e w' => ∃ v', e = .returned (.tuple #[v', .int .i64 (normS (points l)).2]) ∧ RowC w' w.heap.size v' (normS (points l)).1 ∧ Below w.heap.size w w' := by
  obtain ⟨i0, hi0, hz0, hz1, hz2⟩ := info_parts info57
  obtain ⟨A, c, rfl, hC, hc⟩ := h
  have HC := Lib.hid hC
  have HNORM := Lib.hid (fun v l W (h : Lst W v l) (hl : l.length ≤ 1000000000000) => Norm_calls' l W h hl)
  clear hC
  generalize hm : l.length = m at *
  have HL := Lib.hid hm
  clear hm
  go_enter Tryz.func10, Tryz.ntmps10
  go_wp2_with fail
  go_loopw [4, 9] (fun a i wr => ∃ (k : Nat) (s : List S57), i = .int .i64 k ∧ k ≤ m ∧ s.length ≤ k ∧ Hid (points (l.take k) = s) ∧ Hid (Row wr w.heap.size a s) ∧ Hid (Below w.heap.size w wr))
    (fun _ i _ => m - (intOf i).toNat)
  case atStart => exact ⟨0, [], rfl, Nat.zero_le _, Nat.zero_le _, Lib.hid rfl, Lib.hid (Row.nil _ _), Lib.hid (Below.refl _ _)⟩
  case round =>
    obtain ⟨k, s, rfl, hk, hsl, hN, hO, hB⟩ := hrel
    obtain ⟨A0, c0, rfl⟩ := row_form hO.out
    by_cases hkm : k < m
    · have hkt : k < l.length := by rw [HL.out]; exact hkm
      obtain ⟨ad, hA, x0⟩ := Kd.at_int (Kd.C_below HC.out hB.out) (k : Int) (by omega) (by omega)
      subst hA
      rw [rdI l k hkt, Int.toNat_natCast] at x0
      have HS := Lib.hid ((points_take hkt).trans (by rw [hN.out]))
      generalize l[k] = a at *
      have hix := fun W => indexI_at ad m c (k : Nat) (by omega) W
      simp only [Int.toNat_natCast] at hix
      have hsz := hB.out.size
      go_wp2_with ((with_reducible refine gate_dst (N := 18) rfl ?_); refine wpList_append_own _ rfl _ _ 23 rfl w.heap.size 57 i0 _ 2 16 Tryz.underlying23 hi0 hz0 hz1 hz2 rfl (by decide) _ _ _ rfl ((Row.own hO.out).alloc _) ⟨_, 0, none⟩ 1 1 [.int .i64 a, .int .i64 a] rfl rfl (cell_pair_at _ _ (by simp) _ _ _) (by simp [Value.oneCell']) (by simp only [maxLen]; omega) (by omega) (by first | omega | (simp; omega)) ?_; intro v' w4 hown' hgrow _; obtain ⟨q1, q2⟩ := hO.out.pushed hown' hgrow (by first | omega | (simp; omega)); have hQ1 := Lib.hid q1; have hQ2 := Lib.hid (hB.out.trans q2); clear hown' hgrow q1 q2)
      refine ⟨⟨k + 1, s ++ [⟨a, a⟩], by rw [Int.natCast_add]; rfl, by omega, by rw [List.length_append, List.length_singleton]; omega, HS, hQ1, hQ2⟩, by simp [intOf]; omega⟩
    · obtain rfl : k = m := by omega
      rw [List.take_of_length_le (by rw [HL.out]; exact Nat.le_refl _)] at hN
      have HNN := Lib.hid (HNORM.out _ s wr hO.out.lst (by omega))
      go_wp2_with fail
      refine HNN.out.mono ?_
      rintro e w3 ⟨v3, rfl, hO3, hb3⟩
      go_wp2_with fail
      go_ret2
      rw [hN.out]
      exact ⟨_, rfl, hO3.lower hB.out.size, below_step hB.out hb3⟩
theorem norm_one {lo hi : Int} (h0 : inB lo = true) (h1 : inB hi = true) : normS [⟨lo, hi⟩] = spanS lo hi := by
  unfold normS spanS
  rw [gather, if_pos (⟨h0, h1⟩ : inB lo = true ∧ inB hi = true)]
  by_cases h : lo > hi
  · rw [if_pos h, if_pos h]
    rfl
  · rw [if_neg h, if_neg h, if_pos h0, if_pos h1]
    rfl
set_option maxRecDepth 100000 in
set_option maxHeartbeats 8000000 in
theorem Span_calls (lo hi : Int) (w : World) :
    Calls Tryz.prog 14 #[.int .i64 lo, .int .i64 hi] w fun e w' => ∃ v', e = .returned (.tuple #[v', .int .i64 (spanS lo hi).2]) ∧ RowC w' w.heap.size v' (spanS lo hi).1 ∧ Below w.heap.size w w' := by
  have HIN := Lib.hid (fun x W => in_calls x W)
  have HNORM := Lib.hid (fun v l W (h : Lst W v l) (hl : l.length ≤ 1000000000000) => Norm_calls' l W h hl)
  obtain ⟨r, hr⟩ : ∃ r, spanS lo hi = r := ⟨_, rfl⟩
  rw [hr]
  obtain ⟨r1, r2⟩ := r
  have HR := Lib.hid hr
  clear hr
  go_enter Tryz.func14, Tryz.ntmps14
  go_wp2_with fail
  refine (HIN.out lo _).mono ?_
  rintro e w1 ⟨rfl, hb1⟩
  have HB1 := Lib.hid hb1
  clear hb1
  cases ha : inB lo with
  | false =>
    have ha' : (decide (-1000000 ≤ lo) && decide (lo ≤ 1000000)) = false := ha
    rw [ha']
    have HA := Lib.hid ha
    clear ha
    go_wp2_with fail
    go_ret2
    have hq := HR.out
    unfold spanS at hq
    rw [if_neg (by rw [HA.out]; simp)] at hq
    injection hq with q1 q2
    subst q1 q2
    exact ⟨_, rfl, (Row.nil _ _).cut, HB1.out⟩
  | true =>
    have ha' : (decide (-1000000 ≤ lo) && decide (lo ≤ 1000000)) = true := ha
    rw [ha']
    have HA := Lib.hid ha
    clear ha
    go_wp2_with fail
    refine (HIN.out hi _).mono ?_
    rintro e w2 ⟨rfl, hb2⟩
    have HB2 := Lib.hid (below_step HB1.out hb2)
    clear hb2
    cases hb : inB hi with
    | false =>
      have hb' : (decide (-1000000 ≤ hi) && decide (hi ≤ 1000000)) = false := hb
      rw [hb']
      have HBB := Lib.hid hb
      clear hb
      go_wp2_with fail
      go_ret2
      have hq := HR.out
      unfold spanS at hq
      rw [if_neg (by rw [HBB.out]; simp)] at hq
      injection hq with q1 q2
      subst q1 q2
      exact ⟨_, rfl, (Row.nil _ _).cut, HB2.out⟩
    | true =>
      have hb' : (decide (-1000000 ≤ hi) && decide (hi ≤ 1000000)) = true := hb
      rw [hb']
      have HBB := Lib.hid hb
      clear hb
      have HNN := Lib.hid (HNORM.out _ [⟨lo, hi⟩] _ (one_lst w2 lo hi) (by simp))
      rw [norm_one HA.out HBB.out, HR.out] at HNN
      have hb3 : Below w2.heap.size w2 (w2.alloc (.cells #[.int .i64 lo, .int .i64 hi] 57)) := (Below.refl _ _).alloc (Nat.le_refl _) _
      have HB3 := Lib.hid (below_step HB2.out hb3)
      clear hb3
      go_wp2_with fail
      refine HNN.out.mono ?_
      rintro e w4 ⟨v4, rfl, hO4, hb4⟩
      go_wp2_with fail
      go_ret2
      exact ⟨_, rfl, hO4.lower HB3.out.size, below_step HB3.out hb4⟩

end Go.Proofs.YtnfdppkbbfdmnaaGreatDoor.PD

namespace Go.Proofs.YtnfdppkbbfdmnaaGreatDoor.PD
open Go.RowKit Go.Proofs.YtnfdppkbbfdmnaaGreatDoorW.PrintWords Go.Proofs.YtnfdppkbbfdmnaaGreatDoorW.PrintLast Go.Proofs.YtnfdppkbbfdmnaaGreatDoorW.PrintMore
set_option linter.unusedVariables false
set_option linter.unusedSimpArgs false
/-! ### Concat, Either -/
theorem grow_room (w : World) : Calls Tryz.prog 90 #[.slice none 0 0, .int .i64 0] w fun e w' => e = .returned (.slice none 0 0) ∧ w' = w := by
  have h := Any8.slices_Grow_room Tryz.growRange none 0 0 0 w (by omega) (by omega) (by omega) (by omega)
  change Calls Tryz.prog 90 _ _ _ at h
  exact h
theorem zero_size (n : Nat) : (Builtin.zeroCells #[(.int .i64 0 : Value), .int .i64 0] n).size = n * 2 := by
  unfold Builtin.zeroCells
  simp
theorem grow_calls (n : Nat) (hn : n ≤ 100000) (w : World) : Calls Tryz.prog 90 #[.slice none 0 0, .int .i64 n] w fun e w' => ∃ v', e = .returned v' ∧ Row w' w.heap.size v' [] ∧ Below w.heap.size w w' := by
  by_cases h0 : n = 0
  · subst h0
    refine (grow_room w).mono ?_
    rintro e w' ⟨rfl, rfl⟩
    exact ⟨_, rfl, Row.nil _ _, Below.refl _ _⟩
  · obtain ⟨i0, hi0, hz0, hz1, hz2⟩ := info_parts info57
    have h := Any8.slices_Grow_grow Tryz.growRange i0 (.agg #[(.int .i64 0), (.int .i64 0)]) hi0 hz0 (by omega) none 0 0 n [] w (by omega) (by omega) (by rw [hz2]; omega) (by omega) (by simp) (fun _ => rfl) (fun a ha => by cases ha)
    change Calls Tryz.prog 90 _ _ _ at h
    refine h.mono ?_
    rintro e w' ⟨rfl, rfl⟩
    have hg1 := grownCap_ge w (0 + n) 0 (Tryz.growRange_ren.t 25)
    have hg2 := grownCap_le_maxLen w (0 + n) 0 (Tryz.growRange_ren.t 25) (by unfold maxLen; omega)
    generalize grownCap w (0 + n) 0 (Tryz.growRange_ren.t 25) = G at *
    refine ⟨_, rfl, ⟨rfl, .inr ⟨w.heap.size, G, _, rfl, Nat.le_refl _, World.alloc_heap_new _ _, Nat.zero_le _, hg2, ?_, rfl⟩⟩, ((Below.refl _ _).drew).alloc (Nat.le_refl _) _⟩
    rw [Array.size_append, Array.size_append]
    have e1 := zero_size (0 + n - 0)
    have e2 := zero_size (G - (0 + n))
    have e3 : (Value.agg #[(.int .i64 0 : Value), .int .i64 0]).cells = #[(.int .i64 0 : Value), .int .i64 0] := by rfl
    rw [e3, e1, e2]
    simp
    omega
theorem indexS_at (b : Nat) (m c : Nat) (i : Int) (h : 0 ≤ i ∧ i < m) (W : World) : (Instr.indexAt 89 (.slice (some ⟨b, 0, none⟩) m c) (.int .i64 i)).run Tryz.prog W = .ok (.pointer (some ⟨b, i.toNat, none⟩)) W := by
  obtain ⟨h1, h2⟩ := h
  rw [run_indexAt_slice (k := .i64) (h := by kernel_rfl)]
  simp [go_sem, h1, h2, add_zero_off]
set_option maxRecDepth 100000 in
set_option maxHeartbeats 8000000 in
theorem concat_calls {v1 v2 : Value} (a b : List S57) (g : Nat) (w : World) (h1 : Lst w v1 a) (h2 : Lst w v2 b) (ha : a.length ≤ 4096) (hb : b.length ≤ 4096) (c0 : w.cell? ⟨g, 0, none⟩ = some v1) (c1 : w.cell? ⟨g, 1, none⟩ = some v2) :
    Calls Tryz.prog 76 #[.slice (some ⟨g, 0, none⟩) 2 2] w fun e w' => ∃ v', e = .returned v' ∧ Row w' w.heap.size v' (a ++ b) ∧ Below w.heap.size w w' := by
  obtain ⟨A1, k1, rfl, hC1, hk1⟩ := h1
  obtain ⟨A2, k2, rfl, hC2, hk2⟩ := h2
  have HC1 := Lib.hid hC1; have HC2 := Lib.hid hC2
  have HG := Lib.hid (fun n hn W => grow_calls n hn W)
  have HCELL := Lib.hid (fun W (h : Below w.heap.size w W) => (⟨(h.cell (World.block_lt_of_cell? w _ c0)).trans c0, (h.cell (World.block_lt_of_cell? w _ c1)).trans c1⟩ : W.cell? ⟨g, 0, none⟩ = some (.slice A1 a.length k1) ∧ W.cell? ⟨g, 1, none⟩ = some (.slice A2 b.length k2)))
  clear hC1 hC2
  obtain ⟨n1, hn1⟩ : ∃ n, a.length = n := ⟨_, rfl⟩
  obtain ⟨n2, hn2⟩ : ∃ n, b.length = n := ⟨_, rfl⟩
  rw [hn1] at HC1 HCELL c0 ha
  rw [hn2] at HC2 HCELL c1 hb
  have HN1 := Lib.hid hn1; have HN2 := Lib.hid hn2
  clear hn1 hn2 hk1 hk2
  have hix0 := fun W => indexS_at g 2 2 0 (by omega) W
  have hix1 := fun W => indexS_at g 2 2 1 (by omega) W
  simp only [Int.toNat_zero, Int.toNat_one] at hix0 hix1
  go_enter Tryz.func76, Tryz.ntmps76
  go_wp2_with fail
  go_loopw [3, 11] (fun s i wr => wr = w ∧ ((i = .int .i64 0 ∧ s = .int .i64 0) ∨ (i = .int .i64 1 ∧ s = .int .i64 (n1 : Nat)) ∨ (i = .int .i64 2 ∧ s = .int .i64 ((n1 + n2 : Nat) : Int))))
    (fun _ i _ => 2 - (intOf i).toNat)
  case atStart => exact ⟨rfl, .inl ⟨rfl, rfl⟩⟩
  case round =>
    obtain ⟨rfl, ⟨rfl, rfl⟩ | ⟨rfl, rfl⟩ | ⟨rfl, rfl⟩⟩ := hrel
    · have hw1 : IntKind.i64.wrap (n1 : Int) = n1 := IntWalk.i64_in _ (by omega)
      have hng : decide ((n1 : Int) < 0) = false := decide_eq_false (by omega)
      go_wp2_with fail
      refine ⟨⟨trivial, .inr (.inl ⟨rfl, rfl⟩)⟩, by simp [intOf]⟩
    · have hw1 : IntKind.i64.wrap ((n1 : Int) + n2) = n1 + n2 := IntWalk.i64_in _ (by omega)
      have hng : decide ((n1 : Int) + n2 < 0) = false := decide_eq_false (by omega)
      go_wp2_with fail
      refine ⟨⟨trivial, .inr (.inr ⟨rfl, by rw [Int.natCast_add]⟩)⟩, by simp [intOf]⟩
    · have HGG := Lib.hid (HG.out (n1 + n2) (by omega) wr)
      clear c0 c1
      generalize n1 + n2 = n at *
      go_wp2_with fail
      refine HGG.out.mono ?_
      rintro e w2 ⟨v3, rfl, hO2, hb2⟩
      have HO2 := Lib.hid hO2; have HB2 := Lib.hid hb2
      clear hO2 hb2
      go_wp2_with fail
      go_loopw [6, 27] (fun o i w3 => Hid (Below wr.heap.size wr w3) ∧ ((i = .int .i64 0 ∧ Hid (Row w3 wr.heap.size o [])) ∨ (i = .int .i64 1 ∧ Hid (Row w3 wr.heap.size o a)) ∨ (i = .int .i64 2 ∧ Hid (Row w3 wr.heap.size o (a ++ b)))))
        (fun _ i _ => 2 - (intOf i).toNat)
      case atStart => exact ⟨HB2, .inl ⟨rfl, HO2⟩⟩
      case round =>
        obtain ⟨hB, ⟨rfl, hO⟩ | ⟨rfl, hO⟩ | ⟨rfl, hO⟩⟩ := hrel
        · obtain ⟨q0, q1⟩ := HCELL.out _ hB.out
          obtain ⟨A3, c3, rfl⟩ := row_form hO.out
          have HCX := Lib.hid (Kd.C_below HC1.out hB.out)
          have hsz := hB.out.size
          go_wp2_with ((with_reducible refine gate_builtin (b := .append) (xs := #[.tmp 31, .tmp 32]) rfl ?_); at_builtin; refine append_lst (w0 := _) _ rfl (.tmp 31) (.tmp 32) rfl _ [] _ _ _ _ rfl rfl hO.out HCX.out hB.out hsz (by have := HN1.out; first | omega | (simp; omega)) ?_; intro v6 w6 hO6 hb6; have HO6 := Lib.hid hO6; have HB6 := Lib.hid hb6; clear hO6 hb6)
          refine ⟨⟨HB6, .inr (.inl ⟨rfl, HO6⟩)⟩, by simp [intOf]⟩
        · obtain ⟨q0, q1⟩ := HCELL.out _ hB.out
          obtain ⟨A3, c3, rfl⟩ := row_form hO.out
          have HCX := Lib.hid (Kd.C_below HC2.out hB.out)
          have hsz := hB.out.size
          go_wp2_with ((with_reducible refine gate_builtin (b := .append) (xs := #[.tmp 31, .tmp 32]) rfl ?_); at_builtin; refine append_lst (w0 := _) _ rfl (.tmp 31) (.tmp 32) rfl _ a _ _ _ _ rfl rfl hO.out HCX.out hB.out hsz (by have := HN1.out; first | omega | (simp; omega)) ?_; intro v6 w6 hO6 hb6; have HO6 := Lib.hid hO6; have HB6 := Lib.hid hb6; clear hO6 hb6)
          refine ⟨⟨HB6, .inr (.inr ⟨rfl, HO6⟩)⟩, by simp [intOf]⟩
        · go_wp2_with fail
          go_ret
          exact ⟨_, rfl, hO.out, hB.out⟩
set_option maxRecDepth 100000 in
set_option maxHeartbeats 8000000 in
theorem Either_calls {v1 v2 : Value} (a b : List S57) (w : World) (h1 : Lst w v1 a) (h2 : Lst w v2 b) :
    Calls Tryz.prog 42 #[v1, v2] w fun e w' => ∃ v', e = .returned (.tuple #[v', .int .i64 (normS (takenL a ++ takenL b)).2]) ∧ RowC w' w.heap.size v' (normS (takenL a ++ takenL b)).1 ∧ Below w.heap.size w w' := by
  have HT := Lib.hid (taken_calls a w h1)
  have HT2 := Lib.hid (fun W (hb : Below w.heap.size w W) => taken_calls b W (h2.below hb))
  have hl1 := right_le (takenL_right a)
  have hl2 := right_le (takenL_right b)
  obtain ⟨A, c, rfl, _, _⟩ := h1
  obtain ⟨A', c', rfl, _, _⟩ := h2
  generalize takenL a = t at *
  generalize takenL b = u at *
  have HCC := Lib.hid (fun v1 v2 g W h1 h2 c0 c1 => concat_calls (v1 := v1) (v2 := v2) t u g W h1 h2 hl1 hl2 c0 c1)
  have HNORM := Lib.hid (fun v l W (h : Lst W v l) (hl : l.length ≤ 1000000000000) => Norm_calls' l W h hl)
  have hlen : (t ++ u).length ≤ 8192 := by rw [List.length_append]; omega
  generalize t ++ u = tu at *
  go_enter Tryz.func42, Tryz.ntmps42
  go_wp2_with fail
  refine HT.out.mono ?_
  rintro e w1 ⟨v3, rfl, hL3, hb1, _⟩
  have HB1 := Lib.hid hb1; have HL3 := Lib.hid hL3
  clear hb1 hL3
  go_wp2_with fail
  refine (HT2.out _ HB1.out).mono ?_
  rintro e w2 ⟨v4, rfl, hL4, hb2, _⟩
  have hb3 : Below w2.heap.size w2 (w2.alloc (.cells #[v3, v4] 23)) := (Below.refl _ _).alloc (Nat.le_refl _) _
  have hnw := World.alloc_heap_new w2 (.cells #[v3, v4] 23)
  have HK := Lib.hid (HCC.out v3 v4 w2.heap.size (w2.alloc (.cells #[v3, v4] 23)) ((HL3.out.below hb2).below hb3) (hL4.below hb3) ((blk_cell hnw 0).trans rfl) ((blk_cell hnw 1).trans rfl))
  have HB3 := Lib.hid (below_step (below_step HB1.out hb2) hb3)
  obtain ⟨A3, c3, hv3, _, _⟩ := HL3.out
  obtain ⟨A4, c4, hv4, _, _⟩ := hL4
  subst hv3 hv4
  clear hb2 hb3 hnw HCC HT2
  go_wp2_with fail
  refine HK.out.mono ?_
  rintro e w5 ⟨v5, rfl, hO5, hb5⟩
  have HNN := Lib.hid (HNORM.out _ tu w5 hO5.lst (by omega))
  have HB5 := Lib.hid (below_step HB3.out hb5)
  obtain ⟨A5, c5, hv5⟩ := row_form hO5
  subst hv5
  clear hO5 hb5
  go_wp2_with fail
  refine HNN.out.mono ?_
  rintro e w7 ⟨v7, rfl, hO7, hb7⟩
  go_wp2_with fail
  go_ret2
  exact ⟨_, rfl, hO7.lower HB5.out.size, below_step HB5.out hb7⟩

end Go.Proofs.YtnfdppkbbfdmnaaGreatDoor.PD

namespace Go.Proofs.YtnfdppkbbfdmnaaGreatDoor.PD
open Go.RowKit Go.Proofs.YtnfdppkbbfdmnaaGreatDoorW.PrintWords Go.Proofs.YtnfdppkbbfdmnaaGreatDoorW.PrintLast Go.Proofs.YtnfdppkbbfdmnaaGreatDoorW.PrintMore
set_option linter.unusedVariables false
set_option linter.unusedSimpArgs false
/-! ### Spoil of a row whose spare room has been cut off -/
theorem Row.seg {W : World} {base g p cap : Nat} {l : List S57} (h : Row W base (.slice (some ⟨g, 0, none⟩) p cap) l) (k : Nat) (hk : k < l.length) (x y : Int) (hb : base ≤ W.heap.size) :
    Row ((W.setCell ⟨g, k * 2, none⟩ (.int .i64 x)).setCell ⟨g, k * 2 + 1, none⟩ (.int .i64 y)) base (.slice (some ⟨g, 0, none⟩) p cap) (l.set k ⟨x, y⟩) ∧ Below base W ((W.setCell ⟨g, k * 2, none⟩ (.int .i64 x)).setCell ⟨g, k * 2 + 1, none⟩ (.int .i64 y)) := by
  have hR := h.toR
  have hgb := own_base h.own g (by simp [Value.ownBlock])
  have hp := (Kd.R_reads' hR).1
  obtain ⟨ce, hcl, hM, hcc, hfr⟩ := Kd.R_elem hR z57 (k : Int) (by omega) (by omega)
  have hs := Kd.R_seg hR (k : Int) (by omega) (by omega) (seg := [.int .i64 x, .int .i64 y]) (j := 0) hcl hcc (show 0 + 2 ≤ 2 by decide) (x' := (⟨x, y⟩ : S57)) (okp := fun k => k ≠ g) (by
    have e := k57_openM hM
    subst e
    exact k57_mkM _ _ _ (⟨x, y⟩ : S57)) (fun k hk => ⟨trivial, hk⟩)
  rw [Int.toNat_natCast] at hs
  refine ⟨R57_row hs.1, (Below.refl base W).grown hs.2 hb (fun k hk => ?_)⟩
  injection hk with hk
  omega
theorem Row.setLo {W : World} {base g p cap : Nat} {l : List S57} (h : Row W base (.slice (some ⟨g, 0, none⟩) p cap) l) (k : Nat) (hk : k < l.length) (x : Int) (hb : base ≤ W.heap.size) :
    Below base W (W.setCell ⟨g, k * 2, none⟩ (.int .i64 x)) := by
  have hR := h.toR
  have hgb := own_base h.own g (by simp [Value.ownBlock])
  have hp := (Kd.R_reads' hR).1
  obtain ⟨ce, hcl, hM, hcc, hfr⟩ := Kd.R_elem hR z57 (k : Int) (by omega) (by omega)
  have hs := Kd.R_seg hR (k : Int) (by omega) (by omega) (seg := [.int .i64 x]) (j := 0) hcl hcc (show 0 + 1 ≤ 2 by decide) (x' := (⟨x, (l.getD (k : Int).toNat z57).f1⟩ : S57)) (okp := fun k => k ≠ g) (by
    have e := k57_openM hM
    subst e
    exact k57_mkM _ _ _ (⟨x, (l.getD (k : Int).toNat z57).f1⟩ : S57)) (fun k hk => ⟨trivial, hk⟩)
  rw [Int.toNat_natCast] at hs
  refine (Below.refl base W).grown hs.2 hb (fun k hk => ?_)
  injection hk with hk
  omega
set_option maxRecDepth 100000 in
set_option maxHeartbeats 8000000 in
theorem SpoilC_ref {v : Value} (w0 : World) (l : List S57) (w : World) (h : RowC w w0.heap.size v l) (hB : Below w0.heap.size w0 w) (hl : l.length ≤ 100000) :
    Calls Tryz.prog 19 #[v] w fun e w' => e = .returned (.tuple #[]) ∧ Below w0.heap.size w0 w' := by
  obtain ⟨A, c, c', rfl, hc, hr⟩ := h
  rcases hc with rfl | rfl
  · exact Spoil_ref w0 l w hr hB (by omega)
  obtain ⟨i0, hi0, hz0, hz1, hz2⟩ := info_parts info57
  have HR := Lib.hid hr
  have HB := Lib.hid hB
  have HL : Hid (l.length = l.length) := Lib.hid rfl
  obtain ⟨n, hn⟩ : ∃ n, l.length = n := ⟨_, rfl⟩
  rw [hn] at HR hl ⊢
  have HN := Lib.hid hn
  clear hr hB hn HL
  go_enter Tryz.func19, Tryz.ntmps19
  go_wp2_with fail
  go_loopw [2] (fun i wr => ∃ (k : Nat) (l' : List S57), i = .int .i64 k ∧ k ≤ n ∧ Hid (l'.length = n) ∧ Hid (Row wr w0.heap.size (.slice A n c') l') ∧ Hid (Below w0.heap.size w0 wr))
    (fun i _ => n - (intOf i).toNat)
  case atStart => exact ⟨0, l, rfl, Nat.zero_le _, HN, HR, HB⟩
  case round =>
    obtain ⟨k, l', rfl, hk, hLn, hO, hB⟩ := hrel
    have hle := hB.out.size
    by_cases hkn : k < n
    · have hkl : k < l'.length := by rw [hLn.out]; exact hkn
      obtain ⟨g, cap, hv3, hgb, hgl, cl, hg⟩ := Kd.R_form hO.out.toR (by omega)
      injection hv3 with hA3 hx_ hc3
      subst hA3 hc3
      clear hx_
      obtain ⟨A9, c9, hv9, hC9, _⟩ := hO.out.lst
      injection hv9 with hv9 hx_ hv10
      subst hv9 hv10
      clear hx_
      obtain ⟨ad2, hA2, y0, y1⟩ := rng_at hC9 k hkl
      injection hA2 with hA2
      subst hA2
      rw [add_zero_off] at y0 y1
      simp only at y0 y1
      have hf0 : wr.frozen? ⟨g, k * 2, none⟩ = false := blk_frozen hg _
      have hf1 : wr.frozen? ⟨g, k * 2 + 1, none⟩ = false := blk_frozen hg _
      have hix := fun W => index_at ⟨g, 0, none⟩ n n (k : Nat) (by omega) W
      simp only [Int.toNat_natCast, add_zero_off] at hix
      obtain ⟨r1, r2⟩ := hO.out.seg k hkl 9 (-9) hle
      have HR1 := Lib.hid r1; have HR2 := Lib.hid (hB.out.trans r2)
      generalize l'[k].f0 = a at *
      generalize l'[k].f1 = b at *
      clear r1 r2 hC9 hg hkl
      go_wp2_with fail
      refine ⟨⟨k + 1, l'.set k ⟨9, -9⟩, by rw [Int.natCast_add]; rfl, by omega, Lib.hid (by rw [List.length_set, hLn.out]), HR1, HR2⟩, by simp [intOf]; omega⟩
    · obtain rfl : k = n := by omega
      obtain ⟨A9, c9, hv9, hC9, hc9⟩ := hO.out.lst
      injection hv9 with hv9 hx_ hv10
      subst hv9 hv10
      clear hx_
      have hnews : ∀ b, A = some b → ∀ j u, (flat57 l')[j]? = some u → wr.cell? (b.add j) = some u := by
        intro b hb
        subst hb
        obtain ⟨news, hreps, hnews⟩ := ReadsRow.inner_ hC9
        have hnf : news = flat57 l' := reps_flat57 (fun x cs h => k57_open h) l' news hreps
        subst hnf
        exact hnews
      have hfl := flat57_len l'
      rw [hLn.out] at hfl
      have hnone : A = none → k = 0 ∧ k = 0 := by
        intro h
        subst h
        have := C_none hC9
        subst this
        have := hLn.out
        simp at this
        omega
      have hb0 : Below wr.heap.size wr (wr.alloc (.cells #[.int .i64 5, .int .i64 (-5)] 57)) := (Below.refl _ _).alloc (Nat.le_refl _) _
      have hcells : ∀ b, A = some b → ∀ j u, (flat57 l')[j]? = some u → (wr.alloc (.cells #[.int .i64 5, .int .i64 (-5)] 57)).cell? (b.add j) = some u := by
        intro b hb j u hj
        have := hnews b hb j u hj
        exact (hb0.cell (World.block_lt_of_cell? wr _ this)).trans this
      have HCELLS := Lib.hid hcells; have HNONE := Lib.hid hnone; have HFL := Lib.hid hfl
      have HB0 := Lib.hid (below_step hB.out hb0)
      clear hcells hnone hfl hnews hb0 hC9
      go_wp2_with ((with_reducible refine gate_builtin (b := .append) (xs := #[.tmp 13, .tmp 15]) rfl ?_); at_builtin; refine wpList_append_grows _ rfl (.tmp 13) (.tmp 15) 23 rfl 57 i0 _ 2 16 Tryz.underlying23 hi0 hz0 hz1 hz2 rfl (by decide) A k k (flat57 l') rfl HNONE.out HFL.out HCELLS.out ⟨_, 0, none⟩ 1 1 [.int .i64 5, .int .i64 (-5)] rfl rfl (cell_pair_at _ _ (by simp) _ _ _) (by simp [Value.oneCell']) (by omega) (by simp only [maxLen]; omega) (by omega) ?_; intro v' w4 hown' hgrow; have hrow : Row w4 (wr.alloc (.cells #[.int .i64 5, .int .i64 (-5)] 57)).heap.size v' (l' ++ [⟨5, -5⟩]) := (by unfold Row; rw [List.length_append, List.length_singleton, flat57_snoc, hLn.out]; exact hown'); have HROW := Lib.hid hrow; have HBG := Lib.hid (HB0.out.grown hgrow HB0.out.size (fun k hk => by cases hk)); have hgs := hgrow.size; clear hrow hown' hgrow; obtain ⟨g2, cap2, hv2, hgb2, _, cl2, hg2⟩ := Kd.R_form HROW.out.toR (by rw [List.length_append, List.length_singleton]; omega); subst hv2; obtain ⟨A9, c9, hv9, hC9, hc10⟩ := HROW.out.lst; injection hv9 with hv9 hx_ hv10; subst hv9 hv10; clear hx_; obtain ⟨ad2, hA2, y0, y1⟩ := rng_at hC9 k (by rw [List.length_append, List.length_singleton, hLn.out]; omega); injection hA2 with hA2; subst hA2; rw [add_zero_off] at y0; have hll : (l' ++ [(⟨5, -5⟩ : S57)]).length = k + 1 := (by rw [List.length_append, List.length_singleton, hLn.out]); have hlo := HROW.out.setLo k (by omega) 3 hgs; have HLO := Lib.hid hlo; have HGS := Lib.hid hgs; obtain ⟨p, hp⟩ : ∃ p, (l' ++ [(⟨5, -5⟩ : S57)]).length = p := ⟨_, rfl⟩; rw [hp] at hc10 hll ⊢; have hix := fun W => index_at ⟨g2, 0, none⟩ p cap2 ((p : Int) - 1) (by omega) W; have htn : ((p : Int) - 1).toNat = k := (by omega); simp only [htn, add_zero_off] at hix; have hw1 : IntKind.i64.wrap ((p : Int) - 1) = (p : Int) - 1 := IntWalk.i64_in _ (by omega); have hf0 : w4.frozen? ⟨g2, k * 2, none⟩ = false := blk_frozen hg2 _; generalize (l' ++ [(⟨5, -5⟩ : S57)])[k].f0 = a at *; clear hC9 y1 hll htn hp hg2 hlo hgs)
      go_end0
      exact ⟨rfl, HBG.out.trans (HLO.out.mono (by have := HB0.out.size; omega))⟩

end Go.Proofs.YtnfdppkbbfdmnaaGreatDoor.PD
