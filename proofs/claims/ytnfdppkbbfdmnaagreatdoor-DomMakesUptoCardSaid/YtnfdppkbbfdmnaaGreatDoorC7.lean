/- Parts of the laws of dom: functions of the program, each with the proof of what it answers; the conditions are those of each theorem. -/
import Derived.Test.YtnfdppkbbfdmnaaGreatDoorC5
import Derived.Test.YtnfdppkbbfdmnaaGreatDoorC6
import Derived.Deep.RegionHeld3
import Derived.Deep.DeepCutAuto
import Derived.Test.YtnfdppkbbfdmnaaGreatDoorC3
import Derived.Test.YtnfdppkbbfdmnaaGreatDoorC1
namespace Go.Proofs.YtnfdppkbbfdmnaaGreatDoor.PD
open Go.RowKit Go.Proofs.YtnfdppkbbfdmnaaGreatDoorW.PrintWords Go.Proofs.YtnfdppkbbfdmnaaGreatDoorW.PrintLast Go.Proofs.YtnfdppkbbfdmnaaGreatDoorW.PrintMore
set_option linter.unusedVariables false
set_option linter.unusedSimpArgs false
/-! ### appending a whole list -/
theorem Row.toR {w : World} {base : Nat} {v : Value} {l : List S57} (h : Row w base v l) : Kd.R k57 57 w base (fun _ => True) v l := by
  refine ⟨fun _ _ => trivial, flat57 l, h, ?_⟩
  obtain ⟨r, rfl⟩ : ∃ r, l = r.reverse := ⟨l.reverse, by simp⟩
  clear h
  induction r with
  | nil => exact Reps.none _ _
  | cons s r ih =>
    rw [List.reverse_cons, flat57_snoc]
    exact ih.snoc (k57_mkM _ _ _ s) rfl
section
variable {ops : Array Oper} {rest : List Oper} {o : Oper} {a : Act} {Q : Exit → Act → World → Prop}
theorem append_lst {w0 W : World} (base : Nat) (hgd : o.guard = none) (s x : Operand)
    (ho : o.op = .call { callee := .builtin .append, args := #[s, x], argTypes := #[23, 23] })
    (v : Value) (xs ys : List S57) (A : Option Addr) (m c : Nat) (hs : a.eval s = v) (hx : a.eval x = .slice A m c)
    (HO : Row W base v xs) (HR : Kd.C k57 W A m ys) (HB : Below base w0 W) (hbase : base ≤ W.heap.size) (hl : xs.length + m ≤ 8796093022000)
    (h : ∀ v1 w1, Row w1 base v1 (xs ++ ys) → Below base w0 w1 → wpList Tryz.prog ops Q rest (a.put o.dst v1) w1) :
    wpList Tryz.prog ops Q (o :: rest) a W := by
  refine Kd.R_append_rows k57 (w0 := w0) base hgd s x 23 57 (.agg #[(.int .i64 0), (.int .i64 0)]) 16 ho Tryz.underlying23 info57 rfl (by decide) (by omega) v xs ys A m c (fun _ => True) (fun _ => False) hs hx HO.toR HR (fun _ _ h => h) (fun _ h => h.elim) (fun _ _ => trivial) HB hbase (by omega) ?_
  intro v1 w1 ho1 hb1 _ _
  exact h v1 w1 (R57_row ho1) hb1
end
section
variable {ops : Array Oper} {o : Oper} {a : Act} {Q : Exit → Act → World → Prop} {Kc : Act → World → Prop}
theorem append_lst_step {w0 W : World} (base : Nat) (hw : Region.wanted o (yielded ops a.tmps) = true) (s x : Operand)
    (ho : o.op = .call { callee := .builtin .append, args := #[s, x], argTypes := #[23, 23] })
    (v : Value) (xs ys : List S57) (A : Option Addr) (m c : Nat) (hs : a.eval s = v) (hx : a.eval x = .slice A m c)
    (HO : Row W base v xs) (HR : Kd.C k57 W A m ys) (HB : Below base w0 W) (hbase : base ≤ W.heap.size) (hl : xs.length + m ≤ 8796093022000)
    (h : ∀ v1 w1, Row w1 base v1 (xs ++ ys) → Below base w0 w1 → Kc (a.put o.dst v1) w1) :
    if Region.wanted o (yielded ops a.tmps) = true then Oper.wp Tryz.prog o a W Kc Q else Kc (a.put o.dst undef) W := by
  refine Kd.R_append_rows_step k57 (w0 := w0) base hw s x 23 57 (.agg #[(.int .i64 0), (.int .i64 0)]) 16 ho Tryz.underlying23 info57 rfl (by decide) (by omega) v xs ys A m c (fun _ => True) (fun _ => False) hs hx HO.toR HR (fun _ _ h => h) (fun _ h => h.elim) (fun _ _ => trivial) HB hbase (by omega) ?_
  intro v1 w1 ho1 hb1 _ _
  exact h v1 w1 (R57_row ho1) hb1
end
/-- a list that is read, in a world that grows -/
def CutS (w1 : World) (A1 : Option Addr) (u : List S57) (W : World) : Prop := Below w1.heap.size w1 W ∧ Kd.C k57 w1 A1 u.length u
structure CutF (u : List S57) (k : Nat) (a b : Int) : Prop where
  hk : k < u.length
  e0 : u[k].f0 = a
  e1 : u[k].f1 = b
theorem CutS.step {w1 W W' : World} {A1 : Option Addr} {u : List S57} (h : CutS w1 A1 u W) (hb : Below W.heap.size W W') : CutS w1 A1 u W' := ⟨below_step h.1 hb, h.2⟩
theorem CutS.all {w1 W : World} {x : Addr} {u : List S57} {k : Nat} {a b : Int} (h : CutS w1 (some x) u W) (f : CutF u k a b) :
    W.cell? (x.add (k * 2)) = some (.int .i64 a) ∧ W.cell? ⟨(x.add (k * 2)).block, (x.add (k * 2)).off + 1, none⟩ = some (.int .i64 b) ∧ CutS w1 (some x) u W := by
  obtain ⟨x', e1, p0, p1⟩ := rng_at (Kd.C_below h.2 h.1) k f.hk
  injection e1 with e1
  subst e1
  rw [f.e0] at p0
  rw [f.e1] at p1
  exact ⟨p0, p1, h⟩
/-- the cuts of t by each of some ranges, one behind another -/
def cutsL (t : List S57) (u : List S57) : List S57 := u.flatMap fun r => cutL t r.f0 r.f1
theorem cutsL_take {t u : List S57} {k : Nat} (h : k < u.length) : cutsL t (u.take (k + 1)) = cutsL t (u.take k) ++ cutL t u[k].f0 u[k].f1 := by
  unfold cutsL
  rw [take_at h, List.flatMap_append, List.flatMap_cons, List.flatMap_nil, List.append_nil]
/-- what the reference makes of ranges in any order -/
def JoinedIs (l r : List S57) : Prop := ∃ k, jigsawref02_joined.f k l = some r
theorem joined_ref {v : Value} (l r : List S57) (w : World) (h : Lst w v l) (hj : JoinedIs l r) :
    Calls Tryz.prog 61 #[v] w fun e w' => ∃ v', e = .returned v' ∧ Row w' w.heap.size v' r ∧ Below w.heap.size w w' := by
  obtain ⟨A, c, rfl, hC, hc⟩ := h
  obtain ⟨k, hk⟩ := hj
  refine (jigsawref02_joined.calls k A c l r w hC hc hk).mono ?_
  rintro e w' ⟨v', rfl, hO, hb⟩
  exact ⟨v', rfl, R57_row hO, hb⟩
set_option maxRecDepth 100000 in
set_option maxHeartbeats 8000000 in
theorem Both_ref {v1 v2 : Value} (a b r : List S57) (w : World) (h1 : Lst w v1 a) (h2 : Lst w v2 b) (hj : JoinedIs (cutsL (takenL a) (takenL b)) r) :
    Calls Tryz.prog 48 #[v1, v2] w fun e w' => ∃ v', e = .returned v' ∧ Row w' w.heap.size v' (if r.length ≤ 4096 then r else takenL a) ∧ Below w.heap.size w w' := by
  have HT := Lib.hid (Taken_ref b w h2)
  have HT2 := Lib.hid (fun W (hb : Below w.heap.size w W) => Taken_ref a W (h1.below hb))
  have HCUT := Lib.hid (fun W lo hi (hb : Below w.heap.size w W) => Cut_ref a lo hi W (h1.below hb))
  have hl1 := right_le (takenL_right a)
  have hl2 := right_le (takenL_right b)
  have HJ := Lib.hid hj
  obtain ⟨A, c, rfl, _, _⟩ := h1
  obtain ⟨A', c', rfl, _, _⟩ := h2
  clear hj
  obtain ⟨res, hres⟩ : ∃ res, (if r.length ≤ 4096 then r else takenL a) = res := ⟨_, rfl⟩
  rw [hres]
  generalize takenL a = t at *
  generalize takenL b = u at *
  have HRES := Lib.hid hres
  clear hres
  go_enter Tryz.func48, Tryz.ntmps48
  go_wp2_with fail
  refine HT.out.mono ?_
  rintro e w1 ⟨v3, rfl, ⟨A1, c1, rfl, hC, hc1⟩, hb, _⟩
  have HC := Lib.hid hC; have HB := Lib.hid hb
  clear hC hb HT
  generalize hm : u.length = m at *
  have HL := Lib.hid hm
  clear hm
  go_wp2_with fail
  go_loopw [5, 6] (fun o i wr => ∃ (k : Nat) (out : List S57), i = .int .i64 k ∧ k ≤ m ∧ out.length ≤ 4096 * k ∧ Hid (cutsL t (u.take k) = out) ∧ Hid (Row wr w1.heap.size o out) ∧ Hid (Below w1.heap.size w1 wr))
    (fun _ i _ => m - (intOf i).toNat)
  case atStart => exact ⟨0, [], rfl, Nat.zero_le _, Nat.zero_le _, Lib.hid rfl, Lib.hid (Row.nil _ _), Lib.hid (Below.refl _ _)⟩
  case round =>
    obtain ⟨k, out, rfl, hk, hol, hN, hO, hB⟩ := hrel
    obtain ⟨A0, c0, rfl⟩ := row_form hO.out
    by_cases hkm : k < m
    · have hkt : k < u.length := by rw [HL.out]; exact hkm
      obtain ⟨ad, hA, _, _⟩ := rng_at HC.out k hkt
      subst hA
      have HF : CutF u k u[k].f0 u[k].f1 := ⟨hkt, rfl, rfl⟩
      have HF := Lib.hid HF
      have HST := Lib.hid (cutsL_take (t := t) hkt)
      generalize u[k].f0 = a0 at *
      generalize u[k].f1 = b0 at *
      have hix := fun W => index_at ad m c1 (k : Nat) (by omega) W
      simp only [Int.toNat_natCast] at hix
      have hz1' : (0 : Int) ≤ (k : Int) := by omega
      have hk3 : (k : Int) < (m : Int) := by omega
      have hcl := cutL_len t a0 b0
      have HC' := HC
      rw [← HL.out] at HC'
      have hS : CutS w1 (some ad) u wr.drew := ⟨hB.out.trans (Below.refl _ _).drew, HC'.out⟩
      have HO1 := Lib.hid (hO.out.below ((Below.refl _ wr).drew))
      have hsz := hB.out.size
      go_upto_region 6 with fail
      go_region_held3 (fun v => v.cell? (ad.add (k * 2)) = some (.int .i64 a0) ∧ v.cell? ⟨(ad.add (k * 2)).block, (ad.add (k * 2)).off + 1, none⟩ = some (.int .i64 b0) ∧ CutS w1 (some ad) u v)
        (first | exact hS6.all HF.out | exact hS5.all HF.out | exact hS.all HF.out)
        (first | (go_at_call 49; refine (HCUT.out _ _ _ (below_step HB.out hS.1)).mono ?_; rintro e w5 ⟨v5, rfl, hO5, hb5⟩; have hS5 := hS.step hb5; have HO5 := Lib.hid (HO1.out.below hb5); obtain ⟨A5, c5, hv5, hC5, hc5⟩ := hO5.lst; subst hv5; have HC5 := Lib.hid hC5; clear hC5 hO5 hb5) | (refine append_lst_step (w0 := w1) w1.heap.size rfl (.tmp 16) (.tmp 28) rfl _ _ _ _ _ _ rfl rfl HO5.out HC5.out hS5.1 hS5.1.size (by omega) ?_; intro v6 w6 hO6 hb6; have hS6 : CutS w1 (some ad) u w6 := ⟨hb6, hS.2⟩))
      have HO6 := Lib.hid hO6; have HB6 := Lib.hid hb6
      clear hO6 hb6 hS6 hS5 hS
      go_wp2_with fail
      refine ⟨⟨k + 1, out ++ cutL t a0 b0, by rw [Int.natCast_add]; rfl, by omega, by rw [List.length_append]; omega, Lib.hid (by rw [HST.out, hN.out]), HO6, HB6⟩, by simp [intOf]; omega⟩
    · obtain rfl : k = m := by omega
      rw [List.take_of_length_le (by rw [HL.out]; exact Nat.le_refl _)] at hN
      have HJ2 := Lib.hid (fun W (h : Below wr.heap.size wr W) => joined_ref out r W (hO.out.lst.below h) (by rw [← hN.out]; exact HJ.out))
      go_wp2_with fail
      refine (HJ2.out _ (Below.refl _ _)).mono ?_
      rintro e w2 ⟨v4, rfl, hO2, hb2⟩
      obtain ⟨A2, c2, rfl⟩ := row_form hO2
      have HO2 := Lib.hid hO2; have HB2 := Lib.hid (below_step (below_step HB.out hB.out) hb2)
      have hle := HB.out.size
      have hle2 := hB.out.size
      have hle3 := hb2.size
      clear hO2 hb2 HJ2
      by_cases hbig : r.length ≤ 4096
      · have hb1 : decide ((r.length : Int) > 4096) = false := decide_eq_false (by omega)
        have hb2 : decide (4096 < r.length) = false := decide_eq_false (by omega)
        go_wp2_with fail
        go_ret
        refine ⟨_, rfl, ?_, HB2.out⟩
        rw [← HRES.out, if_pos hbig]
        exact HO2.out.lower (by omega)
      · have hb1 : decide ((r.length : Int) > 4096) = true := decide_eq_true (by omega)
        have hb2 : decide (4096 < r.length) = true := decide_eq_true (by omega)
        have HN := Lib.hid hbig
        go_wp2_with fail
        refine (HT2.out _ HB2.out).mono ?_
        rintro e w4 ⟨v5, rfl, ⟨A5, c5, rfl, hC5, hc5⟩, hb5, _⟩
        have HC5 := Lib.hid hC5; have HB5 := Lib.hid (below_step HB2.out hb5)
        clear hC5 hb5
        go_wp2_with ((with_reducible refine gate_builtin (b := .append) (xs := #[.tmp 35, .tmp 37]) rfl ?_); at_builtin; refine append_lst (w0 := w) w.heap.size rfl (.tmp 35) (.tmp 37) rfl _ [] _ _ _ _ rfl rfl (Row.nil _ _) HC5.out HB5.out HB5.out.size (by simp; omega) ?_; intro v6 w6 hO6 hb6)
        go_ret
        refine ⟨_, rfl, ?_, hb6⟩
        rw [← HRES.out, if_neg HN.out]
        exact hO6

end Go.Proofs.YtnfdppkbbfdmnaaGreatDoor.PD

namespace Go.Proofs.YtnfdppkbbfdmnaaGreatDoor.PD
open Go.RowKit Go.Proofs.YtnfdppkbbfdmnaaGreatDoorW.PrintWords Go.Proofs.YtnfdppkbbfdmnaaGreatDoorW.PrintLast Go.Proofs.YtnfdppkbbfdmnaaGreatDoorW.PrintMore
set_option linter.unusedVariables false
set_option linter.unusedSimpArgs false
/-! ### what the reference makes of ranges in any order -/
def posOf (s : List S57) (v : S57) : Nat → Nat
  | 0 => 0
  | j + 1 => if (rd_T57 s (j : Nat)).f0 > v.f0 then posOf s v j else j + 1
def insAt (s : List S57) (v : S57) (p : Nat) : List S57 := s.take p ++ [v] ++ s.drop p
theorem posOf_le (s : List S57) (v : S57) : ∀ j, posOf s v j ≤ j
  | 0 => Nat.le_refl _
  | j + 1 => by
    rw [posOf]
    split
    · have := posOf_le s v j; omega
    · omega
theorem insAt_len (s : List S57) (v : S57) (p : Nat) : (insAt s v p).length = s.length + 1 := by
  unfold insAt
  rw [List.length_append, List.length_append, List.length_take, List.length_drop, List.length_singleton]
  omega
theorem l1_ok (l s : List S57) (i : Nat) (hi : i < l.length) (hl : l.length ≤ 4000000000000) (hs : s.length ≤ 4000000000000) (r : List S57) :
    ∀ (j : Nat), j ≤ s.length → (∃ k, jigsawref02_joined.l0 k l (insAt s l[i] (posOf s l[i] j)) ((i + 1 : Nat) : Int) = some r) → ∃ k, jigsawref02_joined.l1 k l s (i : Int) (j : Int) = some r
  | 0, hj, ⟨k, hk⟩ => by
    refine ⟨k + 1, ?_⟩
    rw [jigsawref02_joined.l1]
    rw [if_neg (by omega), if_pos (by omega), if_pos (by omega), Option.bind_some, if_pos (by rw [List.length_take, List.length_nil]; omega), Option.bind_some, if_pos (by omega), if_pos (by omega),
      if_pos (by rw [List.length_append, List.length_take, List.length_nil]; omega), Option.bind_some, Option.bind_some,
      if_pos (by rw [List.length_append, List.length_append, List.length_take, List.length_drop, List.length_nil, List.length_singleton]; omega)]
    rw [show wrap64 ((i : Int) + 1) = ((i + 1 : Nat) : Int) from IntWalk.wrap64_in _ (by omega), rd57 l i hi, List.nil_append]
    exact hk
  | j + 1, hj, ⟨k, hk⟩ => by
    have hw : wrap64 (((j + 1 : Nat) : Int) - 1) = (j : Nat) := (IntWalk.wrap64_in _ (by omega)).trans (by omega)
    by_cases hc : (rd_T57 s (j : Nat)).f0 > l[i].f0
    · rw [posOf, if_pos hc] at hk
      obtain ⟨k2, hk2⟩ := l1_ok l s i hi hl hs r j (by omega) ⟨k, hk⟩
      refine ⟨k2 + 1, ?_⟩
      rw [jigsawref02_joined.l1]
      rw [hw, rd57 l i hi]
      rw [if_pos (by omega), if_pos (by omega), if_pos (by omega), if_pos (by omega), if_pos (by omega), if_pos hc]
      exact hk2
    · rw [posOf, if_neg hc] at hk
      refine ⟨k + 1, ?_⟩
      rw [jigsawref02_joined.l1]
      rw [hw, rd57 l i hi]
      rw [if_pos (by omega), if_pos (by omega), if_pos (by omega), if_pos (by omega), if_pos (by omega), if_neg hc]
      rw [if_pos (by omega), if_pos (by omega), Int.toNat_natCast, Option.bind_some, if_pos (by rw [List.length_take, List.length_nil]; omega), Option.bind_some,
        if_pos (by rw [List.length_append, List.length_take, List.length_nil]; omega), Option.bind_some, Option.bind_some,
        if_pos (by rw [List.length_append, List.length_append, List.length_take, List.length_drop, List.length_nil, List.length_singleton]; omega)]
      rw [show wrap64 ((i : Int) + 1) = ((i + 1 : Nat) : Int) from IntWalk.wrap64_in _ (by omega), List.nil_append]
      exact hk
/-- put in behind all that begin no later -/
def ins (s : List S57) (v : S57) : List S57 := insAt s v (posOf s v s.length)
theorem l0_ok (l : List S57) (hl : l.length ≤ 2000000000000) (r : List S57) : ∀ (d i : Nat) (s : List S57), l.length = i + d → s.length = i → (∃ k, jigsawref02_joined.l2 k ((l.drop i).foldl ins s) [] 0 = some r) → ∃ k, jigsawref02_joined.l0 k l s (i : Int) = some r
  | 0, i, s, hd, hs, ⟨k, hk⟩ => by
    refine ⟨k + 1, ?_⟩
    rw [List.drop_eq_nil_of_le (by omega)] at hk
    rw [jigsawref02_joined.l0]
    rw [if_neg (by omega)]
    exact hk
  | d + 1, i, s, hd, hs, ⟨k, hk⟩ => by
    have hi : i < l.length := by omega
    rw [List.drop_eq_getElem_cons hi, List.foldl_cons] at hk
    have h0 := l0_ok l hl r d (i + 1) (ins s l[i]) (by omega) (by unfold ins; rw [insAt_len]; omega) ⟨k, hk⟩
    obtain ⟨k2, hk2⟩ := l1_ok l s i hi (by omega) (by omega) r s.length (Nat.le_refl _) h0
    refine ⟨k2 + 1, ?_⟩
    rw [jigsawref02_joined.l0]
    rw [if_pos (by omega)]
    exact hk2
theorem mergeStep_len (out : List S57) (v : S57) : (mergeStep out v).length ≤ out.length + 1 := by
  unfold mergeStep
  split
  · split
    · rw [List.length_append, List.length_singleton, List.length_dropLast]; omega
    · rw [List.length_append, List.length_singleton]; exact Nat.le_refl _
  · simp
theorem set_last (ys : List S57) (x y : S57) : (ys ++ [x]).set ys.length y = ys ++ [y] := by
  rw [List.set_append_right _ _ (Nat.le_refl _), Nat.sub_self]
  rfl
def inR (s : S57) : Prop := -1000000 ≤ s.f0 ∧ s.f0 ≤ 1000000 ∧ -1000000 ≤ s.f1 ∧ s.f1 ≤ 1000000
theorem mergeStep_in {out : List S57} {v : S57} (h : ∀ s ∈ out, inR s) (hv : inR v) : ∀ s ∈ mergeStep out v, inR s := by
  rcases snoc_cases out with rfl | ⟨ys, x, rfl⟩
  · intro s hs
    have : s = v := by simpa [mergeStep] using hs
    rw [this]; exact hv
  · unfold mergeStep
    rw [List.getLast?_append, List.getLast?_singleton]
    simp only [Option.some_or, List.dropLast_concat]
    have hx := h x (by simp)
    split
    · intro s hs
      rw [List.mem_append, List.mem_singleton] at hs
      rcases hs with hs | rfl
      · exact h s (by simp [hs])
      · unfold inR at *
        simp only
        omega
    · intro s hs
      rw [List.mem_append, List.mem_singleton] at hs
      rcases hs with hs | rfl
      · exact h s hs
      · exact hv
theorem l2_ok (s : List S57) (hl : s.length ≤ 4000000000000) (hb : ∀ x ∈ s, inR x) : ∀ (d i : Nat) (out : List S57), s.length = i + d → out.length ≤ i → (∀ x ∈ out, inR x) → ∃ k, jigsawref02_joined.l2 k s out (i : Int) = some ((s.drop i).foldl mergeStep out)
  | 0, i, out, hd, ho, hbo => by
    refine ⟨1, ?_⟩
    rw [jigsawref02_joined.l2]
    rw [if_neg (by omega), List.drop_eq_nil_of_le (by omega)]
    rfl
  | d + 1, i, out, hd, ho, hbo => by
    have hi : i < s.length := by omega
    have hv := hb s[i] (List.getElem_mem hi)
    have hw : wrap64 ((i : Int) + 1) = ((i + 1 : Nat) : Int) := IntWalk.wrap64_in _ (by omega)
    rw [List.drop_eq_getElem_cons hi, List.foldl_cons]
    obtain ⟨k, hk⟩ := l2_ok s hl hb d (i + 1) (mergeStep out s[i]) (by omega) (by have := mergeStep_len out s[i]; omega) (mergeStep_in hbo hv)
    refine ⟨k + 1 + 1, ?_⟩
    rw [jigsawref02_joined.l2]
    rw [if_pos (by omega)]
    rcases snoc_cases out with rfl | ⟨ys, x, rfl⟩
    · rw [if_neg (by simp), jigsawref02_joined.j3]
      rw [if_neg (by decide), if_pos (by omega), if_pos (by omega), if_pos (by simp), hw, rd57 s i hi]
      exact hk
    · have hx := hbo x (by simp)
      have hlen : (ys ++ [x]).length = ys.length + 1 := by rw [List.length_append, List.length_singleton]
      have hw2 : wrap64 (((ys ++ [x]).length : Int) - 1) = (ys.length : Nat) := (IntWalk.wrap64_in _ (by rw [hlen]; omega)).trans (by rw [hlen]; omega)
      have hrd : rd_T57 (ys ++ [x]) (ys.length : Nat) = x := by rw [rd57 _ _ (by rw [hlen]; omega)]; simp
      rw [if_pos (by rw [hlen]; omega), if_pos (by omega), hw2, if_pos (by omega), if_pos (by rw [hlen]; omega), hrd, rd57 s i hi]
      unfold inR at hx hv
      rw [show wrap64 (x.f1 + 1) = x.f1 + 1 from IntWalk.wrap64_in _ (by omega)]
      unfold mergeStep at hk ⊢
      rw [List.getLast?_append, List.getLast?_singleton] at hk ⊢
      simp only [Option.some_or, List.dropLast_concat] at hk ⊢
      by_cases hc : s[i].f0 ≤ x.f1 + 1
      · rw [if_pos hc] at hk ⊢
        rw [decide_eq_true hc, jigsawref02_joined.j3]
        rw [if_pos rfl, if_pos (by omega), if_pos (by omega), hw2, if_pos (by omega), if_pos (by rw [hlen]; omega), hrd, rd57 s i hi, hw]
        by_cases hm : s[i].f1 > x.f1
        · rw [show max x.f1 s[i].f1 = s[i].f1 by omega] at hk ⊢
          rw [if_pos hm, Int.toNat_natCast, set_last]
          exact hk
        · rw [show max x.f1 s[i].f1 = x.f1 by omega] at hk ⊢
          rw [if_neg hm]
          exact hk
      · rw [if_neg hc] at hk ⊢
        rw [decide_eq_false hc, jigsawref02_joined.j3]
        rw [if_neg (by decide), if_pos (by omega), if_pos (by omega), if_pos (by rw [hlen]; omega), rd57 s i hi, hw]
        exact hk
/-! in order -/
def Srt (l : List S57) : Prop := l.Pairwise fun a b => a.f0 ≤ b.f0
theorem posOf_spec (s : List S57) (v : S57) : ∀ j, j ≤ s.length → (∀ q (h : q < s.length), posOf s v j ≤ q → q < j → v.f0 < s[q].f0) ∧ (0 < posOf s v j → ∃ h : posOf s v j - 1 < s.length, s[posOf s v j - 1].f0 ≤ v.f0)
  | 0, _ => ⟨fun q h h1 h2 => by omega, fun h => absurd h (by rw [posOf]; omega)⟩
  | j + 1, hj => by
    have ih := posOf_spec s v j (by omega)
    have hr := rd57 s j (by omega)
    rw [posOf]
    split
    · rename_i hc
      rw [hr] at hc
      refine ⟨fun q h h1 h2 => ?_, ih.2⟩
      by_cases e : q = j
      · subst e; exact hc
      · exact ih.1 q h h1 (by omega)
    · rename_i hc
      rw [hr] at hc
      refine ⟨fun q h h1 h2 => by omega, fun _ => ⟨by omega, ?_⟩⟩
      show s[j].f0 ≤ v.f0
      omega
theorem ins_srt {s : List S57} (v : S57) (h : Srt s) : Srt (ins s v) := by
  have hp := posOf_spec s v s.length (Nat.le_refl _)
  have hle := posOf_le s v s.length
  unfold ins insAt
  generalize posOf s v s.length = p at *
  unfold Srt at *
  have hbef : ∀ a ∈ s.take p, a.f0 ≤ v.f0 := by
    intro a ha
    obtain ⟨q, hq, rfl⟩ := List.mem_iff_getElem.1 ha
    rw [List.length_take] at hq
    rw [List.getElem_take]
    obtain ⟨h1, h2⟩ := hp.2 (by omega)
    by_cases e : q = p - 1
    · subst e; exact h2
    · have := List.pairwise_iff_getElem.1 h q (p - 1) (by omega) h1 (by omega)
      omega
  have haft : ∀ b ∈ s.drop p, v.f0 ≤ b.f0 := by
    intro b hb
    obtain ⟨q, hq, rfl⟩ := List.mem_iff_getElem.1 hb
    rw [List.length_drop] at hq
    rw [List.getElem_drop]
    have := hp.1 (p + q) (by omega) (by omega) (by omega)
    omega
  rw [List.append_assoc, List.pairwise_append]
  refine ⟨h.sublist (List.take_sublist _ _), ?_, ?_⟩
  · rw [List.singleton_append, List.pairwise_cons]
    exact ⟨haft, h.sublist (List.drop_sublist _ _)⟩
  · intro a ha b hb
    rw [List.singleton_append, List.mem_cons] at hb
    rcases hb with rfl | hb
    · exact hbef a ha
    · have := hbef a ha; have := haft b hb; omega
theorem ins_perm (s : List S57) (v : S57) : (ins s v).Perm (v :: s) := by
  unfold ins insAt
  generalize posOf s v s.length = p
  rw [List.append_assoc, List.singleton_append]
  exact List.perm_middle.trans (by rw [List.take_append_drop])
theorem isort_ok : ∀ (l s : List S57), Srt s → Srt (l.foldl ins s) ∧ (l.foldl ins s).Perm (l ++ s)
  | [], s, h => ⟨h, List.Perm.refl _⟩
  | v :: l, s, h => by
    obtain ⟨h1, h2⟩ := isort_ok l (ins s v) (ins_srt v h)
    refine ⟨h1, h2.trans ?_⟩
    refine ((ins_perm s v).append_left l).trans ?_
    rw [List.cons_append]
    exact List.perm_middle
/-- the reference's joining, plainly -/
def joinL (l : List S57) : List S57 := merge (l.foldl ins [])
theorem joined_is (l : List S57) (hl : l.length ≤ 2000000000000) (hb : ∀ x ∈ l, inR x) : JoinedIs l (joinL l) := by
  obtain ⟨hs, hp⟩ := isort_ok l [] List.Pairwise.nil
  rw [List.append_nil] at hp
  have hlen := hp.length_eq
  obtain ⟨k, hk⟩ := l2_ok (l.foldl ins []) (by omega) (fun x hx => hb x (hp.mem_iff.1 hx)) (l.foldl ins []).length 0 [] (by omega) (Nat.le_refl _) (fun x hx => by cases hx)
  rw [List.drop_zero] at hk
  obtain ⟨k2, hk2⟩ := l0_ok l hl _ l.length 0 [] (by omega) rfl ⟨k, by rw [List.drop_zero]; exact hk⟩
  exact ⟨k2, hk2⟩
/-- any order of the same ranges, sorted and joined, is what the reference makes -/
theorem joinL_eq {l s : List S57} {e : Int} (hv : ∀ r ∈ l, r.f0 ≤ r.f1 ∧ e + 1 < r.f0) (hp : s.Perm l) (hs : Srt s) : merge s = joinL l := by
  obtain ⟨h1, h2⟩ := isort_ok l [] List.Pairwise.nil
  rw [List.append_nil] at h2
  exact merge_perm s _ e (fun r hr => hv r (hp.mem_iff.1 hr)) (hp.trans h2.symm) hs h1
theorem joinL_ok {l : List S57} {e : Int} (hv : ∀ r ∈ l, r.f0 ≤ r.f1 ∧ e + 1 < r.f0) : NormF e (joinL l) ∧ ∀ x, memR (joinL l) x ↔ memR l x := by
  obtain ⟨h1, h2⟩ := isort_ok l [] List.Pairwise.nil
  rw [List.append_nil] at h2
  obtain ⟨p1, p2⟩ := merge_ok (l.foldl ins []) e (fun r hr => hv r (h2.mem_iff.1 hr)) h1
  exact ⟨p1, fun x => by unfold joinL; rw [p2, memR_perm h2]⟩

end Go.Proofs.YtnfdppkbbfdmnaaGreatDoor.PD

namespace Go.Proofs.YtnfdppkbbfdmnaaGreatDoor.PD
open Go.RowKit Go.Proofs.YtnfdppkbbfdmnaaGreatDoorW.PrintWords Go.Proofs.YtnfdppkbbfdmnaaGreatDoorW.PrintLast Go.Proofs.YtnfdppkbbfdmnaaGreatDoorW.PrintMore
set_option linter.unusedVariables false
set_option linter.unusedSimpArgs false
/-! ### the reference: Norm, Either, Less -/
/-- what the reference makes of any ranges -/
def NormIs (l r : List S57) (e : Int) : Prop := ∃ k, jigsawref02_Norm.f k l = some (r, e)
theorem Norm_ref {v : Value} (l r : List S57) (x : Int) (w : World) (h : Lst w v l) (hj : NormIs l r x) :
    Calls Tryz.prog 13 #[v] w fun e w' => ∃ v', e = .returned (.tuple #[v', .int .i64 x]) ∧ Row w' w.heap.size v' r ∧ Below w.heap.size w w' := by
  obtain ⟨A, c, rfl, hC, hc⟩ := h
  obtain ⟨k, hk⟩ := hj
  refine (jigsawref02_Norm.calls k A c l r x w hC hc hk).mono ?_
  rintro e w' ⟨v', rfl, hO, hb⟩
  exact ⟨v', rfl, R57_row hO, hb⟩
set_option maxRecDepth 100000 in
set_option maxHeartbeats 8000000 in
theorem Either_ref {v1 v2 : Value} (a b r : List S57) (x : Int) (w : World) (h1 : Lst w v1 a) (h2 : Lst w v2 b) (hj : NormIs (takenL a ++ takenL b) r x) :
    Calls Tryz.prog 43 #[v1, v2] w fun e w' => ∃ v', e = .returned (.tuple #[v', .int .i64 x]) ∧ Row w' w.heap.size v' r ∧ Below w.heap.size w w' := by
  have HT := Lib.hid (Taken_ref a w h1)
  have HT2 := Lib.hid (fun W (hb : Below w.heap.size w W) => Taken_ref b W (h2.below hb))
  have hl1 := right_le (takenL_right a)
  have hl2 := right_le (takenL_right b)
  have HJ := Lib.hid hj
  clear hj
  obtain ⟨A, c, rfl, _, _⟩ := h1
  obtain ⟨A', c', rfl, _, _⟩ := h2
  generalize takenL a = t at *
  generalize takenL b = u at *
  have HX : ∃ q, t ++ u = q := ⟨_, rfl⟩
  obtain ⟨q, hq⟩ := HX
  rw [hq] at HJ
  have HTU := Lib.hid hq
  clear hq
  go_enter Tryz.func43, Tryz.ntmps43
  go_wp2_with fail
  refine HT.out.mono ?_
  rintro e w1 ⟨v3, rfl, ⟨A1, c1, rfl, hC, hc1⟩, hb, _⟩
  have HC := Lib.hid hC; have HB := Lib.hid hb
  clear hC hb HT
  go_wp2_with ((with_reducible refine gate_builtin (b := .append) (xs := #[.tmp 7, .tmp 9]) rfl ?_); at_builtin; refine append_lst (w0 := w) w.heap.size rfl (.tmp 7) (.tmp 9) rfl _ [] _ _ _ _ rfl rfl (Row.nil _ _) HC.out HB.out HB.out.size (by simp; omega) ?_; intro v4 w2 hO2 hb2; rw [List.nil_append] at hO2; obtain ⟨A4, c4, hv4⟩ := row_form hO2; subst hv4; have HO2 := Lib.hid hO2; have HB2 := Lib.hid hb2; clear hO2 hb2)
  refine (HT2.out _ HB2.out).mono ?_
  rintro e w3 ⟨v5, rfl, ⟨A5, c5, rfl, hC5, hc5⟩, hb5, _⟩
  have HC5 := Lib.hid hC5; have HB5 := Lib.hid (below_step HB2.out hb5); have HO5 := Lib.hid (HO2.out.below hb5)
  clear hC5 hb5 HO2 HT2
  go_wp2_with ((with_reducible refine gate_builtin (b := .append) (xs := #[.tmp 11, .tmp 13]) rfl ?_); at_builtin; refine append_lst (w0 := w) w.heap.size rfl (.tmp 11) (.tmp 13) rfl _ _ _ _ _ _ rfl rfl HO5.out HC5.out HB5.out HB5.out.size (by omega) ?_; intro v6 w6 hO6 hb6; rw [HTU.out] at hO6; have HN := Lib.hid (Norm_ref q r x w6 hO6.lst HJ.out); have HB6 := Lib.hid hb6; obtain ⟨A6, c6, hv6⟩ := row_form hO6; subst hv6; clear hO6 hb6)
  refine HN.out.mono ?_
  rintro e w7 ⟨v7, rfl, hO7, hb7⟩
  go_wp2_with fail
  go_ret2
  exact ⟨_, rfl, hO7.lower HB6.out.size, below_step HB6.out hb7⟩
set_option maxRecDepth 100000 in
set_option maxHeartbeats 8000000 in
theorem Less_ref {v1 v2 : Value} (a b r : List S57) (x : Int) (w : World) (h1 : Lst w v1 a) (h2 : Lst w v2 b) (hj : NormIs (cutsL (takenL a) (restL (-1000000) (takenL b))) r x) :
    Calls Tryz.prog 45 #[v1, v2] w fun e w' => ∃ v', e = .returned (.tuple #[v', .int .i64 x]) ∧ Row w' w.heap.size v' r ∧ Below w.heap.size w w' := by
  have HT := Lib.hid (Taken_ref b w h2)
  have HCUT := Lib.hid (fun W lo hi (hb : Below w.heap.size w W) => Cut_ref a lo hi W (h1.below hb))
  have hl1 := right_le (takenL_right a)
  have HR2 := Lib.hid (takenL_right b)
  have hl2 := right_le HR2.out
  have HJ := Lib.hid hj
  obtain ⟨A, c, rfl, _, _⟩ := h1
  obtain ⟨A', c', rfl, _, _⟩ := h2
  clear hj
  generalize takenL a = t at *
  generalize takenL b = u0 at *
  have hl3 := restL_len u0 (-1000000)
  go_enter Tryz.func45, Tryz.ntmps45
  go_wp2_with fail
  refine HT.out.mono ?_
  rintro e w0 ⟨v3, rfl, hL0, hb0, _⟩
  have HNT := Lib.hid (not_ref u0 w0 hL0 HR2.out); have HB0 := Lib.hid hb0
  obtain ⟨A9, c9, rfl, _, _⟩ := hL0
  clear hb0
  go_wp2_with fail
  refine HNT.out.mono ?_
  rintro e w1 ⟨v3, rfl, hO1, hb1⟩
  generalize restL (-1000000) u0 = u at *
  have HB := Lib.hid (below_step HB0.out hb1)
  obtain ⟨A1, c1, rfl, hC, hc1⟩ := hO1.lst
  have HC := Lib.hid hC
  clear hC hb1 hO1 HT HNT
  generalize hm : u.length = m at *
  have HL := Lib.hid hm
  clear hm
  go_wp2_with fail
  go_loopw [6, 8] (fun o i wr => ∃ (k : Nat) (out : List S57), i = .int .i64 k ∧ k ≤ m ∧ out.length ≤ 4096 * k ∧ Hid (cutsL t (u.take k) = out) ∧ Hid (Row wr w1.heap.size o out) ∧ Hid (Below w1.heap.size w1 wr))
    (fun _ i _ => m - (intOf i).toNat)
  case atStart => exact ⟨0, [], rfl, Nat.zero_le _, Nat.zero_le _, Lib.hid rfl, Lib.hid (Row.nil _ _), Lib.hid (Below.refl _ _)⟩
  case round =>
    obtain ⟨k, out, rfl, hk, hol, hN, hO, hB⟩ := hrel
    obtain ⟨A0, c0, rfl⟩ := row_form hO.out
    by_cases hkm : k < m
    · have hkt : k < u.length := by rw [HL.out]; exact hkm
      obtain ⟨ad, hA, _, _⟩ := rng_at HC.out k hkt
      subst hA
      have HF : CutF u k u[k].f0 u[k].f1 := ⟨hkt, rfl, rfl⟩
      have HF := Lib.hid HF
      have HST := Lib.hid (cutsL_take (t := t) hkt)
      generalize u[k].f0 = a0 at *
      generalize u[k].f1 = b0 at *
      have hix := fun W => index_at ad m c1 (k : Nat) (by omega) W
      simp only [Int.toNat_natCast] at hix
      have hz1' : (0 : Int) ≤ (k : Int) := by omega
      have hk3 : (k : Int) < (m : Int) := by omega
      have hcl := cutL_len t a0 b0
      have HC' := HC
      rw [← HL.out] at HC'
      have hS : CutS w1 (some ad) u wr.drew := ⟨hB.out.trans (Below.refl _ _).drew, HC'.out⟩
      have HO1 := Lib.hid (hO.out.below ((Below.refl _ wr).drew))
      have hsz := hB.out.size
      go_upto_region 6 with fail
      go_region_held3 (fun v => v.cell? (ad.add (k * 2)) = some (.int .i64 a0) ∧ v.cell? ⟨(ad.add (k * 2)).block, (ad.add (k * 2)).off + 1, none⟩ = some (.int .i64 b0) ∧ CutS w1 (some ad) u v)
        (first | exact hS6.all HF.out | exact hS5.all HF.out | exact hS.all HF.out)
        (first | (go_at_call 49; refine (HCUT.out _ _ _ (below_step HB.out hS.1)).mono ?_; rintro e w5 ⟨v5, rfl, hO5, hb5⟩; have hS5 := hS.step hb5; have HO5 := Lib.hid (HO1.out.below hb5); obtain ⟨A5, c5, hv5, hC5, hc5⟩ := hO5.lst; subst hv5; have HC5 := Lib.hid hC5; clear hC5 hO5 hb5) | (refine append_lst_step (w0 := w1) w1.heap.size rfl (.tmp 18) (.tmp 30) rfl _ _ _ _ _ _ rfl rfl HO5.out HC5.out hS5.1 hS5.1.size (by omega) ?_; intro v6 w6 hO6 hb6; have hS6 : CutS w1 (some ad) u w6 := ⟨hb6, hS.2⟩))
      have HO6 := Lib.hid hO6; have HB6 := Lib.hid hb6
      clear hO6 hb6 hS6 hS5 hS
      go_wp2_with fail
      refine ⟨⟨k + 1, out ++ cutL t a0 b0, by rw [Int.natCast_add]; rfl, by omega, by rw [List.length_append]; omega, Lib.hid (by rw [HST.out, hN.out]), HO6, HB6⟩, by simp [intOf]; omega⟩
    · obtain rfl : k = m := by omega
      rw [List.take_of_length_le (by rw [HL.out]; exact Nat.le_refl _)] at hN
      have HN := Lib.hid (Norm_ref out r x wr hO.out.lst (by rw [← hN.out]; exact HJ.out))
      go_wp2_with fail
      refine HN.out.mono ?_
      rintro e w7 ⟨v7, rfl, hO7, hb7⟩
      have hle := HB.out.size
      have hle2 := hB.out.size
      go_wp2_with fail
      go_ret2
      exact ⟨_, rfl, hO7.lower (by omega), below_step (below_step HB.out hB.out) hb7⟩

end Go.Proofs.YtnfdppkbbfdmnaaGreatDoor.PD

namespace Go.Proofs.YtnfdppkbbfdmnaaGreatDoor.PD
open Go.RowKit Go.Proofs.YtnfdppkbbfdmnaaGreatDoorW.PrintWords Go.Proofs.YtnfdppkbbfdmnaaGreatDoorW.PrintLast Go.Proofs.YtnfdppkbbfdmnaaGreatDoorW.PrintMore
set_option linter.unusedVariables false
set_option linter.unusedSimpArgs false
/-! ### the reference: Without -/
def wo1 (x : Int) (r : S57) : List S57 := if x < r.f0 ∨ r.f1 < x then [r] else (if r.f0 < x then [⟨r.f0, x - 1⟩] else []) ++ (if x < r.f1 then [⟨x + 1, r.f1⟩] else [])
def woL (l : List S57) (x : Int) : List S57 := l.flatMap (wo1 x)
theorem woL_snoc (l : List S57) (s : S57) (x : Int) : woL (l ++ [s]) x = woL l x ++ wo1 x s := by
  unfold woL
  rw [List.flatMap_append, List.flatMap_cons, List.flatMap_nil, List.append_nil]
set_option maxRecDepth 100000 in
set_option maxHeartbeats 8000000 in
theorem Without_ref {v : Value} (l : List S57) (x : Int) (w : World) (h : Lst w v l) :
    Calls Tryz.prog 50 #[v, .int .i64 x] w fun e w' => ∃ v', e = .returned v' ∧ Row w' w.heap.size v' (if (woL (takenL l) x).length ≤ 4096 then woL (takenL l) x else takenL l) ∧ Below w.heap.size w w' := by
  have HT := Lib.hid (Taken_ref l w h)
  have hR := takenL_right l
  have hlen := right_le hR
  have hmem := right_mem hR
  obtain ⟨i0, hi0, hz0, hz1, hz2⟩ := info_parts info57
  obtain ⟨A, c, rfl, _, _⟩ := h
  obtain ⟨res, hres⟩ : ∃ res, (if (woL (takenL l) x).length ≤ 4096 then woL (takenL l) x else takenL l) = res := ⟨_, rfl⟩
  rw [hres]
  generalize takenL l = t at *
  have HRES := Lib.hid hres
  have HM := Lib.hid hmem
  clear hR hres hmem
  go_enter Tryz.func50, Tryz.ntmps50
  go_wp2_with fail
  refine HT.out.mono ?_
  rintro e w1 ⟨v1, rfl, ⟨A1, c1, rfl, hC, hc1⟩, hb, _⟩
  have HC := Lib.hid hC; have HB := Lib.hid hb
  have hle := hb.size
  clear hC hb
  generalize hm : t.length = m at *
  have HL := Lib.hid hm
  clear hm
  go_wp2_with fail
  go_loopw [5, 6] (fun o i wr => ∃ (k : Nat) (out : List S57), i = .int .i64 k ∧ k ≤ m ∧ out.length ≤ 2 * k ∧ Hid (woL (t.take k) x = out) ∧ Hid (Row wr w1.heap.size o out) ∧ Hid (Below w1.heap.size w1 wr))
    (fun _ i _ => m - (intOf i).toNat)
  case atStart => exact ⟨0, [], rfl, Nat.zero_le _, Nat.zero_le _, Lib.hid rfl, Lib.hid (Row.nil _ _), Lib.hid (Below.refl _ _)⟩
  case round =>
    obtain ⟨k, out, rfl, hk, hol, hN, hO, hB⟩ := hrel
    obtain ⟨A0, c0, rfl⟩ := row_form hO.out
    by_cases hkm : k < m
    · have hkt : k < t.length := by rw [HL.out]; exact hkm
      obtain ⟨ad, hA, x0, x1⟩ := rng_at (Kd.C_below HC.out hB.out) k hkt
      subst hA
      have hs := HM.out _ (List.getElem_mem hkt)
      have HS := Lib.hid (show woL (t.take (k + 1)) x = woL (t.take k) x ++ wo1 x t[k] by rw [take_at hkt, woL_snoc])
      unfold wo1 at HS
      have HET : t[k] = ⟨t[k].f0, t[k].f1⟩ := rfl
      rw [HET] at HS
      generalize t[k].f0 = a at *
      generalize t[k].f1 = b at *
      rw [hN.out] at HS
      clear HET
      have hix := fun W => index_at ad m c1 (k : Nat) (by omega) W
      simp only [Int.toNat_natCast] at hix
      have hsz := hB.out.size
      have hO1 := Lib.hid (hO.out.below ((Below.refl _ wr).alloc (Nat.le_refl _) (.cells #[.int .i64 a, .int .i64 b] 57)))
      by_cases h1 : x < a
      · have h1b : decide (x < a) = true := decide_eq_true h1
        go_wp2_with ((with_reducible refine gate_dst (N := 34) rfl ?_); refine wpList_append_own _ rfl _ _ 23 rfl w1.heap.size 57 i0 _ 2 16 Tryz.underlying23 hi0 hz0 hz1 hz2 rfl (by decide) _ _ _ rfl ((Row.own hO1.out).alloc _) ⟨_, 0, none⟩ 1 1 [.int .i64 a, .int .i64 b] rfl rfl (cell_pair_at _ _ (by simp) _ _ _) (by simp [Value.oneCell']) (by simp only [maxLen]; omega) (by omega) (by simp; omega) ?_; intro v' w4 hown' hgrow _; obtain ⟨q1, q2⟩ := hO1.out.pushed hown' hgrow (by first | omega | (simp; omega)); have hQ1 := Lib.hid q1; have hQ2 := Lib.hid q2; clear hown' hgrow q1 q2)
        refine ⟨⟨k + 1, out ++ [⟨a, b⟩], by rw [Int.natCast_add]; rfl, by omega, by rw [List.length_append, List.length_singleton]; omega, Lib.hid (by rw [HS.out, if_pos (Or.inl h1)]), hQ1, Lib.hid ((hB.out.alloc hB.out.size _).trans hQ2.out)⟩, by simp [intOf]; omega⟩
      · have h1b : decide (x < a) = false := decide_eq_false h1
        by_cases h2 : x > b
        · have h2b : decide (b < x) = true := decide_eq_true h2
          go_wp2_with ((with_reducible refine gate_dst (N := 34) rfl ?_); refine wpList_append_own _ rfl _ _ 23 rfl w1.heap.size 57 i0 _ 2 16 Tryz.underlying23 hi0 hz0 hz1 hz2 rfl (by decide) _ _ _ rfl ((Row.own hO1.out).alloc _) ⟨_, 0, none⟩ 1 1 [.int .i64 a, .int .i64 b] rfl rfl (cell_pair_at _ _ (by simp) _ _ _) (by simp [Value.oneCell']) (by simp only [maxLen]; omega) (by omega) (by simp; omega) ?_; intro v' w4 hown' hgrow _; obtain ⟨q1, q2⟩ := hO1.out.pushed hown' hgrow (by first | omega | (simp; omega)); have hQ1 := Lib.hid q1; have hQ2 := Lib.hid q2; clear hown' hgrow q1 q2)
          refine ⟨⟨k + 1, out ++ [⟨a, b⟩], by rw [Int.natCast_add]; rfl, by omega, by rw [List.length_append, List.length_singleton]; omega, Lib.hid (by rw [HS.out, if_pos (Or.inr h2)]), hQ1, Lib.hid ((hB.out.alloc hB.out.size _).trans hQ2.out)⟩, by simp [intOf]; omega⟩
        · have h2b : decide (b < x) = false := decide_eq_false h2
          have hw1 : IntKind.i64.wrap (x - 1) = x - 1 := IntWalk.i64_in _ (by omega)
          have hw2 : IntKind.i64.wrap (x + 1) = x + 1 := IntWalk.i64_in _ (by omega)
          have HS := Lib.hid (HS.out.trans (by rw [if_neg (by omega : ¬ (x < a ∨ b < x))]))
          by_cases h3 : a < x
          · have h3b : decide (a < x) = true := decide_eq_true h3
            by_cases h4 : x < b
            · have h4b : decide (x < b) = true := decide_eq_true h4
              go_upto_if 50 with ((with_reducible refine gate_dst (N := 46) rfl ?_); refine wpList_append_own _ rfl _ _ 23 rfl w1.heap.size 57 i0 _ 2 16 Tryz.underlying23 hi0 hz0 hz1 hz2 rfl (by decide) _ _ _ rfl ((Row.own hO1.out).alloc _) ⟨_, 0, none⟩ 1 1 [.int .i64 a, .int .i64 (x - 1)] rfl rfl (cell_pair_at _ _ (by simp) _ _ _) (by simp [Value.oneCell']) (by simp only [maxLen]; omega) (by omega) (by simp; omega) ?_; intro v' w4 hown' hgrow _; obtain ⟨q1, q2⟩ := hO1.out.pushed hown' hgrow (by first | omega | (simp; omega)); have hQ1 := Lib.hid q1; have hQ2 := Lib.hid q2; have hx1' := (hB.out.alloc hB.out.size (.cells #[.int .i64 a, .int .i64 b] 57)).trans q2; have hBX := Lib.hid hx1'; have hcell : w4.cell? ⟨wr.heap.size, 1, none⟩ = some (.int .i64 b) := blk_cell (grown_tmp hO.out hgrow) 1; have hsz4 := hx1'.size; clear hx1'; clear hown' hgrow q1 q2)
              obtain ⟨o2, ho2⟩ : ∃ q, out ++ [⟨a, x - 1⟩] = q := ⟨_, rfl⟩
              have hol2 : o2.length = out.length + 1 := by rw [← ho2, List.length_append, List.length_singleton]
              rw [ho2] at hQ1
              have HO2 := Lib.hid ho2
              clear ho2
              obtain ⟨A7, c7, hv7⟩ := row_form hQ1.out
              subst hv7
              go_wp2_with ((with_reducible refine gate_dst (N := 58) rfl ?_); refine wpList_append_own _ rfl _ _ 23 rfl w1.heap.size 57 i0 _ 2 16 Tryz.underlying23 hi0 hz0 hz1 hz2 rfl (by decide) _ _ _ rfl ((Row.own hQ1.out).alloc _) ⟨_, 0, none⟩ 1 1 [.int .i64 (x + 1), .int .i64 b] rfl rfl (cell_pair_at _ _ (by simp) _ _ _) (by simp [Value.oneCell']) (by simp only [maxLen]; omega) (by omega) (by simp; omega) ?_; intro v8 w8 hown8 hgrow8 _; obtain ⟨q1, q2⟩ := hQ1.out.pushed hown8 hgrow8 (by first | omega | (simp; omega)); have hQ3 := Lib.hid q1; have hQ4 := Lib.hid q2; clear hown8 hgrow8 q1 q2)
              refine ⟨⟨k + 1, o2 ++ [⟨x + 1, b⟩], by rw [Int.natCast_add]; rfl, by omega, by rw [List.length_append, List.length_singleton]; omega, Lib.hid (by rw [HS.out, if_pos h3, if_pos h4, ← HO2.out, List.append_assoc]), hQ3, Lib.hid (hBX.out.trans hQ4.out)⟩, by simp [intOf]; omega⟩
            · have h4b : decide (x < b) = false := decide_eq_false h4
              go_wp2_with ((with_reducible refine gate_dst (N := 46) rfl ?_); refine wpList_append_own _ rfl _ _ 23 rfl w1.heap.size 57 i0 _ 2 16 Tryz.underlying23 hi0 hz0 hz1 hz2 rfl (by decide) _ _ _ rfl ((Row.own hO1.out).alloc _) ⟨_, 0, none⟩ 1 1 [.int .i64 a, .int .i64 (x - 1)] rfl rfl (cell_pair_at _ _ (by simp) _ _ _) (by simp [Value.oneCell']) (by simp only [maxLen]; omega) (by omega) (by simp; omega) ?_; intro v' w4 hown' hgrow _; obtain ⟨q1, q2⟩ := hO1.out.pushed hown' hgrow (by first | omega | (simp; omega)); have hQ1 := Lib.hid q1; have hQ2 := Lib.hid q2; have hx1' := (hB.out.alloc hB.out.size (.cells #[.int .i64 a, .int .i64 b] 57)).trans q2; have hBX := Lib.hid hx1'; have hcell : w4.cell? ⟨wr.heap.size, 1, none⟩ = some (.int .i64 b) := blk_cell (grown_tmp hO.out hgrow) 1; clear hx1'; clear hown' hgrow q1 q2)
              refine ⟨⟨k + 1, out ++ [⟨a, x - 1⟩], by rw [Int.natCast_add]; rfl, by omega, by rw [List.length_append, List.length_singleton]; omega, Lib.hid (by rw [HS.out, if_pos h3, if_neg h4, List.append_nil]), hQ1, hBX⟩, by simp [intOf]; omega⟩
          · have h3b : decide (a < x) = false := decide_eq_false h3
            by_cases h4 : x < b
            · have h4b : decide (x < b) = true := decide_eq_true h4
              go_wp2_with ((with_reducible refine gate_dst (N := 58) rfl ?_); refine wpList_append_own _ rfl _ _ 23 rfl w1.heap.size 57 i0 _ 2 16 Tryz.underlying23 hi0 hz0 hz1 hz2 rfl (by decide) _ _ _ rfl ((Row.own hO1.out).alloc _) ⟨_, 0, none⟩ 1 1 [.int .i64 (x + 1), .int .i64 b] rfl rfl (cell_pair_at _ _ (by simp) _ _ _) (by simp [Value.oneCell']) (by simp only [maxLen]; omega) (by omega) (by simp; omega) ?_; intro v' w4 hown' hgrow _; obtain ⟨q1, q2⟩ := hO1.out.pushed hown' hgrow (by first | omega | (simp; omega)); have hQ1 := Lib.hid q1; have hQ2 := Lib.hid q2; clear hown' hgrow q1 q2)
              refine ⟨⟨k + 1, out ++ [⟨x + 1, b⟩], by rw [Int.natCast_add]; rfl, by omega, by rw [List.length_append, List.length_singleton]; omega, Lib.hid (by rw [HS.out, if_neg h3, if_pos h4, List.nil_append]), hQ1, Lib.hid ((hB.out.alloc hB.out.size _).trans hQ2.out)⟩, by simp [intOf]; omega⟩
            · have h4b : decide (x < b) = false := decide_eq_false h4
              go_wp2_with fail
              refine ⟨⟨k + 1, out, by rw [Int.natCast_add]; rfl, by omega, by omega, Lib.hid (by rw [HS.out, if_neg h3, if_neg h4, List.append_nil, List.append_nil]), hO1, Lib.hid (hB.out.alloc hB.out.size _)⟩, by simp [intOf]; omega⟩
    · obtain rfl : k = m := by omega
      rw [List.take_of_length_le (by rw [HL.out]; exact Nat.le_refl _)] at hN
      rw [hN.out] at HRES
      have HB2 := Lib.hid (below_step HB.out hB.out)
      have hle2 := hB.out.size
      by_cases hbig : out.length ≤ 4096
      · have hb1 : decide ((out.length : Int) > 4096) = false := decide_eq_false (by omega)
        have hb2 : decide (4096 < out.length) = false := decide_eq_false (by omega)
        go_wp2_with fail
        go_ret
        refine ⟨_, rfl, ?_, HB2.out⟩
        rw [← HRES.out, if_pos hbig]
        exact hO.out.lower (by omega)
      · have hb1 : decide ((out.length : Int) > 4096) = true := decide_eq_true (by omega)
        have hb2 : decide (4096 < out.length) = true := decide_eq_true (by omega)
        have HN := Lib.hid hbig
        have HC5 := Lib.hid (Kd.C_below HC.out hB.out)
        go_wp2_with ((with_reducible refine gate_builtin (b := .append) (xs := #[.tmp 62, .tmp 63]) rfl ?_); at_builtin; refine append_lst (w0 := w) w.heap.size rfl (.tmp 62) (.tmp 63) rfl _ [] _ _ _ _ rfl rfl (Row.nil _ _) HC5.out HB2.out HB2.out.size (by simp; omega) ?_; intro v6 w6 hO6 hb6)
        go_ret
        refine ⟨_, rfl, ?_, hb6⟩
        rw [← HRES.out, if_neg HN.out]
        exact hO6

end Go.Proofs.YtnfdppkbbfdmnaaGreatDoor.PD

namespace Go.Proofs.YtnfdppkbbfdmnaaGreatDoor.PD
open Go.RowKit Go.Proofs.YtnfdppkbbfdmnaaGreatDoorW.PrintWords Go.Proofs.YtnfdppkbbfdmnaaGreatDoorW.PrintLast Go.Proofs.YtnfdppkbbfdmnaaGreatDoorW.PrintMore
set_option linter.unusedVariables false
set_option linter.unusedSimpArgs false
/-! ### the reference: Within -/
def anyIn (a b : Int) : List S57 → Bool
  | [] => false
  | r :: u => if r.f0 ≤ a ∧ b ≤ r.f1 then true else anyIn a b u
def withinL (u : List S57) : List S57 → Bool
  | [] => true
  | s :: t => if anyIn s.f0 s.f1 u = true then withinL u t else false
theorem anyIn_drop {u : List S57} {k : Nat} (h : k < u.length) (a b : Int) : anyIn a b (u.drop k) = if u[k].f0 ≤ a ∧ b ≤ u[k].f1 then true else anyIn a b (u.drop (k + 1)) := by
  rw [List.drop_eq_getElem_cons h, anyIn]
theorem withinL_drop {u t : List S57} {k : Nat} (h : k < t.length) : withinL u (t.drop k) = if anyIn t[k].f0 t[k].f1 u = true then withinL u (t.drop (k + 1)) else false := by
  rw [List.drop_eq_getElem_cons h, withinL]
set_option maxRecDepth 100000 in
set_option maxHeartbeats 8000000 in
theorem Within_ref {v1 v2 : Value} (a b : List S57) (w : World) (h1 : Lst w v1 a) (h2 : Lst w v2 b) :
    Calls Tryz.prog 54 #[v1, v2] w fun e w' => e = .returned (.bool (withinL (takenL b) (takenL a))) ∧ Below w.heap.size w w' := by
  have HT1 := Lib.hid (Taken_ref a w h1)
  have HT2 := Lib.hid (fun W (hb : Below w.heap.size w W) => Taken_ref b W (h2.below hb))
  have hl1 := right_le (takenL_right a)
  have hl2 := right_le (takenL_right b)
  obtain ⟨A, c, rfl, _, _⟩ := h1
  obtain ⟨A', c', rfl, _, _⟩ := h2
  generalize takenL a = t at *
  generalize takenL b = u at *
  go_enter Tryz.func54, Tryz.ntmps54
  go_wp2_with fail
  refine HT1.out.mono ?_
  rintro e w1 ⟨v3, rfl, ⟨A1, c1, rfl, hC, hc1⟩, hb, _⟩
  have HC := Lib.hid hC; have HB := Lib.hid hb
  clear hC hb HT1
  go_wp2_with fail
  refine (HT2.out _ HB.out).mono ?_
  rintro e w2 ⟨v4, rfl, ⟨A2, c2, rfl, hC2, hc2⟩, hb2, _⟩
  have HC2 := Lib.hid hC2; have HC1 := Lib.hid (Kd.C_below HC.out hb2); have HB2 := Lib.hid (below_step HB.out hb2)
  clear hC2 hb2 HC HB
  generalize hm : t.length = m at *
  generalize hn : u.length = n at *
  have HL := Lib.hid hm
  have HL2 := Lib.hid hn
  clear hm hn
  go_wp2_with fail
  go_loopw [5] (fun i wr => ∃ k : Nat, i = .int .i64 k ∧ k ≤ m ∧ Hid (withinL u t = withinL u (t.drop k)) ∧ Hid (Below w2.heap.size w2 wr))
    (fun i _ => m - (intOf i).toNat)
  case atStart => exact ⟨0, rfl, Nat.zero_le _, Lib.hid rfl, Lib.hid (Below.refl _ _)⟩
  case round =>
    obtain ⟨k, rfl, hk, hN, hB⟩ := hrel
    by_cases hkm : k < m
    · have hkt : k < t.length := by rw [HL.out]; exact hkm
      obtain ⟨ad, hA, _, _⟩ := rng_at HC1.out k hkt
      subst hA
      have HF : CutF t k t[k].f0 t[k].f1 := ⟨hkt, rfl, rfl⟩
      have HF := Lib.hid HF
      have HN := Lib.hid (withinL_drop (u := u) hkt)
      generalize t[k].f0 = a0 at *
      generalize t[k].f1 = a1 at *
      have hix := fun W => index_at ad m c1 (k : Nat) (by omega) W
      simp only [Int.toNat_natCast] at hix
      have hz1' : (0 : Int) ≤ (k : Int) := by omega
      have hk3 : (k : Int) < (m : Int) := by omega
      go_wp2_with fail
      go_loopw [6, 7] (fun o j wi => ∃ (q : Nat) (ok : Bool), j = .int .i64 q ∧ o = .bool ok ∧ q ≤ n ∧ Hid (anyIn a0 a1 u = (ok || anyIn a0 a1 (u.drop q))) ∧ Hid (Below w2.heap.size w2 wi))
        (fun _ j _ => n - (intOf j).toNat)
      case atStart => exact ⟨0, false, rfl, rfl, Nat.zero_le _, Lib.hid rfl, hB⟩
      case round =>
        obtain ⟨q, ok, rfl, rfl, hq, hM, hB3⟩ := hrel
        by_cases hqn : q < n
        · have hqt : q < u.length := by rw [HL2.out]; exact hqn
          obtain ⟨x, hA2, y0, y1⟩ := rng_at (Kd.C_below HC2.out hB3.out) q hqt
          subst hA2
          have HC1' := HC1
          rw [← HL.out] at HC1'
          obtain ⟨x0, x1, _⟩ := CutS.all (⟨hB3.out, HC1'.out⟩ : CutS w2 (some ad) t _) HF.out
          have HM := Lib.hid (anyIn_drop hqt a0 a1)
          generalize u[q].f0 = c0 at *
          generalize u[q].f1 = d0 at *
          have hix2 := fun W => index_at x n c2 (q : Nat) (by omega) W
          simp only [Int.toNat_natCast] at hix2
          have hz2' : (0 : Int) ≤ (q : Int) := by omega
          have hq3 : (q : Int) < (n : Int) := by omega
          cases ok with
          | true =>
            go_wp2_with fail
            go_quiet (fail)
            go_wp2_with fail
            refine ⟨⟨q + 1, true, by rw [Int.natCast_add]; rfl, rfl, by omega, Lib.hid (by rw [hM.out, Bool.true_or, Bool.true_or]), Lib.hid (below_step hB3.out (Drawn0.below ⟨⟨_, rfl⟩⟩))⟩, by simp [intOf]; omega⟩
          | false =>
            by_cases g1 : c0 ≤ a0
            · have g1b : decide (c0 ≤ a0) = true := decide_eq_true g1
              by_cases g2 : a1 ≤ d0
              · have g2b : decide (a1 ≤ d0) = true := decide_eq_true g2
                go_wp2_with fail
                go_quiet (fail)
                go_wp2_with fail
                refine ⟨⟨q + 1, true, by rw [Int.natCast_add]; rfl, rfl, by omega, Lib.hid (by rw [hM.out, HM.out, if_pos ⟨g1, g2⟩, Bool.or_true, Bool.true_or]), Lib.hid (below_step hB3.out (Drawn0.below ⟨⟨_, rfl⟩⟩))⟩, by simp [intOf]; omega⟩
              · have g2b : decide (a1 ≤ d0) = false := decide_eq_false g2
                go_wp2_with fail
                go_quiet (fail)
                go_wp2_with fail
                refine ⟨⟨q + 1, false, by rw [Int.natCast_add]; rfl, rfl, by omega, Lib.hid (by rw [hM.out, HM.out, if_neg (by omega)]), Lib.hid (below_step hB3.out (Drawn0.below ⟨⟨_, rfl⟩⟩))⟩, by simp [intOf]; omega⟩
            · have g1b : decide (c0 ≤ a0) = false := decide_eq_false g1
              go_wp2_with fail
              go_quiet (fail)
              go_wp2_with fail
              refine ⟨⟨q + 1, false, by rw [Int.natCast_add]; rfl, rfl, by omega, Lib.hid (by rw [hM.out, HM.out, if_neg (by omega)]), Lib.hid (below_step hB3.out (Drawn0.below ⟨⟨_, rfl⟩⟩))⟩, by simp [intOf]; omega⟩
        · obtain rfl : q = n := by omega
          have hM2 : anyIn a0 a1 u = ok := by
            rw [hM.out, List.drop_of_length_le (by rw [HL2.out]; exact Nat.le_refl _)]
            cases ok <;> rfl
          have HM2 := Lib.hid hM2
          clear hM2
          cases ok with
          | true =>
            go_wp2_with fail
            refine ⟨⟨k + 1, by rw [Int.natCast_add]; rfl, by omega, Lib.hid (by rw [hN.out, HN.out, if_pos HM2.out]), hB3⟩, by simp [intOf]; omega⟩
          | false =>
            go_wp2_with fail
            go_ret
            refine ⟨?_, below_step HB2.out hB3.out⟩
            rw [hN.out, HN.out, if_neg (by rw [HM2.out]; decide)]
            rfl
    · obtain rfl : k = m := by omega
      go_wp2_with fail
      go_ret
      refine ⟨?_, below_step HB2.out hB.out⟩
      rw [hN.out, List.drop_of_length_le (by rw [HL.out]; exact Nat.le_refl _)]
      rfl

end Go.Proofs.YtnfdppkbbfdmnaaGreatDoor.PD

namespace Go.Proofs.YtnfdppkbbfdmnaaGreatDoor.PD
open Go.RowKit Go.Proofs.YtnfdppkbbfdmnaaGreatDoorW.PrintWords Go.Proofs.YtnfdppkbbfdmnaaGreatDoorW.PrintLast Go.Proofs.YtnfdppkbbfdmnaaGreatDoorW.PrintMore
set_option linter.unusedVariables false
set_option linter.unusedSimpArgs false
/-! ### the reference: Values -/
theorem Tryz.info2 : (Tryz.prog.info? 2).map (fun i => (i.zero, i.size, i.bytes)) = some (some (.int .i64 0), 1, 8) := by kernel_rfl
def ints64 (l : List Int) : List Value := l.map (Value.int .i64)
theorem ints64_snoc (l : List Int) (x : Int) : ints64 (l ++ [x]) = ints64 l ++ [.int .i64 x] := by simp [ints64]
/-- a row of whole numbers of the call's own -/
def RowI (w : World) (base : Nat) (v : Value) (l : List Int) : Prop := w.ownsRow base 2 1 v l.length (ints64 l)
theorem RowI.nil (w : World) (base : Nat) : RowI w base (.slice none 0 0) [] := World.ownsRow_nil _ _ _ _
theorem RowI.below {w w' : World} {base : Nat} {v : Value} {l : List Int} (h : RowI w base v l) (hb : Below w.heap.size w w') : RowI w' base v l := pw_own_below h hb
theorem RowI.lower {w : World} {base base' : Nat} {v : Value} {l : List Int} (h : RowI w base v l) (hb : base' ≤ base) : RowI w base' v l := own_weaken h hb
theorem RowI.own {w : World} {base : Nat} {v : Value} {l : List Int} (h : RowI w base v l) : w.ownsRow base 2 1 v l.length (ints64 l) := h
theorem cell_one_at (w : World) (n : Nat) (hn : w.heap.size = n) (x : Value) (t : TypeId) : ∀ j u, [x][j]? = some u → (w.alloc (.cells #[x] t)).cell? ((⟨n, 0, none⟩ : Addr).add j) = some u := by
  subst hn
  intro j u hj
  rw [add_zero_off]
  refine (blk_cell (World.alloc_heap_new w (.cells #[x] t)) j).trans ?_
  rw [← hj]
  simp
/-- the values from a on, so many -/
def sp (a : Int) (n : Nat) : List Int := (List.range n).map fun i : Nat => a + i
theorem sp_succ (a : Int) (n : Nat) : sp a (n + 1) = sp a n ++ [a + n] := by
  unfold sp
  rw [List.range_succ, List.map_append, List.map_cons, List.map_nil]
theorem sp_more (a : Int) (j : Nat) : ∀ d, ∃ r, sp a (j + d) = sp a j ++ r
  | 0 => ⟨[], by simp⟩
  | d + 1 => by
    obtain ⟨r, hr⟩ := sp_more a j d
    exact ⟨r ++ [a + (j + d : Nat)], by rw [← Nat.add_assoc, sp_succ, hr, List.append_assoc]⟩
def rsize (s : S57) : Nat := (s.f1 - s.f0 + 1).toNat
def valsL (l : List S57) : List Int := l.flatMap fun s => sp s.f0 (rsize s)
theorem valsL_snoc (l : List S57) (s : S57) : valsL (l ++ [s]) = valsL l ++ sp s.f0 (rsize s) := by
  unfold valsL
  rw [List.flatMap_append, List.flatMap_cons, List.flatMap_nil, List.append_nil]
theorem take_more {P : List Int} {a : Int} {j n most : Nat} (hj : j ≤ n) (h : most ≤ (P ++ sp a j).length) : (P ++ sp a n).take most = (P ++ sp a j).take most := by
  obtain ⟨r, hr⟩ := sp_more a j (n - j)
  rw [show j + (n - j) = n by omega] at hr
  rw [hr, ← List.append_assoc, List.take_append_of_le_length h]
theorem take_room {L : List Int} {most : Nat} (h : (L.take most).length < most) : L.take most = L := by
  rw [List.length_take] at h
  exact List.take_of_length_le (by omega)
/-- the values that have been laid down: of k ranges, and j of the next one -/
def ValO (t : List S57) (k : Nat) (a : Int) (j most : Nat) (o : List Int) : Prop := o = (valsL (t.take k) ++ sp a j).take most
theorem ValO.push {t : List S57} {k : Nat} {a : Int} {j most : Nat} {o : List Int} (h : ValO t k a j most o) (hl : o.length < most) : ValO t k a (j + 1) most (o ++ [a + j]) := by
  unfold ValO at h ⊢
  rw [sp_succ, ← List.append_assoc]
  generalize valsL (t.take k) ++ sp a j = P at *
  rw [h] at hl
  have e := take_room hl
  rw [h, e]
  rw [e] at hl
  rw [List.take_of_length_le (by rw [List.length_append, List.length_singleton]; omega)]
theorem ValO.le {t : List S57} {k : Nat} {a : Int} {j most : Nat} {o : List Int} (h : ValO t k a j most o) : o.length ≤ most := by
  unfold ValO at h
  rw [h, List.length_take]
  omega
theorem ValO.next {t : List S57} {k : Nat} {j most : Nat} {o : List Int} (hk : k < t.length) (h : ValO t k t[k].f0 j most o) (hj : j ≤ rsize t[k]) (he : j = rsize t[k] ∨ most ≤ o.length) : o = (valsL (t.take (k + 1))).take most := by
  unfold ValO at h
  rw [take_at hk, valsL_snoc]
  rcases he with he | he
  · rw [← he]
    exact h
  · rw [h, take_more hj]
    rw [h, List.length_take] at he
    omega
set_option maxRecDepth 100000 in
set_option maxHeartbeats 8000000 in
theorem Values_ref {v : Value} (l : List S57) (most : Nat) (hmost : most ≤ 10000) (w : World) (h : Lst w v l) :
    Calls Tryz.prog 37 #[v, .int .i64 most] w fun e w' => ∃ v', e = .returned v' ∧ RowI w' w.heap.size v' ((valsL (takenL l)).take most) ∧ Below w.heap.size w w' := by
  have HT := Lib.hid (Taken_ref l w h)
  have hR := takenL_right l
  have hlen := right_le hR
  have hmem := right_mem hR
  obtain ⟨i0, hi0, hz0, hz1, hz2⟩ := info_parts Tryz.info2
  obtain ⟨A, c, rfl, _, _⟩ := h
  generalize takenL l = t at *
  have HM := Lib.hid hmem
  clear hR hmem
  go_enter Tryz.func37, Tryz.ntmps37
  go_wp2_with fail
  refine HT.out.mono ?_
  rintro e w1 ⟨v1, rfl, ⟨A1, c1, rfl, hC, hc1⟩, hb, _⟩
  have HC := Lib.hid hC; have HB := Lib.hid hb
  have hle := hb.size
  clear hC hb
  generalize hm : t.length = m at *
  have HL := Lib.hid hm
  clear hm
  go_wp2_with fail
  go_loopw [5, 6] (fun o i wr => ∃ (k : Nat) (out : List Int), i = .int .i64 k ∧ k ≤ m ∧ Hid (out = (valsL (t.take k)).take most) ∧ Hid (RowI wr w1.heap.size o out) ∧ Hid (Below w1.heap.size w1 wr))
    (fun _ i _ => m - (intOf i).toNat)
  case atStart => exact ⟨0, [], rfl, Nat.zero_le _, Lib.hid (by rw [List.take_zero]; unfold valsL; rw [List.flatMap_nil, List.take_nil]), Lib.hid (RowI.nil _ _), Lib.hid (Below.refl _ _)⟩
  case round =>
    obtain ⟨k, out, rfl, hk, hN, hO, hB⟩ := hrel
    obtain ⟨A0, c0, rfl⟩ := row_form hO.out
    by_cases hkm : k < m
    · have hkt : k < t.length := by rw [HL.out]; exact hkm
      obtain ⟨ad, hA, x0, _⟩ := rng_at (Kd.C_below HC.out hB.out) k hkt
      subst hA
      have hs := HM.out _ (List.getElem_mem hkt)
      have HF : CutF t k t[k].f0 t[k].f1 := ⟨hkt, rfl, rfl⟩
      have HF := Lib.hid HF
      have HN := Lib.hid (fun j o (h : ValO t k t[k].f0 j most o) => ValO.next hkt h)
      have HV0 : Hid (ValO t k t[k].f0 0 most out) := Lib.hid (by unfold ValO; rw [hN.out]; simp [sp])
      have hrs : (rsize t[k] : Int) = t[k].f1 - t[k].f0 + 1 := by unfold rsize; omega
      generalize rsize t[k] = n at *
      generalize t[k].f0 = a at *
      generalize t[k].f1 = b at *
      have hix := fun W => index_at ad m c1 (k : Nat) (by omega) W
      simp only [Int.toNat_natCast] at hix
      go_wp2_with fail
      go_loopw [5, 7] (fun o i wi => ∃ (j : Nat) (out : List Int), i = .int .i64 (a + j) ∧ j ≤ n ∧ Hid (ValO t k a j most out) ∧ Hid (RowI wi w1.heap.size o out) ∧ Hid (Below w1.heap.size w1 wi))
        (fun _ i _ => (b + 1 - intOf i).toNat)
      case atStart => exact ⟨0, out, by simp, Nat.zero_le _, HV0, hO, hB⟩
      case round =>
        obtain ⟨j, out, rfl, hj, hV, hO, hB⟩ := hrel
        obtain ⟨A0, c0, rfl⟩ := row_form hO.out
        have HC1' := HC
        rw [← HL.out] at HC1'
        obtain ⟨x0, x1, _⟩ := CutS.all (⟨hB.out, HC1'.out⟩ : CutS w1 (some ad) t _) HF.out
        have hle2 := hV.out.le
        by_cases hjn : a + j ≤ b
        · have hjb : decide (a + (j : Int) ≤ b) = true := decide_eq_true hjn
          by_cases hrm : out.length < most
          · have hrb : decide ((out.length : Int) < (most : Int)) = true := decide_eq_true (by omega)
            have hrb2 : decide (out.length < most) = true := decide_eq_true (by omega)
            have hw1 : IntKind.i64.wrap (a + j + 1) = a + j + 1 := IntWalk.i64_in _ (by omega)
            have hsz := hB.out.size
            have HP := Lib.hid (hV.out.push hrm)
            go_wp2_with ((with_reducible refine gate_dst (N := 39) rfl ?_); refine wpList_append_own _ rfl _ _ 22 rfl w1.heap.size 2 i0 _ 1 8 Tryz.underlying22 hi0 hz0 hz1 hz2 rfl (by decide) _ _ _ rfl ((RowI.own hO.out).alloc _) ⟨_, 0, none⟩ 1 1 [.int .i64 (a + j)] rfl rfl (cell_one_at _ _ (by simp) _ _) (by simp [Value.oneCell']) (by simp only [maxLen]; omega) (by omega) (by simp; omega) ?_; intro v' w4 hown' hgrow _; have hQ1 : Hid (RowI w4 w1.heap.size v' (out ++ [a + j])) := Lib.hid (by unfold RowI; rw [List.length_append, List.length_singleton, ints64_snoc]; exact hown'); have hQ2 : Hid (Below w1.heap.size w1 w4) := Lib.hid ((hB.out.alloc hB.out.size _).grown hgrow (by simp; omega) (fun j e => own_base (RowI.own hO.out) j e)); clear hown' hgrow)
            refine ⟨⟨j + 1, out ++ [a + j], by rw [Int.natCast_add]; congr 1; omega, by omega, HP, hQ1, hQ2⟩, by simp [intOf]; omega⟩
          · have hrb : decide ((out.length : Int) < (most : Int)) = false := decide_eq_false (by omega)
            have hrb2 : decide (out.length < most) = false := decide_eq_false (by omega)
            have HP := Lib.hid (HN.out j out hV.out hj (.inr (by omega)))
            go_wp2_with fail
            refine ⟨⟨k + 1, out, by rw [Int.natCast_add]; rfl, by omega, HP, hO, hB⟩, by simp [intOf]; omega⟩
        · have hjb : decide (a + (j : Int) ≤ b) = false := decide_eq_false hjn
          have HP := Lib.hid (HN.out j out hV.out hj (.inl (by omega)))
          go_wp2_with fail
          refine ⟨⟨k + 1, out, by rw [Int.natCast_add]; rfl, by omega, HP, hO, hB⟩, by simp [intOf]; omega⟩
    · obtain rfl : k = m := by omega
      have hall : t.take k = t := List.take_of_length_le (by rw [HL.out]; exact Nat.le_refl _)
      rw [hall] at hN
      go_wp2_with fail
      go_ret
      refine ⟨_, rfl, ?_, below_step HB.out hB.out⟩
      rw [← hN.out]
      exact hO.out.lower hle

end Go.Proofs.YtnfdppkbbfdmnaaGreatDoor.PD

namespace Go.Proofs.YtnfdppkbbfdmnaaGreatDoor.PD
open Go.RowKit Go.Proofs.YtnfdppkbbfdmnaaGreatDoorW.PrintWords Go.Proofs.YtnfdppkbbfdmnaaGreatDoorW.PrintLast Go.Proofs.YtnfdppkbbfdmnaaGreatDoorW.PrintMore
attribute [local go_sem] max2_int min2_int max_two min_two max_three min_three max_four min_four   -- for this text's walks alone
set_option linter.unusedVariables false
set_option linter.unusedSimpArgs false

/-! ### jigsawref02_Spoil: function 19 -/
def jigsawref02_Spoil.l0 : Nat → List (S57) → Int → Option (Unit)
  | 0, _, _ => none
  | k + 1, x0, x2 => if x2 < (x0.length : Int) then (if 0 ≤ x2 then (jigsawref02_Spoil.l0 k (x0.set (x2 : Int).toNat (⟨9, (-9)⟩ : S57)) (wrap64 (x2 + 1))) else (none)) else (if x0.length < 8796093022208 then ((some (x0 ++ [(⟨5, (-5)⟩ : S57)] : List (S57))).bind fun y226 => (if 0 ≤ (wrap64 ((y226.length : Int) - 1)) then (if (wrap64 ((y226.length : Int) - 1)) < (y226.length : Int) then (some ()) else (none)) else (none))) else (none))
def jigsawref02_Spoil.f (k : Nat) (l0 : List (S57)) : Option (Unit) := jigsawref02_Spoil.l0 k l0 0
theorem jigsawref02_Spoil.mono_l : ∀ k, (∀ y0 y1, LeO (jigsawref02_Spoil.l0 k y0 y1) (jigsawref02_Spoil.l0 (k + 1) y0 y1))
  | 0 => fun _ _ r h => by simp [jigsawref02_Spoil.l0] at h
  | k + 1 => by
    have ih0 := jigsawref02_Spoil.mono_l k
    · intro y0 y1
      unfold jigsawref02_Spoil.l0
      repeat' first
      | (with_reducible exact ih0 _ _)
      | (with_reducible exact LeO.refl _)
      | (with_reducible exact LeO.none _)
      | (with_reducible refine LeO.ite ?_ ?_)
      | (with_reducible refine LeO.bind ?_ (fun _ => ?_))
      | exact ih0 _ _
      | exact LeO.none _
      | refine LeO.ite ?_ ?_
      | refine LeO.bind ?_ (fun _ => ?_)
theorem jigsawref02_Spoil.mono : ∀ a0 k, LeO (jigsawref02_Spoil.f k a0) (jigsawref02_Spoil.f (k + 1) a0) := by
  intro a0 k
  have ih0 := jigsawref02_Spoil.mono_l k
  unfold jigsawref02_Spoil.f
  repeat' first
      | (with_reducible exact ih0 _ _)
      | (with_reducible exact LeO.refl _)
      | (with_reducible exact LeO.none _)
      | (with_reducible refine LeO.ite ?_ ?_)
      | (with_reducible refine LeO.bind ?_ (fun _ => ?_))
      | exact ih0 _ _
      | exact LeO.none _
      | refine LeO.ite ?_ ?_
      | refine LeO.bind ?_ (fun _ => ?_)
set_option maxHeartbeats 8000000 in
set_option maxRecDepth 100000 in
theorem jigsawref02_Spoil.calls (k : Nat) (P0_ : Nat → Prop) (u9000_ : Value) (l0 : List (S57)) (w0 w : World) (hB : Below w0.heap.size w0 w) (ho0 : Kd.R k57 57 w w0.heap.size P0_ u9000_ l0) (h : jigsawref02_Spoil.f k l0 = some ()) :
    Calls Tryz.prog 19 #[u9000_] w fun e w' => e = .returned (.tuple #[]) ∧ Below w0.heap.size w0 w' ∧ Kept w w' (fun k_ => P0_ k_) := by
  have hu57 := Tryz.underlying57
  have HO0 := Aside0.mk (show Kd.R k57 57 w w0.heap.size (fun k_ => (P0_ k_ ∨ w.heap.size ≤ k_)) u9000_ l0 from Kd.R_mono ho0 (fun k_ hk => (.inl hk)))
  have HK := Aside0.mk (Kept.refl w (fun k_ => P0_ k_))
  have HW0 := Aside0.mk hB.size
  have HB := Aside0.mk hB
  clear hB
  have H : (jigsawref02_Spoil.l0 k l0 0) = some () := h
  clear h
  have H' := Aside0.mk H
  clear H
  go_enter Tryz.func19, Tryz.ntmps19
  go_wp2
  go_loopg [2] k (fun kq v2 w' => ∃ (x0_1 : List (S57)) (x2_1 : Int), v2 = .int .i64 x2_1 ∧ Aside0 (jigsawref02_Spoil.l0 kq x0_1 x2_1 = some ()) ∧ Aside0 (kq ≤ k) ∧ Aside0 (Kd.R k57 57 w' w0.heap.size (fun k_ => (P0_ k_ ∨ w.heap.size ≤ k_)) u9000_ x0_1) ∧ Aside0 (Kept w w' (fun k_ => P0_ k_)) ∧ Aside0 (Below w0.heap.size w0 w'))
  case atStart => exact ⟨(l0), (0), (by first | rfl | (simp; done) | (simp [*]; done)), H', ⟨Nat.le_refl _⟩, ⟨by (with_reducible repeat (first | apply Kd.R_alloc | apply Kd.R_drewN | apply Kd.R_drew)); exact HO0.out⟩, ⟨by repeat (first | (with_reducible first | exact HK.out | apply Kept.alloc | apply Kept.drewN | apply Kept.drew) | exact HK.out)⟩, ⟨by repeat (first | (with_reducible first | exact HB.out | apply below_alloc | apply pw_below_drewN | apply below_drew1) | exact HB.out)⟩⟩
  case round =>
    clear H'
    try clear c1
    obtain ⟨x0_1, x2_1, rfl, HA, HK1, HO_0, HK, HB⟩ := hrel
    cases gk with
    | zero => exact absurd HA.out (by simp [jigsawref02_Spoil.l0])
    | succ k1 =>
      have H := HA.out
      clear HA
      simp only [jigsawref02_Spoil.l0] at H
      by_cases c2 : x2_1 < (x0_1.length : Int)
      · rw [if_pos c2] at H
        have c2b0 : decide (x2_1 < (x0_1.length : Int)) = true := decide_eq_true c2
        clear c2
        by_cases c3 : 0 ≤ x2_1
        · rw [if_pos c3] at H
          have c3b0 : decide (0 ≤ x2_1) = true := decide_eq_true c3
          clear c3
          obtain ⟨y225, hy225⟩ : ∃ y_ : List (S57), y_ = (x0_1.set (x2_1 : Int).toNat (⟨9, (-9)⟩ : S57)) := ⟨_, rfl⟩
          replace H : (jigsawref02_Spoil.l0 k1 y225 (wrap64 (x2_1 + 1))) = some () := by first | (rw [hy225]; with_reducible exact H) | (have H2_ := (Option.bind_some _ _).symm.trans H; rw [hy225]; with_reducible exact H2_) | (have H2_ := (Option.bind_some _ _).symm.trans H; with_reducible exact H2_) | with_reducible exact H | (rw [hy225]; exact H) | exact H
          have Ny225 := Aside0.mk hy225
          clear hy225
          have H' := Aside0.mk H
          clear H
          obtain ⟨Ao5, co5, eo5⟩ := Kd.R_slice HO_0.out
          subst eo5
          have p4 : 0 ≤ (x2_1 : Int) := of_decide_eq_true (by first | (with_reducible assumption) | assumption)
          have q4 : (x2_1 : Int) < ((x0_1.length : Int) : Int) := of_decide_eq_true (by first | (with_reducible assumption) | assumption)
          obtain ⟨go4, co4, eo4, gb4, gl4, cl4, HG4⟩ := Kd.R_form HO_0.out (by omega)
          (first | cases eo4 | (injection eo4 with ea_ en_ ec_; (first | subst ea_ | (injection ea_ with ea_; subst ea_)); subst ec_; clear en_))
          have GB4 := Aside0.mk gb4
          have GG4 := Aside0.mk HG4
          clear gb4 gl4 HG4
          have HMgo4 := Aside0.mk (show (P0_ go4 ∨ w.heap.size ≤ go4) from (HO_0.out.1 _ rfl))
          obtain ⟨ce4, hcl4, hM4, hcc4, hfr4⟩ := Kd.R_elem HO_0.out z57 (x2_1 : Int) p4 q4
          obtain rfl := k57_openM hM4
          have hx4_0 : wr.cell? ⟨go4, (x2_1 : Int).toNat * 2, none⟩ = some (.int .i64 ((rd_T57 x0_1 x2_1).f0)) := hcc4 0 _ rfl
          have hx4_1 : wr.cell? ⟨go4, (x2_1 : Int).toNat * 2 + 1, none⟩ = some (.int .i64 ((rd_T57 x0_1 x2_1).f1)) := hcc4 1 _ rfl
          have hf4_0 : wr.frozen? ⟨go4, (x2_1 : Int).toNat * 2, none⟩ = false := hfr4 0
          have hf4_1 : wr.frozen? ⟨go4, (x2_1 : Int).toNat * 2 + 1, none⟩ = false := hfr4 1
          clear hcl4 hcc4 hfr4 hM4
          replace p4 := eq_true p4
          replace q4 := eq_true q4
          have HX6 := Aside0.mk (show Kd.R k57 57 wr w0.heap.size (fun k_ => (P0_ k_ ∨ w.heap.size ≤ k_)) (.slice (some ⟨go4, 0, none⟩) x0_1.length co5) x0_1 from (by (with_reducible repeat (first | apply Kd.R_alloc | apply Kd.R_drewN | apply Kd.R_drew)); exact HO_0.out))
          obtain ⟨ce6, hcl6, hM6, hcc6, hfr6⟩ := Kd.R_elem HX6.out z57 (x2_1 : Int) (of_decide_eq_true (by first | (with_reducible assumption) | assumption)) (by have h_ : (x2_1 : Int) < ((x0_1.length : Int) : Int) := of_decide_eq_true (by first | (with_reducible assumption) | assumption); first | exact h_ | (have e_ := (Kd.R_reads' HO_0.out).1; omega) | simpa using h_)
          obtain rfl := k57_openM hM6
          have HP6 := Kd.R_seg HX6.out (x2_1 : Int) (of_decide_eq_true (by first | (with_reducible assumption) | assumption)) (by have h_ : (x2_1 : Int) < ((x0_1.length : Int) : Int) := of_decide_eq_true (by first | (with_reducible assumption) | assumption); first | exact h_ | (have e_ := (Kd.R_reads' HO_0.out).1; omega) | simpa using h_) (seg := [.int .i64 9, .int .i64 (-9)]) (j := 0) hcl6 hcc6 (show 2 ≤ 2 from by decide) (x' := (⟨9, (-9)⟩ : S57)) (k57_mkM _ _ _ (⟨9, (-9)⟩ : S57) ) (fun _ hk => hk)
          have hx6_0 := hcc6 0 _ rfl
          (try simp only [show (k57).sz = 2 from rfl, Nat.mul_one, Nat.add_zero] at hx6_0)
          have hf6_0 := hfr6 0
          (try simp only [show (k57).sz = 2 from rfl, Nat.mul_one, Nat.add_zero] at hf6_0)
          have hx6_1 := hcc6 1 _ rfl
          (try simp only [show (k57).sz = 2 from rfl, Nat.mul_one, Nat.add_zero] at hx6_1)
          have hf6_1 := hfr6 1
          (try simp only [show (k57).sz = 2 from rfl, Nat.mul_one, Nat.add_zero] at hf6_1)
          clear hcl6 hcc6 hfr6 hM6
          go_wp2_with (first | ((with_reducible refine gate_store (t := 57) (p := 12) rfl ?_); refine store_event (t := 57) (p := 12) (v := ?vo_w7) (w1 := ((wr.setCell ⟨go4, (x2_1 : Int).toNat * 2, none⟩ (.int .i64 9)).setCell ⟨go4, (x2_1 : Int).toNat * 2 + 1, none⟩ (.int .i64 (-9)))) ?hg ?ho ?hn ?hr ?_; (case ho => rfl); (case hg => rfl); (case hn => rfl); (case hr => first | (go_simp; done) | (go_simp; rfl)); intro w7 hw; have hg : wr.grownBy w7 (some go4) := (by rw [hw]; exact HP6.2); have hp_ : Kd.R k57 57 w7 w0.heap.size (fun k_ => (P0_ k_ ∨ w.heap.size ≤ k_)) (.slice (some ⟨go4, 0, none⟩) x0_1.length co5) y225 := (by rw [hw, Ny225.out]; exact HP6.1); clear HP6; have n0_ := Aside0.mk (hp_); have n1_ := Aside0.mk ((by rw [hw]; exact below_set (below_set (HB.out) GB4.out) GB4.out : Below w0.heap.size w0 w7)); have n2_ := Aside0.mk (Kept.of_grown (S := (fun k_ => P0_ k_)) hg (by repeat (first | (with_reducible first | exact HK.out | apply Kept.alloc | apply Kept.drewN | apply Kept.drew) | exact HK.out)) (fun k_ e_ => (HO_0.out.1 k_ e_))); clear HO_0; clear HB; clear HK; have HO_0 := n0_; have HB := n1_; have HK := n2_; clear n0_ n1_ n2_; clear hg hw hp_))
          go_roundg k1
          case measure => have := HK1.out; omega
          case rel => exact ⟨(y225), (wrap64 (x2_1 + 1)), (by first | rfl | (simp; done) | (simp [*]; done)), H', ⟨by have := HK1.out; omega⟩, ⟨by (with_reducible repeat (first | apply Kd.R_alloc | apply Kd.R_drewN | apply Kd.R_drew)); exact HO_0.out⟩, ⟨by repeat (first | (with_reducible first | exact HK.out | apply Kept.alloc | apply Kept.drewN | apply Kept.drew) | exact HK.out)⟩, ⟨by repeat (first | (with_reducible first | exact HB.out | apply below_alloc | apply pw_below_drewN | apply below_drew1) | exact HB.out)⟩⟩
        · rw [if_neg c3] at H
          exact absurd H (by simp)
      · rw [if_neg c2] at H
        have c2b0 : decide (x2_1 < (x0_1.length : Int)) = false := decide_eq_false c2
        clear c2
        by_cases c8 : x0_1.length < 8796093022208
        · rw [if_pos c8] at H
          have LMc8 := Aside0.mk c8
          clear c8
          obtain ⟨y226, hy226⟩ : ∃ y_ : List (S57), y_ = (x0_1 ++ [(⟨5, (-5)⟩ : S57)]) := ⟨_, rfl⟩
          replace H : (if 0 ≤ (wrap64 ((y226.length : Int) - 1)) then (if (wrap64 ((y226.length : Int) - 1)) < (y226.length : Int) then (some ()) else (none)) else (none)) = some () := by first | (rw [hy226]; with_reducible exact H) | (have H2_ := (Option.bind_some _ _).symm.trans H; rw [hy226]; with_reducible exact H2_) | (have H2_ := (Option.bind_some _ _).symm.trans H; with_reducible exact H2_) | with_reducible exact H | (rw [hy226]; exact H) | exact H
          have Ny226 := Aside0.mk hy226
          clear hy226
          obtain ⟨ji9, hji9⟩ : ∃ j_ : Int, (wrap64 ((y226.length : Int) - 1)) = j_ := ⟨_, rfl⟩
          replace H : (if 0 ≤ (ji9) then (if (ji9) < (y226.length : Int) then (some ()) else (none)) else (none)) = some () := by first | (rw [hji9] at H; exact H) | (simp only [hji9] at H ⊢; exact H)
          have hji9w : (IntKind.i64.wrap ((y226.length : Int) - 1)) = ji9 := (i64_w _).trans hji9
          by_cases c10 : 0 ≤ (ji9)
          · rw [if_pos c10] at H
            have c10b0 : decide (0 ≤ (ji9)) = true := decide_eq_true c10
            clear c10
            by_cases c11 : (ji9) < (y226.length : Int)
            · rw [if_pos c11] at H
              have c11b0 : decide ((ji9) < (y226.length : Int)) = true := decide_eq_true c11
              clear c11
              obtain ⟨y229, hy229⟩ : ∃ y_ : List (S57), y_ = (y226.set ((ji9) : Int).toNat (⟨3, (rd_T57 y226 (ji9)).f1⟩ : S57)) := ⟨_, rfl⟩
              replace H : (some ()) = some () := by first | (rw [hy229]; with_reducible exact H) | (have H2_ := (Option.bind_some _ _).symm.trans H; rw [hy229]; with_reducible exact H2_) | (have H2_ := (Option.bind_some _ _).symm.trans H; with_reducible exact H2_) | with_reducible exact H | (rw [hy229]; exact H) | exact H
              have Ny229 := Aside0.mk hy229
              clear hy229
              obtain ⟨Ao13, co13, eo13⟩ := Kd.R_slice HO_0.out
              subst eo13
              go_wp2_with (first | ((with_reducible refine gate_builtin (b := .append) (xs := #[.tmp 13, .tmp 15]) rfl ?_); at_builtin; refine Kd.R_append k57 (w0 := w0) w0.heap.size rfl (.tmp 13) (.tmp 15) 23 57 (.agg #[(.int .i64 0), (.int .i64 0)]) 16 rfl Tryz.underlying23 info57 rfl (by decide) (by omega) (.slice Ao13 x0_1.length co13) x0_1 (⟨5, (-5)⟩ : S57) [.int .i64 5, .int .i64 (-5)] (fun k_ => (P0_ k_ ∨ w.heap.size ≤ k_)) (fun _ => False) rfl rfl ?aP (fun _ hk => hk.elim) ?aF ?aO ?aB ?aS ?aL ?_; (case aP => exact k57_mkM _ _ _ (⟨5, (-5)⟩ : S57)); (case aB => exact (by repeat (first | (with_reducible first | exact HB.out | apply below_alloc | apply pw_below_drewN | apply below_drew1) | exact HB.out))); (case aF => exact (fun k_ hk => (.inr (Nat.le_trans (by first | exact HK.out.1 | exact (show Kept w _ (fun k_ => P0_ k_) from by repeat (first | (with_reducible first | exact HK.out | apply Kept.alloc | apply Kept.drewN | apply Kept.drew) | exact HK.out)).1) hk)))); (case aO => exact (by (with_reducible repeat (first | apply Kd.R_alloc | apply Kd.R_drewN | apply Kd.R_drew)); exact HO_0.out)); (case aS => exact (below_size (by repeat (first | (with_reducible first | exact HB.out | apply below_alloc | apply pw_below_drewN | apply below_drew1) | exact HB.out)))); (case aL => have := LMc8.out; omega); intro v227 w14 ho hb hg hat; rw [← Ny226.out] at ho; have n0_ := Aside0.mk (hb); have n1_ := Aside0.mk (Kept.of_grown (S := (fun k_ => P0_ k_)) hg (by repeat (first | (with_reducible first | exact HK.out | apply Kept.alloc | apply Kept.drewN | apply Kept.drew) | exact HK.out)) (fun k_ e_ => (HO_0.out.1 k_ e_))); have n2_ := Aside0.mk (ho); clear HB; clear HK; clear HO_0; have HB := n0_; have HK := n1_; have HO228 := n2_; clear n0_ n1_ n2_; clear ho hb hg hat; obtain ⟨Ao15, co15, eo15⟩ := Kd.R_slice HO228.out; subst eo15; have p12 : 0 ≤ ((ji9) : Int) := of_decide_eq_true (by first | (with_reducible assumption) | assumption); have q12 : ((ji9) : Int) < ((y226.length : Int) : Int) := of_decide_eq_true (by first | (with_reducible assumption) | assumption); obtain ⟨go12, co12, eo12, gb12, gl12, cl12, HG12⟩ := Kd.R_form HO228.out (by omega); (first | cases eo12 | (injection eo12 with ea_ en_ ec_; (first | subst ea_ | (injection ea_ with ea_; subst ea_)); subst ec_; clear en_)); have GB12 := Aside0.mk gb12; have GG12 := Aside0.mk HG12; clear gb12 gl12 HG12; have HMgo12 := Aside0.mk (show (P0_ go12 ∨ w.heap.size ≤ go12) from (HO228.out.1 _ rfl)); obtain ⟨ce12, hcl12, hM12, hcc12, hfr12⟩ := Kd.R_elem HO228.out z57 ((ji9) : Int) p12 q12; obtain rfl := k57_openM hM12; have hx12_0 : w14.cell? ⟨go12, ((ji9) : Int).toNat * 2, none⟩ = some (.int .i64 ((rd_T57 y226 (ji9)).f0)) := hcc12 0 _ rfl; have hx12_1 : w14.cell? ⟨go12, ((ji9) : Int).toNat * 2 + 1, none⟩ = some (.int .i64 ((rd_T57 y226 (ji9)).f1)) := hcc12 1 _ rfl; have hf12_0 : w14.frozen? ⟨go12, ((ji9) : Int).toNat * 2, none⟩ = false := hfr12 0; have hf12_1 : w14.frozen? ⟨go12, ((ji9) : Int).toNat * 2 + 1, none⟩ = false := hfr12 1; clear hcl12 hcc12 hfr12 hM12; replace p12 := eq_true p12; replace q12 := eq_true q12; have HX16 := Aside0.mk (show Kd.R k57 57 w14 w0.heap.size (fun k_ => (P0_ k_ ∨ w.heap.size ≤ k_)) (.slice (some ⟨go12, 0, none⟩) y226.length co15) y226 from (by (with_reducible repeat (first | apply Kd.R_alloc | apply Kd.R_drewN | apply Kd.R_drew)); exact HO228.out)); obtain ⟨ce16, hcl16, hM16, hcc16, hfr16⟩ := Kd.R_elem HX16.out z57 ((ji9) : Int) (of_decide_eq_true (by first | (with_reducible assumption) | assumption)) (by have h_ : ((ji9) : Int) < ((y226.length : Int) : Int) := of_decide_eq_true (by first | (with_reducible assumption) | assumption); first | exact h_ | (have e_ := (Kd.R_reads' HO228.out).1; omega) | simpa using h_); obtain rfl := k57_openM hM16; have HP16 := Kd.R_seg HX16.out ((ji9) : Int) (of_decide_eq_true (by first | (with_reducible assumption) | assumption)) (by have h_ : ((ji9) : Int) < ((y226.length : Int) : Int) := of_decide_eq_true (by first | (with_reducible assumption) | assumption); first | exact h_ | (have e_ := (Kd.R_reads' HO228.out).1; omega) | simpa using h_) (seg := [.int .i64 3]) (j := 0) hcl16 hcc16 (show 1 ≤ 2 from by decide) (x' := (⟨3, (rd_T57 y226 (ji9)).f1⟩ : S57)) (k57_mkM _ _ _ (⟨3, (rd_T57 y226 (ji9)).f1⟩ : S57) ) (fun _ hk => hk); have hx16_0 := hcc16 0 _ rfl; (try simp only [show (k57).sz = 2 from rfl, Nat.mul_one, Nat.add_zero] at hx16_0); have hf16_0 := hfr16 0; (try simp only [show (k57).sz = 2 from rfl, Nat.mul_one, Nat.add_zero] at hf16_0); clear hcl16 hcc16 hfr16 hM16) | ((with_reducible refine gate_store (t := 2) (p := 22) rfl ?_); refine store_event (t := 2) (p := 22) (v := ?vo_w17) (w1 := (w14.setCell ⟨go12, ((ji9) : Int).toNat * 2, none⟩ (.int .i64 3))) ?hg ?ho ?hn ?hr ?_; (case ho => rfl); (case hg => rfl); (case hn => rfl); (case hr => first | (go_simp; done) | (go_simp; rfl)); intro w17 hw; have hg : w14.grownBy w17 (some go12) := (by rw [hw]; exact HP16.2); have hp_ : Kd.R k57 57 w17 w0.heap.size (fun k_ => (P0_ k_ ∨ w.heap.size ≤ k_)) (.slice (some ⟨go12, 0, none⟩) y226.length co15) y229 := (by rw [hw, Ny229.out]; exact HP16.1); clear HP16; have n0_ := Aside0.mk (hp_); have n1_ := Aside0.mk ((by rw [hw]; exact below_set (HB.out) GB12.out : Below w0.heap.size w0 w17)); have n2_ := Aside0.mk (Kept.of_grown (S := (fun k_ => P0_ k_)) hg (by repeat (first | (with_reducible first | exact HK.out | apply Kept.alloc | apply Kept.drewN | apply Kept.drew) | exact HK.out)) (fun k_ e_ => (HO228.out.1 k_ e_))); clear HO228; clear HB; clear HK; have HO228 := n0_; have HB := n1_; have HK := n2_; clear n0_ n1_ n2_; clear hg hw hp_))
              first | go_end0 | ((try simp only [Exit.inBlock, Exit.then]); refine bodyPost_ret (results_none rfl _ _ _) rfl ?_)
              exact ⟨by first | rfl | (simp [errW_none, errW_some] <;> rfl) | (simp only [← hji9]; first | rfl | (simp [errW_none, errW_some] <;> rfl)) | (simp [*, errW_none, errW_some] <;> rfl), by repeat (first | (with_reducible first | exact HB.out | apply below_alloc | apply pw_below_drewN | apply below_drew1) | exact HB.out), by repeat (first | (with_reducible first | exact HK.out | apply Kept.alloc | apply Kept.drewN | apply Kept.drew) | exact HK.out)⟩
            · rw [if_neg c11] at H
              exact absurd H (by simp)
          · rw [if_neg c10] at H
            exact absurd H (by simp)
        · rw [if_neg c8] at H
          exact absurd H (by simp)
end Go.Proofs.YtnfdppkbbfdmnaaGreatDoor.PD

namespace Go.Proofs.YtnfdppkbbfdmnaaGreatDoor.PD
open Go.RowKit Go.Proofs.YtnfdppkbbfdmnaaGreatDoorW.PrintWords Go.Proofs.YtnfdppkbbfdmnaaGreatDoorW.PrintLast Go.Proofs.YtnfdppkbbfdmnaaGreatDoorW.PrintMore
set_option linter.unusedVariables false
set_option linter.unusedSimpArgs false
theorem cut_cap {P : Program} (t e : TypeId) (kh : IntKind) {i : TypeInfo} (ht : P.underlying t = some (.slice e)) (hi : P.info? e = some i) (A : Option Addr) (n c : Nat) (j : Int) (h0 : 0 ≤ j) (hm : j ≤ c) :
    ∀ W : World, (Instr.slice t (.slice A n c) none (some (.int kh j)) none).run P W = .ok (.slice A j.toNat c) W := by
  intro W
  have hel : P.elem t = e := by simp [Program.elem, ht]
  have hu : P.underlying t = some (.slice (P.elem t)) := by rw [hel]; exact ht
  have ha : (A.map fun x => x.add 0) = A := by cases A <;> simp [Addr.add]
  rw [run_slice_h W t A n c hu kh j h0 (by omega), hel]
  simp [sizeOf, typeInfo, hi, sliced, Result.andThen, ha]
/-! ### lent lists: a mark stands behind them -/
/-- ranges with the mark behind them -/
def LentR (w : World) (base : Nat) (v : Value) (l : List S57) : Prop := ∃ A c, v = .slice A l.length c ∧ Row w base (.slice A (l.length + 1) c) (l ++ [⟨77, 7⟩])
theorem LentR.below {w w' : World} {base : Nat} {v : Value} {l : List S57} (h : LentR w base v l) (hb : Below w.heap.size w w') : LentR w' base v l := by
  obtain ⟨A, c, e, hr⟩ := h
  exact ⟨A, c, e, hr.below hb⟩
theorem LentR.lst {w : World} {base : Nat} {v : Value} {l : List S57} (h : LentR w base v l) : Lst w v l := by
  obtain ⟨A, c, e, hr⟩ := h
  obtain ⟨A', c', e', hC, hc⟩ := hr.lst
  injection e' with e1 hl_ e2
  clear hl_
  subst e1 e2
  have hx' := Kd.C_take (m := l.length) hC (by simp)
  rw [List.take_left' rfl] at hx'
  rw [List.length_append, List.length_singleton] at hc
  exact ⟨A, c, e, hx', by omega⟩
set_option maxRecDepth 100000 in
set_option maxHeartbeats 4000000 in
theorem Lent_ref {v : Value} (l : List S57) (w : World) (h : Lst w v l) (hl : l.length ≤ 8796093021952) :
    Calls Tryz.prog 9 #[v] w fun e w' => ∃ v', e = .returned v' ∧ LentR w' w.heap.size v' l ∧ Below w.heap.size w w' := by
  obtain ⟨i0, hi0, hz0, hz1, hz2⟩ := info_parts info57
  obtain ⟨A, c, rfl, hC, hc⟩ := h
  have HC := Lib.hid hC
  clear hC
  generalize hm : l.length = m at *
  have HL := Lib.hid hm
  clear hm
  go_enter Tryz.func9, Tryz.ntmps9
  go_upto_region 3 with ((with_reducible refine gate_builtin (b := .append) (xs := #[.tmp 4, .tmp 5]) rfl ?_); at_builtin; refine append_lst (w0 := w) w.heap.size rfl (.tmp 4) (.tmp 5) rfl _ [] _ _ _ _ rfl rfl (Row.nil _ _) HC.out (Below.refl _ _) (Nat.le_refl _) (by simp; omega) ?_; intro v4 w2 hO2 hb2; rw [List.nil_append] at hO2; obtain ⟨A4, c4, hv4⟩ := row_form hO2; subst hv4; have HO2 := Lib.hid hO2; have HB2 := Lib.hid hb2; clear hO2 hb2)
  have hle := HB2.out.size
  rw [HL.out]
  go_wp2_with ((with_reducible refine gate_dst (N := 10) rfl ?_); refine wpList_append_own _ rfl _ _ 23 rfl w.heap.size 57 i0 _ 2 16 Tryz.underlying23 hi0 hz0 hz1 hz2 rfl (by decide) _ _ _ rfl ((by have := (Row.own HO2.out).alloc (.cells #[.int .i64 77, .int .i64 7] 57); rw [HL.out] at this; exact this)) ⟨_, 0, none⟩ 1 1 [.int .i64 77, .int .i64 7] rfl rfl (cell_pair_at _ _ (by simp) _ _ _) (by simp [Value.oneCell']) (by simp only [maxLen]; omega) (by omega) (by simp; omega) ?_; intro v' w4 hown' hgrow _; obtain ⟨q1, q2⟩ := HO2.out.pushed (by rw [HL.out]; exact hown') (by rw [HL.out]; exact hgrow) (by omega); obtain ⟨A5, c5, hv5⟩ := row_form hown'; subst hv5; have hcap := row_cap hown'; have hQ1 := Lib.hid q1; have hQ2 := Lib.hid q2; clear hown' hgrow q1 q2; have hcut := fun W => cut_cap (P := Tryz.prog) 23 57 .i64 Tryz.underlying23 hi0 A5 (m + 1) c5 (m : Nat) (by omega) (by omega) W; simp only [Int.toNat_natCast] at hcut)
  go_ret
  refine ⟨_, rfl, ⟨A5, c5, by rw [HL.out]; rfl, ?_⟩, HB2.out.trans hQ2.out⟩
  rw [HL.out]
  exact hQ1.out
set_option maxRecDepth 100000 in
set_option maxHeartbeats 4000000 in
theorem Kept_ref {v v1 : Value} {base : Nat} (l : List S57) (w : World) (hx : LentR w base v l) (h1 : Lst w v1 l) (hl : l.length ≤ 8796093021952) :
    Calls Tryz.prog 21 #[v, v1] w fun e w' => e = .returned (.bool true) ∧ Below w.heap.size w w' := by
  have hlst := hx.lst
  obtain ⟨A, c, rfl, hrow⟩ := hx
  obtain ⟨A1, c1, rfl, hr1, hc1⟩ := h1
  obtain ⟨A', c', e', hx, hc⟩ := hrow.lst
  injection e' with e1 hl_ e2
  clear hl_
  subst e1 e2
  rw [List.length_append, List.length_singleton] at hc
  obtain ⟨ad, eA, hc0, hc1'⟩ := rng_at hx l.length (by simp)
  rw [show (l ++ [(⟨77, 7⟩ : S57)])[l.length]'(by simp) = ⟨77, 7⟩ by simp] at hc0 hc1'
  subst eA
  obtain ⟨i0, hi0, _, _, _⟩ := info_parts info57
  have hcut := cut_cap (P := Tryz.prog) 23 57 .i64 Tryz.underlying23 hi0 (some ad) l.length c ((l.length : Int) + 1) (by omega) (by omega)
  have e1 : ((l.length : Int) + 1).toNat = l.length + 1 := by omega
  rw [e1] at hcut
  have hc0' : w.cell? (ad.add (l.length * 2)) = some (.int .i64 77) := hc0
  have hc2' : w.cell? ⟨(ad.add (l.length * 2)).block, (ad.add (l.length * 2)).off + 1, none⟩ = some (.int .i64 7) := hc1'
  have HX := Lib.hid (show Lst w (.slice (some ad) l.length c) l from hlst); have HR1 := Lib.hid (show Lst w (.slice A1 l.length c1) l from ⟨A1, c1, rfl, hr1, hc1⟩)
  have HAL := Lib.hid (fun W (h : Below w.heap.size w W) => Alike_ref l l W (HX.out.below h) (HR1.out.below h) (by omega))
  have hw : IntKind.i64.wrap ((l.length : Int) + 1) = (l.length : Int) + 1 := IntWalk.i64_in _ (by omega)
  have hix := fun W => index_at ad (l.length + 1) c (l.length : Nat) (by omega) W
  simp only [Int.toNat_natCast] at hix
  clear hx hlst hr1 e1 hc0 hc1' hrow
  go_enter Tryz.func21, Tryz.ntmps21
  go_wp2_with fail
  have hbA : Below w.heap.size w (w.alloc (.cells #[.int .i64 77, .int .i64 7] 57)) := (Below.refl _ w).alloc (Nat.le_refl _) _
  refine (HAL.out _ hbA).mono ?_
  rintro e w1 ⟨r, rfl, hi, hb1⟩
  obtain rfl : r = true := by simpa using hi
  have hnw := (hb1.block w.heap.size (by simp)).trans (World.alloc_heap_new w (.cells #[.int .i64 77, .int .i64 7] 57))
  have d0 : w1.cell? ⟨w.heap.size, 0, none⟩ = some (.int .i64 77) := (blk_cell hnw 0).trans rfl
  have d1 : w1.cell? ⟨w.heap.size, 1, none⟩ = some (.int .i64 7) := (blk_cell hnw 1).trans rfl
  have HBA := Lib.hid (below_step hbA hb1)
  clear hnw hbA hc0' hc2' hb1
  go_wp2_with fail
  go_ret
  exact ⟨rfl, HBA.out⟩
/-! ### Spoil -/
theorem spoil_l0 : ∀ (d i : Nat) (l : List S57), l.length = i + d → l.length ≤ 4000000000000 → ∃ k, jigsawref02_Spoil.l0 k l (i : Int) = some ()
  | 0, i, l, hd, hl => by
    refine ⟨1, ?_⟩
    rw [jigsawref02_Spoil.l0]
    rw [if_neg (by omega), if_pos (by omega), Option.bind_some]
    rw [if_pos (by rw [List.length_append, List.length_singleton, IntWalk.wrap64_in _ (by omega)]; omega), if_pos (by rw [List.length_append, List.length_singleton, IntWalk.wrap64_in _ (by omega)]; omega)]
  | d + 1, i, l, hd, hl => by
    obtain ⟨k, hk⟩ := spoil_l0 d (i + 1) (l.set i ⟨9, -9⟩) (by rw [List.length_set]; omega) (by rw [List.length_set]; omega)
    refine ⟨k + 1, ?_⟩
    rw [jigsawref02_Spoil.l0]
    rw [if_pos (by omega), if_pos (by omega), Int.toNat_natCast]
    rw [show wrap64 ((i : Int) + 1) = ((i + 1 : Nat) : Int) from IntWalk.wrap64_in _ (by omega)]
    exact hk
/-- writing over a row of one's own: what is not that row's stays -/
theorem Spoil_ref {v : Value} (w0 : World) (l : List S57) (w : World) (h : Row w w0.heap.size v l) (hb0 : Below w0.heap.size w0 w) (hl : l.length ≤ 4000000000000) :
    Calls Tryz.prog 19 #[v] w fun e w' => e = .returned (.tuple #[]) ∧ Below w0.heap.size w0 w' := by
  obtain ⟨k, hk⟩ := spoil_l0 l.length 0 l (by omega) hl
  refine (jigsawref02_Spoil.calls k (fun _ => True) v l w0 w hb0 ?_ hk).mono ?_
  · exact h.toR
  · rintro e w' ⟨rfl, hb, _⟩
    exact ⟨rfl, hb⟩

end Go.Proofs.YtnfdppkbbfdmnaaGreatDoor.PD

namespace Go.Proofs.YtnfdppkbbfdmnaaGreatDoor.PD
open Go.RowKit Go.Proofs.YtnfdppkbbfdmnaaGreatDoorW.PrintWords Go.Proofs.YtnfdppkbbfdmnaaGreatDoorW.PrintLast Go.Proofs.YtnfdppkbbfdmnaaGreatDoorW.PrintMore
attribute [local go_sem] max2_int min2_int max_two min_two max_three min_three max_four min_four   -- for this text's walks alone
set_option linter.unusedVariables false
set_option linter.unusedSimpArgs false

/-! ### jigsawref01_Same: function 62 -/
def jigsawref01_Same.l0 : Nat → List Int → List Int → Int → Option (Bool)
  | 0, _, _, _ => none
  | k + 1, x0, x1, x5 => if x5 < (x0.length : Int) then (if 0 ≤ x5 then (if x5 < (x1.length : Int) then (if (rd x0 x5) = (rd x1 x5) then (jigsawref01_Same.l0 k x0 x1 (wrap64 (x5 + 1))) else (some false)) else (none)) else (none)) else (some true)
def jigsawref01_Same.f (k : Nat) (l0 : List Int) (l1 : List Int) : Option (Bool) := if (l0.length : Int) = (l1.length : Int) then (jigsawref01_Same.l0 k l0 l1 0) else (some false)
theorem jigsawref01_Same.mono_l : ∀ k, (∀ y0 y1 y2, LeO (jigsawref01_Same.l0 k y0 y1 y2) (jigsawref01_Same.l0 (k + 1) y0 y1 y2))
  | 0 => fun _ _ _ r h => by simp [jigsawref01_Same.l0] at h
  | k + 1 => by
    have ih0 := jigsawref01_Same.mono_l k
    · intro y0 y1 y2
      unfold jigsawref01_Same.l0
      repeat' first
      | (with_reducible exact ih0 _ _ _)
      | (with_reducible exact LeO.refl _)
      | (with_reducible exact LeO.none _)
      | (with_reducible refine LeO.ite ?_ ?_)
      | (with_reducible refine LeO.bind ?_ (fun _ => ?_))
      | exact ih0 _ _ _
      | exact LeO.none _
      | refine LeO.ite ?_ ?_
      | refine LeO.bind ?_ (fun _ => ?_)
theorem jigsawref01_Same.mono : ∀ a0 a1 k, LeO (jigsawref01_Same.f k a0 a1) (jigsawref01_Same.f (k + 1) a0 a1) := by
  intro a0 a1 k
  have ih0 := jigsawref01_Same.mono_l k
  unfold jigsawref01_Same.f
  repeat' first
      | (with_reducible exact ih0 _ _ _)
      | (with_reducible exact LeO.refl _)
      | (with_reducible exact LeO.none _)
      | (with_reducible refine LeO.ite ?_ ?_)
      | (with_reducible refine LeO.bind ?_ (fun _ => ?_))
      | exact ih0 _ _ _
      | exact LeO.none _
      | refine LeO.ite ?_ ?_
      | refine LeO.bind ?_ (fun _ => ?_)
set_option maxHeartbeats 8000000 in
set_option maxRecDepth 100000 in
theorem jigsawref01_Same.calls (k : Nat) (A0 : Option Addr) (c0 : Nat) (l0 : List Int) (A1 : Option Addr) (c1 : Nat) (l1 : List Int) (r : Bool) (w : World) (hr0 : Kd.C (Kd.int .i64) w A0 l0.length l0) (hc0 : l0.length ≤ c0) (hr1 : Kd.C (Kd.int .i64) w A1 l1.length l1) (hc1 : l1.length ≤ c1) (h : jigsawref01_Same.f k l0 l1 = some r) :
    Calls Tryz.prog 62 #[.slice A0 l0.length c0, .slice A1 l1.length c1] w fun e w' => e = .returned (.bool r) ∧ Drawn0 w w' := by
  have HR0 := Aside0.mk hr0
  have HC0 := Aside0.mk hc0
  clear hr0 hc0
  have HR1 := Aside0.mk hr1
  have HC1 := Aside0.mk hc1
  clear hr1 hc1
  have H : (if (l0.length : Int) = (l1.length : Int) then (jigsawref01_Same.l0 k l0 l1 0) else (some false)) = some r := h
  clear h
  by_cases c3 : (l0.length : Int) = (l1.length : Int)
  · rw [if_pos c3] at H
    have c3b0 : ((l0.length : Int) == (l1.length : Int)) = true := beq_iff_eq.mpr c3
    have c3b1 : ((l0.length : Int) != (l1.length : Int)) = false := bne_eq_false_iff_eq.mpr c3
    have c3b2 : (l0.length == l1.length) = true := by first | simpa using c3 | (simp at c3 ⊢; omega)
    clear c3
    have H' := Aside0.mk H
    clear H
    go_enter Tryz.func62, Tryz.ntmps62
    go_wp2
    repeat (go_quiet (fail); try go_wp2)
    go_loopg [5] k (fun kq v5 w' => ∃ (x5_1 : Int), v5 = .int .i64 x5_1 ∧ Aside0 (jigsawref01_Same.l0 kq l0 l1 x5_1 = some r) ∧ Aside0 (kq ≤ k) ∧ Drawn0 w w')
    case atStart => exact ⟨(0), (by first | rfl | (simp; done) | (simp [*]; done)), H', ⟨Nat.le_refl _⟩, by repeat (first | exact Drawn0.refl _ | apply Drawn0.step)⟩
    case round =>
      clear H'
      try clear c1
      try clear p2
      try clear c3
      try clear c3b0
      try clear c3b1
      try clear c3b2
      obtain ⟨x5_1, rfl, HA, HK1, ⟨m1, rfl⟩⟩ := hrel
      cases gk with
      | zero => exact absurd HA.out (by simp [jigsawref01_Same.l0])
      | succ k1 =>
        have H := HA.out
        clear HA
        simp only [jigsawref01_Same.l0] at H
        by_cases c4 : x5_1 < (l0.length : Int)
        · rw [if_pos c4] at H
          have c4b0 : decide (x5_1 < (l0.length : Int)) = true := decide_eq_true c4
          clear c4
          by_cases c5 : 0 ≤ x5_1
          · rw [if_pos c5] at H
            have c5b0 : decide (0 ≤ x5_1) = true := decide_eq_true c5
            clear c5
            by_cases c6 : x5_1 < (l1.length : Int)
            · rw [if_pos c6] at H
              have c6b0 : decide (x5_1 < (l1.length : Int)) = true := decide_eq_true c6
              clear c6
              by_cases c7 : (rd l0 x5_1) = (rd l1 x5_1)
              · rw [if_pos c7] at H
                have c7b0 : ((rd l0 x5_1) == (rd l1 x5_1)) = true := beq_iff_eq.mpr c7
                have c7b1 : ((rd l0 x5_1) != (rd l1 x5_1)) = false := bne_eq_false_iff_eq.mpr c7
                clear c7
                have H' := Aside0.mk H
                clear H
                have p230 : 0 ≤ (x5_1 : Int) := of_decide_eq_true (by first | (with_reducible assumption) | assumption)
                have q230 : x5_1 < (l0.length : Int) := of_decide_eq_true (by first | (with_reducible assumption) | assumption)
                obtain ⟨ad230, e230, hx230_0⟩ := Kd.at_int HR0.out x5_1 p230 q230
                cases e230
                replace p230 := eq_true p230
                replace q230 := eq_true q230
                have p231 : 0 ≤ (x5_1 : Int) := of_decide_eq_true (by first | (with_reducible assumption) | assumption)
                have q231 : x5_1 < (l1.length : Int) := of_decide_eq_true (by first | (with_reducible assumption) | assumption)
                obtain ⟨ad231, e231, hx231_0⟩ := Kd.at_int HR1.out x5_1 p231 q231
                cases e231
                replace p231 := eq_true p231
                replace q231 := eq_true q231
                go_wp2
                repeat (go_quiet (fail); try go_wp2)
                go_roundg k1
                case measure => have := HK1.out; omega
                case rel => exact ⟨(wrap64 (x5_1 + 1)), (by first | rfl | (simp; done) | (simp [*]; done)), H', ⟨by have := HK1.out; omega⟩, by repeat (first | exact Drawn0.refl _ | apply Drawn0.step)⟩
              · rw [if_neg c7] at H
                have c7b0 : ((rd l0 x5_1) == (rd l1 x5_1)) = false := beq_eq_false_iff_ne.mpr c7
                have c7b1 : ((rd l0 x5_1) != (rd l1 x5_1)) = true := bne_iff_ne.mpr c7
                obtain rfl := Option.some.inj H
                have p230 : 0 ≤ (x5_1 : Int) := of_decide_eq_true (by first | (with_reducible assumption) | assumption)
                have q230 : x5_1 < (l0.length : Int) := of_decide_eq_true (by first | (with_reducible assumption) | assumption)
                obtain ⟨ad230, e230, hx230_0⟩ := Kd.at_int HR0.out x5_1 p230 q230
                cases e230
                replace p230 := eq_true p230
                replace q230 := eq_true q230
                have p231 : 0 ≤ (x5_1 : Int) := of_decide_eq_true (by first | (with_reducible assumption) | assumption)
                have q231 : x5_1 < (l1.length : Int) := of_decide_eq_true (by first | (with_reducible assumption) | assumption)
                obtain ⟨ad231, e231, hx231_0⟩ := Kd.at_int HR1.out x5_1 p231 q231
                cases e231
                replace p231 := eq_true p231
                replace q231 := eq_true q231
                go_wp2
                repeat (go_quiet (fail); try go_wp2)
                go_ret
                exact ⟨by first | rfl | (simp; done) | (simp [*]; done), by repeat (first | exact Drawn0.refl _ | apply Drawn0.step)⟩
            · rw [if_neg c6] at H
              exact absurd H (by simp)
          · rw [if_neg c5] at H
            exact absurd H (by simp)
        · rw [if_neg c4] at H
          have c4b0 : decide (x5_1 < (l0.length : Int)) = false := decide_eq_false c4
          clear c4
          obtain rfl := Option.some.inj H
          go_wp2
          repeat (go_quiet (fail); try go_wp2)
          go_ret
          exact ⟨by first | rfl | (simp; done) | (simp [*]; done), by repeat (first | exact Drawn0.refl _ | apply Drawn0.step)⟩
  · rw [if_neg c3] at H
    have c3b0 : ((l0.length : Int) == (l1.length : Int)) = false := beq_eq_false_iff_ne.mpr c3
    have c3b1 : ((l0.length : Int) != (l1.length : Int)) = true := bne_iff_ne.mpr c3
    have c3b2 : (l0.length == l1.length) = false := by first | simpa using c3 | (simp at c3 ⊢; omega)
    obtain rfl := Option.some.inj H
    go_enter Tryz.func62, Tryz.ntmps62
    go_wp2
    repeat (go_quiet (fail); try go_wp2)
    go_ret
    exact ⟨by first | rfl | (simp; done) | (simp [*]; done), by repeat (first | exact Drawn0.refl _ | apply Drawn0.step)⟩
end Go.Proofs.YtnfdppkbbfdmnaaGreatDoor.PD

namespace Go.Proofs.YtnfdppkbbfdmnaaGreatDoor.PD
open Go.RowKit Go.Proofs.YtnfdppkbbfdmnaaGreatDoorW.PrintWords Go.Proofs.YtnfdppkbbfdmnaaGreatDoorW.PrintLast Go.Proofs.YtnfdppkbbfdmnaaGreatDoorW.PrintMore
set_option linter.unusedVariables false
set_option linter.unusedSimpArgs false
/-! ### whole numbers: lent lists -/
/-- a slice that reads as a list of whole numbers -/
def LstI (w : World) (v : Value) (l : List Int) : Prop := ∃ A c, v = .slice A l.length c ∧ Kd.C (Kd.int .i64) w A l.length l ∧ l.length ≤ c
theorem LstI.below {w w' : World} {v : Value} {l : List Int} (h : LstI w v l) (hb : Below w.heap.size w w') : LstI w' v l := by
  obtain ⟨A, c, e, hC, hc⟩ := h
  exact ⟨A, c, e, Kd.C_below hC hb, hc⟩
/-- whole numbers with the mark behind them -/
def LentI (w : World) (base : Nat) (v : Value) (l : List Int) : Prop := ∃ A c, v = .slice A l.length c ∧ Kd.R (Kd.int .i64) 2 w base (fun _ => True) (.slice A (l.length + 1) c) (l ++ [7777])
theorem LentI.below {w w' : World} {base : Nat} {v : Value} {l : List Int} (h : LentI w base v l) (hb : Below w.heap.size w w') : LentI w' base v l := by
  obtain ⟨A, c, e, hr⟩ := h
  exact ⟨A, c, e, Kd.R_below hr hb⟩
theorem LentI.full {w : World} {base : Nat} {A : Option Addr} {c : Nat} {l : List Int} (h : Kd.R (Kd.int .i64) 2 w base (fun _ => True) (.slice A (l.length + 1) c) (l ++ [7777])) :
    l.length + 1 ≤ c ∧ Kd.C (Kd.int .i64) w A (l ++ [7777]).length (l ++ [7777]) ∧ Kd.C (Kd.int .i64) w A l.length l := by
  obtain ⟨_, hc, hC⟩ := Kd.R_reads' h
  have hx' := Kd.C_take (m := l.length) hC (by simp)
  rw [List.take_left' rfl] at hx'
  exact ⟨hc, hC, hx'⟩
theorem LentI.lst {w : World} {base : Nat} {v : Value} {l : List Int} (h : LentI w base v l) : LstI w v l := by
  obtain ⟨A, c, e, hr⟩ := h
  obtain ⟨hc, _, hC⟩ := LentI.full hr
  exact ⟨A, c, e, hC, by omega⟩
set_option maxRecDepth 100000 in
set_option maxHeartbeats 4000000 in
theorem LentI_ref {v : Value} (l : List Int) (w : World) (h : LstI w v l) (hl : l.length ≤ 8000000000000) :
    Calls Tryz.prog 8 #[v] w fun e w' => ∃ v', e = .returned v' ∧ LentI w' w.heap.size v' l ∧ Below w.heap.size w w' := by
  obtain ⟨i0, hi0, hz0, hz1, hz2⟩ := info_parts Tryz.info2
  obtain ⟨A, c, rfl, hC, hc⟩ := h
  have HC := Lib.hid hC
  clear hC
  generalize hm : l.length = m at *
  have HL := Lib.hid hm
  clear hm
  go_enter Tryz.func8, Tryz.ntmps8
  go_upto_region 3 with ((with_reducible refine gate_builtin (b := .append) (xs := #[.tmp 4, .tmp 5]) rfl ?_); at_builtin; refine Kd.R_append_rows (Kd.int .i64) (w0 := w) w.heap.size rfl (.tmp 4) (.tmp 5) 22 2 (.int .i64 0) 8 rfl Tryz.underlying22 Tryz.info2 rfl (by decide) (by omega) (.slice none 0 0) ([] : List Int) l _ _ _ (fun _ => True) (fun _ => False) rfl rfl (Kd.R_nil _ _ _ _ (fun _ => True)) HC.out (fun _ _ h => h) (fun _ h => h.elim) (fun _ _ => trivial) (Below.refl _ _) (Nat.le_refl _) (by simp; omega) ?_; intro v4 w2 hO2 hb2 _ _; rw [List.nil_append] at hO2; obtain ⟨A4, c4, hv4⟩ := Kd.R_slice hO2; subst hv4; have HO2 := Lib.hid hO2; have HB2 := Lib.hid hb2; clear hO2 hb2)
  have hle := HB2.out.size
  rw [HL.out]
  go_wp2_with ((with_reducible refine gate_builtin (b := .append) (xs := #[.tmp 7, .tmp 8]) rfl ?_); at_builtin; refine Kd.R_append (Kd.int .i64) (w0 := w) w.heap.size rfl (.tmp 7) (.tmp 8) 22 2 (.int .i64 0) 8 rfl Tryz.underlying22 Tryz.info2 rfl (by decide) (by omega) _ l 7777 [.int .i64 7777] (fun _ => True) (fun _ => False) rfl rfl rfl (fun _ hk => hk.elim) (fun _ _ => trivial) (by have := HO2.out; rw [HL.out] at this; exact this) HB2.out hle (by rw [HL.out]; omega) ?_; intro v5 w5 hO5 hb5 _ _; obtain ⟨A5, c5, hv5⟩ := Kd.R_slice hO5; rw [List.length_append, List.length_singleton, HL.out] at hv5; subst hv5; have hcap := (Kd.R_reads' hO5).2.1; have HO5 := Lib.hid hO5; have HB5 := Lib.hid hb5; clear hO5 hb5; have hcut := fun W => cut_cap (P := Tryz.prog) 22 2 .i64 Tryz.underlying22 hi0 A5 (m + 1) c5 (m : Nat) (by omega) (by omega) W; simp only [Int.toNat_natCast] at hcut)
  go_ret
  refine ⟨_, rfl, ⟨A5, c5, by rw [HL.out]; rfl, ?_⟩, HB5.out⟩
  rw [HL.out]
  exact HO5.out
theorem rd_snoc (l : List Int) (d : Int) : rd (l ++ [d]) l.length = d := by
  unfold rd
  rw [Int.toNat_natCast, List.getD_eq_getElem?_getD, List.getElem?_append_right (Nat.le_refl _), Nat.sub_self]
  rfl
theorem same_l0 (l : List Int) (hl : l.length < 4611686018427387904) : ∀ (d i : Nat), l.length = i + d → jigsawref01_Same.l0 (d + 1) l l (i : Int) = some true
  | 0, i, hd => by rw [jigsawref01_Same.l0, if_neg (by omega)]
  | d + 1, i, hd => by
    rw [jigsawref01_Same.l0]
    rw [if_pos (by omega), if_pos (by omega), if_pos (by omega), if_pos rfl]
    rw [show wrap64 ((i : Int) + 1) = ((i + 1 : Nat) : Int) from IntWalk.wrap64_in _ (by omega)]
    exact same_l0 l hl d (i + 1) (by omega)
theorem same_f (l : List Int) (hl : l.length < 4611686018427387904) : jigsawref01_Same.f (l.length + 1) l l = some true := by
  unfold jigsawref01_Same.f
  rw [if_pos rfl]
  exact same_l0 l hl l.length 0 (by omega)
set_option maxRecDepth 100000 in
set_option maxHeartbeats 4000000 in
theorem KeptI_ref {v v1 : Value} {base : Nat} (l : List Int) (w : World) (hx : LentI w base v l) (h1 : LstI w v1 l) (hl : l.length ≤ 8000000000000) :
    Calls Tryz.prog 20 #[v, v1] w fun e w' => e = .returned (.bool true) ∧ Below w.heap.size w w' := by
  obtain ⟨A, c, rfl, hrow⟩ := hx
  obtain ⟨A1, c1, rfl, hr1, hc1⟩ := h1
  obtain ⟨hc, hx, hx'⟩ := LentI.full hrow
  obtain ⟨ad, eA, hcell⟩ := Kd.at_int hx (l.length : Int) (by omega) (by simp; omega)
  rw [rd_snoc, Int.toNat_natCast] at hcell
  subst eA
  obtain ⟨i0, hi0, _, _, _⟩ := info_parts Tryz.info2
  have hcut := cut_cap (P := Tryz.prog) 22 2 .i64 Tryz.underlying22 hi0 (some ad) l.length c ((l.length : Int) + 1) (by omega) (by omega)
  have e1 : ((l.length : Int) + 1).toNat = l.length + 1 := by omega
  rw [e1] at hcut
  have hw : IntKind.i64.wrap ((l.length : Int) + 1) = (l.length : Int) + 1 := IntWalk.i64_in _ (by omega)
  have HS := Lib.hid (jigsawref01_Same.calls _ _ c l _ c1 l true w hx' (by omega) hr1 hc1 (same_f l (by omega)))
  clear hx hx' hr1 e1 hrow
  go_enter Tryz.func20, Tryz.ntmps20
  go_wp2_with fail
  refine HS.out.mono ?_
  rintro e w' ⟨rfl, ⟨nd, rfl⟩⟩
  go_wp2_with fail
  go_ret
  exact ⟨rfl, Drawn0.below ⟨⟨_, rfl⟩⟩⟩

end Go.Proofs.YtnfdppkbbfdmnaaGreatDoor.PD

namespace Go.Proofs.YtnfdppkbbfdmnaaGreatDoor.PD
open Go.RowKit Go.Proofs.YtnfdppkbbfdmnaaGreatDoorW.PrintWords Go.Proofs.YtnfdppkbbfdmnaaGreatDoorW.PrintLast Go.Proofs.YtnfdppkbbfdmnaaGreatDoorW.PrintMore
attribute [local go_sem] max2_int min2_int max_two min_two max_three min_three max_four min_four   -- for this text's walks alone
set_option linter.unusedVariables false
set_option linter.unusedSimpArgs false

attribute [local go_sem high] eqA57
/-! ### jigsawref02_Of: function 11 -/
def jigsawref02_Of.l0 : Nat → List Int → List (S57) → Int → Option ((List (S57)) × Int)
  | 0, _, _, _ => none
  | k + 1, x0, x4, x5 => if x5 < (x0.length : Int) then (if 0 ≤ x5 then (if x4.length < 8796093022208 then (jigsawref02_Of.l0 k x0 (x4 ++ [(⟨rd x0 x5, rd x0 x5⟩ : S57)]) (wrap64 (x5 + 1))) else (none)) else (none)) else ((jigsawref02_Norm.f k x4).bind fun bt199 => (some (bt199.1, bt199.2)))
def jigsawref02_Of.f (k : Nat) (l0 : List Int) : Option ((List (S57)) × Int) := jigsawref02_Of.l0 k l0 ([] : List (S57)) 0
theorem jigsawref02_Of.mono_l : ∀ k, (∀ y0 y1 y2, LeO (jigsawref02_Of.l0 k y0 y1 y2) (jigsawref02_Of.l0 (k + 1) y0 y1 y2))
  | 0 => fun _ _ _ r h => by simp [jigsawref02_Of.l0] at h
  | k + 1 => by
    have ih0 := jigsawref02_Of.mono_l k
    · intro y0 y1 y2
      unfold jigsawref02_Of.l0
      repeat' first
      | (with_reducible exact ih0 _ _ _)
      | (with_reducible exact jigsawref02_Norm.mono _ _)
      | (with_reducible exact LeO.refl _)
      | (with_reducible exact LeO.none _)
      | (with_reducible refine LeO.ite ?_ ?_)
      | (with_reducible refine LeO.bind ?_ (fun _ => ?_))
      | exact ih0 _ _ _
      | exact jigsawref02_Norm.mono _ _
      | exact LeO.none _
      | refine LeO.ite ?_ ?_
      | refine LeO.bind ?_ (fun _ => ?_)
theorem jigsawref02_Of.mono : ∀ a0 k, LeO (jigsawref02_Of.f k a0) (jigsawref02_Of.f (k + 1) a0) := by
  intro a0 k
  have ih0 := jigsawref02_Of.mono_l k
  unfold jigsawref02_Of.f
  repeat' first
      | (with_reducible exact ih0 _ _ _)
      | (with_reducible exact jigsawref02_Norm.mono _ _)
      | (with_reducible exact LeO.refl _)
      | (with_reducible exact LeO.none _)
      | (with_reducible refine LeO.ite ?_ ?_)
      | (with_reducible refine LeO.bind ?_ (fun _ => ?_))
      | exact ih0 _ _ _
      | exact jigsawref02_Norm.mono _ _
      | exact LeO.none _
      | refine LeO.ite ?_ ?_
      | refine LeO.bind ?_ (fun _ => ?_)
def jigsawref02_Of.T5 : Bool × List (List Nat × List Nat) := (true, [([], []), ([], []), ([], []), ([1, 2], [1, 2]), ([3], [3]), ([], []), ([], []), ([5, 6], [5, 6]), ([7], [7]), ([4, 8], [4, 8]), ([9], [9]), ([0, 10], [0, 10]), ([11, 11, 0, 1, 2, 3, 4, 5, 6, 7, 8, 9, 10, 11], [0, 11])])
def jigsawref02_Of.B5 : List Nat := [0, 0, 0, 6, 14, 0, 0, 96, 224, 510, 1022, 2047, 4095]
theorem jigsawref02_Of.tab5 : rtab .any (opsOf Tryz.f11 5) = jigsawref02_Of.T5 := by kernel_rfl
theorem jigsawref02_Of.bits5 : waitsOk jigsawref02_Of.T5.2 jigsawref02_Of.B5 = true := by kernel_rfl
set_option maxHeartbeats 8000000 in
set_option maxRecDepth 100000 in
theorem jigsawref02_Of.calls (k : Nat) (A0 : Option Addr) (c0 : Nat) (l0 : List Int) (r1 : List (S57)) (r2 : Int) (w : World) (hr0 : Kd.C (Kd.int .i64) w A0 l0.length l0) (hc0 : l0.length ≤ c0) (h : jigsawref02_Of.f k l0 = some (r1, r2)) :
    Calls Tryz.prog 11 #[.slice A0 l0.length c0] w fun e w' => ∃ v0_ : Value, e = .returned (.tuple #[v0_, .int .i64 r2]) ∧ Kd.R k57 57 w' w.heap.size (fun _ => True) v0_ r1 ∧ Below w.heap.size w w' := by
  have hu57 := Tryz.underlying57
  have HR0 := Aside0.mk hr0
  have HC0 := Aside0.mk hc0
  clear hr0 hc0
  have HB := Aside0.mk (Below.refl w.heap.size w)
  have H : (jigsawref02_Of.l0 k l0 ([] : List (S57)) 0) = some (r1, r2) := h
  clear h
  have H' := Aside0.mk H
  clear H
  go_enter Tryz.func11, Tryz.ntmps11
  go_wp2
  go_loopg [4, 5] k (fun kq v4 v5 w' => ∃ (x4_1 : List (S57)) (x5_1 : Int), v5 = .int .i64 x5_1 ∧ Aside0 (jigsawref02_Of.l0 kq l0 x4_1 x5_1 = some (r1, r2)) ∧ Aside0 (kq ≤ k) ∧ Aside0 (Kd.R k57 57 w' w.heap.size (fun _ => True) v4 x4_1) ∧ Aside0 (Below w.heap.size w w'))
  case atStart => exact ⟨(([] : List (S57))), (0), (by first | rfl | (simp; done) | (simp [*]; done)), H', ⟨Nat.le_refl _⟩, ⟨by first | exact Kd.R_nil _ _ _ _ _ | exact Kd.N_nil _ _ _ _ _ | exact Kd.V_nil _ _ _ _ _ | exact Kd.Q_nil _ _ _ _ _ | exact Kd.S_nil _ _ _ _ _⟩, ⟨by repeat (first | (with_reducible first | exact HB.out | apply below_alloc | apply pw_below_drewN | apply below_drew1) | exact HB.out)⟩⟩
  case round =>
    clear H'
    try clear c1
    obtain ⟨x4_1, x5_1, rfl, HA, HK1, HO_4, HB⟩ := hrel
    cases gk with
    | zero => exact absurd HA.out (by simp [jigsawref02_Of.l0])
    | succ k1 =>
      have H := HA.out
      clear HA
      simp only [jigsawref02_Of.l0] at H
      by_cases c2 : x5_1 < (l0.length : Int)
      · rw [if_pos c2] at H
        have c2b0 : decide (x5_1 < (l0.length : Int)) = true := decide_eq_true c2
        clear c2
        by_cases c3 : 0 ≤ x5_1
        · rw [if_pos c3] at H
          have c3b0 : decide (0 ≤ x5_1) = true := decide_eq_true c3
          clear c3
          by_cases c4 : x4_1.length < 8796093022208
          · rw [if_pos c4] at H
            have LMc4 := Aside0.mk c4
            clear c4
            obtain ⟨y196, hy196⟩ : ∃ y_ : List (S57), y_ = (x4_1 ++ [(⟨rd l0 x5_1, rd l0 x5_1⟩ : S57)]) := ⟨_, rfl⟩
            replace H : (jigsawref02_Of.l0 k1 l0 y196 (wrap64 (x5_1 + 1))) = some (r1, r2) := by first | (rw [hy196]; with_reducible exact H) | (have H2_ := (Option.bind_some _ _).symm.trans H; rw [hy196]; with_reducible exact H2_) | (have H2_ := (Option.bind_some _ _).symm.trans H; with_reducible exact H2_) | with_reducible exact H | (rw [hy196]; exact H) | exact H
            have Ny196 := Aside0.mk hy196
            clear hy196
            have H' := Aside0.mk H
            clear H
            try go_wp2
            have n0_ := Aside0.mk (Kd.R_drew HO_4.out)
            have n1_ := Aside0.mk (below_drew1 HB.out)
            clear HO_4
            clear HB
            have HO_4 := n0_
            have HB := n1_
            clear n0_ n1_
            have p194 : 0 ≤ (x5_1 : Int) := of_decide_eq_true (by first | (with_reducible assumption) | assumption)
            have q194 : x5_1 < (l0.length : Int) := of_decide_eq_true (by first | (with_reducible assumption) | assumption)
            obtain ⟨ad194, e194, hx194_0⟩ := Kd.at_int HR0.out x5_1 p194 q194
            have hw194_0 := hx194_0
            cases e194
            replace hx194_0 := (HB.out.cell (World.block_lt_of_cell? w _ hx194_0)).trans hx194_0
            replace p194 := eq_true p194
            replace q194 := eq_true q194
            have p195 : 0 ≤ (x5_1 : Int) := of_decide_eq_true (by first | (with_reducible assumption) | assumption)
            have q195 : x5_1 < (l0.length : Int) := of_decide_eq_true (by first | (with_reducible assumption) | assumption)
            obtain ⟨ad195, e195, hx195_0⟩ := Kd.at_int HR0.out x5_1 p195 q195
            have hw195_0 := hx195_0
            obtain rfl : ad194 = ad195 := (by injection e195)
            replace hx195_0 := (HB.out.cell (World.block_lt_of_cell? w _ hx195_0)).trans hx195_0
            replace p195 := eq_true p195
            replace q195 := eq_true q195
            refine start_ (n := 13) (S := fun w' => w'.cell? (ad194.add (x5_1).toNat) = some (.int .i64 (rd l0 x5_1)) ∧ w'.cell? (ad194.add (x5_1).toNat) = some (.int .i64 (rd l0 x5_1))) (ds := []) #[false, false, false, false, false, false, false, false, false, false, false, false, false] (by kernel_rfl) rfl rfl ⟨((HB.out.cell (World.block_lt_of_cell? w _ hw194_0)).trans hw194_0), ((HB.out.cell (World.block_lt_of_cell? w _ hw195_0)).trans hw195_0)⟩ (fun hHeld => ?_); refine with_tabW jigsawref02_Of.tab5 jigsawref02_Of.bits5 (fun HT_ HW_ => ?_)
            generalize wr.drew = w5 at HO_4 HB hx194_0 hx195_0 hHeld ⊢
            refine pure_ (i := 0) (N := some 12) (v := ?_) (a' := ?_) #[true, false, false, false, false, false, false, false, false, false, false, false, false] rfl rfl (any_of HT_.out (by kernel_rfl)) (fun _ _ _ h => h) (Or.inl ⟨by rfl, ?_⟩) ?_ ?_
            rotate_left
            · intro w'
              go_simp
              with_reducible rfl
            rotate_left
            · simp only [Act.put, List.setIfInBounds_toArray, List.set_cons_zero, List.set_cons_succ, i64_w, i32_w]
              rfl
            refine pure_ (i := 1) (N := some 13) (v := ?_) (a' := ?_) #[true, true, false, false, false, false, false, false, false, false, false, false, false] rfl rfl (any_of HT_.out (by kernel_rfl)) (fun _ _ _ h => h) (Or.inl ⟨by rfl, ?_⟩) ?_ ?_
            rotate_left
            · intro w'
              go_simp
              with_reducible rfl
            rotate_left
            · simp only [Act.put, List.setIfInBounds_toArray, List.set_cons_zero, List.set_cons_succ, i64_w, i32_w]
              rfl
            refine pure_ (i := 2) (N := some 14) (v := ?_) (a' := ?_) #[true, true, true, false, false, false, false, false, false, false, false, false, false] rfl rfl (any_of HT_.out (by kernel_rfl)) (fun _ _ _ h => h) (Or.inl ⟨by rfl, ?_⟩) ?_ ?_
            rotate_left
            · intro w'
              go_simp
              with_reducible rfl
            rotate_left
            · simp only [Act.put, List.setIfInBounds_toArray, List.set_cons_zero, List.set_cons_succ, i64_w, i32_w]
              rfl
            refine pure_ (i := 3) (N := some 15) (v := ?_) (a' := ?_) #[true, true, true, true, false, false, false, false, false, false, false, false, false] rfl rfl (any_of HT_.out (by kernel_rfl)) (fun _ _ _ h => h) (Or.inl ⟨by rfl, ?_⟩) ?_ ?_
            rotate_left
            · intro w'
              go_simp
              with_reducible rfl
            rotate_left
            · simp only [Act.put, List.setIfInBounds_toArray, List.set_cons_zero, List.set_cons_succ, i64_w, i32_w]
              rfl
            refine pure_ (i := 5) (N := some 17) (v := ?_) (a' := ?_) #[true, true, true, true, false, true, false, false, false, false, false, false, false] rfl rfl (any_of HT_.out (by kernel_rfl)) (fun _ _ _ h => h) (Or.inl ⟨by rfl, ?_⟩) ?_ ?_
            rotate_left
            · intro w'
              go_simp
              with_reducible rfl
            rotate_left
            · simp only [Act.put, List.setIfInBounds_toArray, List.set_cons_zero, List.set_cons_succ, i64_w, i32_w]
              rfl
            refine pure_ (i := 6) (N := some 18) (v := ?_) (a' := ?_) #[true, true, true, true, false, true, true, false, false, false, false, false, false] rfl rfl (any_of HT_.out (by kernel_rfl)) (fun _ _ _ h => h) (Or.inl ⟨by rfl, ?_⟩) ?_ ?_
            rotate_left
            · intro w'
              go_simp
              with_reducible rfl
            rotate_left
            · simp only [Act.put, List.setIfInBounds_toArray, List.set_cons_zero, List.set_cons_succ, i64_w, i32_w]
              rfl
            refine pure_ (i := 7) (N := some 19) (v := ?_) (a' := ?_) #[true, true, true, true, false, true, true, true, false, false, false, false, false] rfl rfl (any_of HT_.out (by kernel_rfl)) (fun _ _ _ h => h) (Or.inl ⟨by rfl, ?_⟩) ?_ ?_
            rotate_left
            · intro w'
              go_simp
              with_reducible rfl
            rotate_left
            · simp only [Act.put, List.setIfInBounds_toArray, List.set_cons_zero, List.set_cons_succ, i64_w, i32_w]
              rfl
            refine take_ (i := 4) (N := some 16) (v := ?_) (a' := ?_) #[true, true, true, true, true, true, true, true, false, false, false, false, false] rfl rfl (take_ofW HT_.out HW_.out (by kernel_rfl)) (fun _ _ _ h => h) (Or.inl ⟨by rfl, ?_⟩) hHeld ?_ ?_
            rotate_left
            · rintro w' ⟨s0, s1⟩
              go_simp
              with_reducible rfl
            rotate_left
            · simp only [Act.put, List.setIfInBounds_toArray, List.set_cons_zero, List.set_cons_succ, i64_w, i32_w]
              rfl
            refine take_ (i := 8) (N := some 20) (v := ?_) (a' := ?_) #[true, true, true, true, true, true, true, true, true, false, false, false, false] rfl rfl (take_ofW HT_.out HW_.out (by kernel_rfl)) (fun _ _ _ h => h) (Or.inl ⟨by rfl, ?_⟩) hHeld ?_ ?_
            rotate_left
            · rintro w' ⟨s0, s1⟩
              go_simp
              with_reducible rfl
            rotate_left
            · simp only [Act.put, List.setIfInBounds_toArray, List.set_cons_zero, List.set_cons_succ, i64_w, i32_w]
              rfl
            refine pure_ (i := 9) (N := some 21) (v := ?_) (a' := ?_) #[true, true, true, true, true, true, true, true, true, true, false, false, false] rfl rfl (any_of HT_.out (by kernel_rfl)) (fun _ _ _ h => h) (Or.inl ⟨by rfl, ?_⟩) ?_ ?_
            rotate_left
            · intro w'
              go_simp
              with_reducible rfl
            rotate_left
            · simp only [Act.put, List.setIfInBounds_toArray, List.set_cons_zero, List.set_cons_succ, i64_w, i32_w]
              rfl
            refine one_ (i := 10) (N := some 22) #[true, true, true, true, true, true, true, true, true, true, true, false, false] rfl rfl (one_of HT_.out (by kernel_rfl)) (by decide) (fun K hK => ?_)
            refine value_ (w1 := ?_) (v := ?_) (by rfl) rfl ?_ ?_
            rotate_left 2
            · go_simp
              constructor
              · rfl
              · rfl
            refine hK.out _ _ ⟨(World.cell?_alloc_lt _ _ _ (World.block_lt_of_cell? _ _ (((HB.out.cell (World.block_lt_of_cell? w _ hw194_0)).trans hw194_0)))).trans (((HB.out.cell (World.block_lt_of_cell? w _ hw194_0)).trans hw194_0)), (World.cell?_alloc_lt _ _ _ (World.block_lt_of_cell? _ _ (((HB.out.cell (World.block_lt_of_cell? w _ hw195_0)).trans hw195_0)))).trans (((HB.out.cell (World.block_lt_of_cell? w _ hw195_0)).trans hw195_0))⟩ (fun hHeld => ?_)
            clear hK K
            refine norm_ (a' := ?_) ?_ ?_
            rotate_left
            · show Act.put _ (some 22) _ = _
              simp only [Act.put, List.setIfInBounds_toArray, List.set_cons_zero, List.set_cons_succ, i64_w, i32_w]
              rfl
            refine one_ (i := 11) (N := some 23) #[true, true, true, true, true, true, true, true, true, true, true, true, false] rfl rfl (one_of HT_.out (by kernel_rfl)) (by decide) (fun K hK => ?_)
            refine Kd.R_append_step k57 (w0 := w) w.heap.size (by rfl) (.tmp 12) (.tmp 22) 23 57 (.agg #[(.int .i64 0), (.int .i64 0)]) 16 rfl Tryz.underlying23 info57 rfl (by decide) (by omega) u4 x4_1 (⟨rd l0 x5_1, rd l0 x5_1⟩ : S57) [.int .i64 (rd l0 x5_1), .int .i64 (rd l0 x5_1)] (fun _ => True) (fun _ => False) rfl rfl ?aP (fun _ hk => hk.elim) ?aF ?aO ?aB ?aS ?aL ?_
            (case aP => exact k57_mkM _ _ _ (⟨rd l0 x5_1, rd l0 x5_1⟩ : S57))
            (case aB => exact (by repeat (first | (with_reducible first | exact HB.out | apply below_alloc | apply pw_below_drewN | apply below_drew1) | exact HB.out)))
            (case aF => exact (fun _ _ => trivial))
            (case aO => exact (by (with_reducible repeat (first | apply Kd.R_alloc | apply Kd.R_drewN | apply Kd.R_drew)); exact HO_4.out))
            (case aS => exact (below_size (by repeat (first | (with_reducible first | exact HB.out | apply below_alloc | apply pw_below_drewN | apply below_drew1) | exact HB.out))))
            (case aL => have := LMc4.out; omega)
            intro v197 w6 ho hb hg hat
            rw [← Ny196.out] at ho
            have n0_ := Aside0.mk (hb)
            have n1_ := Aside0.mk (ho)
            clear HB
            clear HO_4
            have HB := n0_
            have HO198 := n1_
            clear n0_ n1_
            clear ho hb hg hat
            refine hK.out _ _ ⟨((HB.out.cell (World.block_lt_of_cell? w _ hw194_0)).trans hw194_0), ((HB.out.cell (World.block_lt_of_cell? w _ hw195_0)).trans hw195_0)⟩ (fun hHeld => ?_)
            clear hK K
            refine norm_ (a' := ?_) ?_ ?_
            rotate_left
            · show Act.put _ (some 23) _ = _
              simp only [Act.put, List.setIfInBounds_toArray, List.set_cons_zero, List.set_cons_succ, i64_w, i32_w]
              rfl
            refine pure_ (i := 12) (N := some 4) (v := ?_) (a' := ?_) #[true, true, true, true, true, true, true, true, true, true, true, true, true] rfl rfl (any_of HT_.out (by kernel_rfl)) (fun _ _ _ h => h) (Or.inl ⟨by rfl, ?_⟩) ?_ ?_
            rotate_left
            · intro w'
              go_simp
              with_reducible rfl
            rotate_left
            · simp only [Act.put, List.setIfInBounds_toArray, List.set_cons_zero, List.set_cons_succ, i64_w, i32_w]
              rfl
            refine done_ (done_of HT_.out (by kernel_rfl)) ?_
            try go_wp2
            go_roundg k1
            case measure => have := HK1.out; omega
            case rel => exact ⟨(y196), (wrap64 (x5_1 + 1)), (by first | rfl | (simp; done) | (simp [*]; done)), H', ⟨by have := HK1.out; omega⟩, ⟨by (with_reducible repeat (first | apply Kd.R_alloc | apply Kd.R_drewN | apply Kd.R_drew)); exact HO198.out⟩, ⟨by repeat (first | (with_reducible first | exact HB.out | apply below_alloc | apply pw_below_drewN | apply below_drew1) | exact HB.out)⟩⟩
          · rw [if_neg c4] at H
            exact absurd H (by simp)
        · rw [if_neg c3] at H
          exact absurd H (by simp)
      · rw [if_neg c2] at H
        have c2b0 : decide (x5_1 < (l0.length : Int)) = false := decide_eq_false c2
        clear c2
        replace H := Option.bind_eq_some_iff.mp H
        obtain ⟨⟨t199, t200⟩, A70, H⟩ := H
        replace H : (some (t199, t200)) = some (r1, r2) := H
        have A7 := Aside0.mk A70
        clear A70
        simp only [Option.some.injEq, Prod.mk.injEq] at H
        obtain ⟨rfl, rfl⟩ := H
        obtain ⟨Ao8, co8, eo8⟩ := Kd.R_slice HO_4.out
        subst eo8
        go_wp2_with (first | ((with_reducible refine gate_callee (f := 13) rfl ?_); refine goesL_ (some 25) rfl rfl Tryz.func13 (by kernel_rfl) rfl #[.slice Ao8 x4_1.length co8] rfl (by (try simp only [List.map_toArray, List.map_cons, List.map_nil]); first | done | rfl | (simp only [List.length_drop, List.length_take]; rfl)) ?_; (with_reducible refine (jigsawref02_Norm.calls k1 _ _ x4_1 t199 t200 _ ?side1 ?side2 A7.out).mono ?_); (case side1 => repeat (first | exact (Kd.R_reads' HO_4.out).2.2 | (with_reducible refine Kd.C_alloc ?_ _) | (with_reducible refine Kd.C_drewN ?_ _) | (with_reducible refine Kd.C_drew ?_))); (case side2 => exact (Kd.R_reads' HO_4.out).2.1); rintro e w9 ⟨v201, rfl, ho0, hb⟩; refine ⟨_, rfl, ?_⟩; have n0_ := Aside0.mk (Kd.R_elder' (by (with_reducible repeat (first | apply Kd.R_alloc | apply Kd.R_drewN | apply Kd.R_drew)); exact HO_4.out) (Kd.R_base ho0) hb); have n1_ := Aside0.mk (Kd.R_lower (Kd.R_new' ho0 (Kd.R_lt (by (with_reducible repeat (first | apply Kd.R_alloc | apply Kd.R_drewN | apply Kd.R_drew)); exact HO_4.out))) (below_size (by repeat (first | (with_reducible first | exact HB.out | apply below_alloc | apply pw_below_drewN | apply below_drew1) | exact HB.out)))); have n2_ := Aside0.mk (below_step (by repeat (first | (with_reducible first | exact HB.out | apply below_alloc | apply pw_below_drewN | apply below_drew1) | exact HB.out)) hb); clear HO_4; clear HB; have HO_4 := n0_; have HO202 := n1_; have HB := n2_; clear n0_ n1_ n2_; (try clear hb); (try clear hb2); (try clear hk); (try clear hi); (try clear ho0)))
        go_ret2
        exact ⟨_, by first | rfl | (simp [errW_none, errW_some] <;> rfl) | (simp [*, errW_none, errW_some] <;> rfl), by (with_reducible repeat (first | apply Kd.R_alloc | apply Kd.R_drewN | apply Kd.R_drew)); exact Kd.R_mono HO202.out (fun _ hk => trivial), by repeat (first | (with_reducible first | exact HB.out | apply below_alloc | apply pw_below_drewN | apply below_drew1) | exact HB.out)⟩
end Go.Proofs.YtnfdppkbbfdmnaaGreatDoor.PD

namespace Go.Proofs.YtnfdppkbbfdmnaaGreatDoor.PD
open Go.RowKit Go.Proofs.YtnfdppkbbfdmnaaGreatDoorW.PrintWords Go.Proofs.YtnfdppkbbfdmnaaGreatDoorW.PrintLast Go.Proofs.YtnfdppkbbfdmnaaGreatDoorW.PrintMore
attribute [local go_sem] max2_int min2_int max_two min_two max_three min_three max_four min_four   -- for this text's walks alone
set_option linter.unusedVariables false
set_option linter.unusedSimpArgs false

attribute [local go_sem high] eqA57
/-! ### jigsawref02_Span: function 15 -/
def jigsawref02_Span.j0 : Nat → Int → Int → Bool → Option ((List (S57)) × Int)
  | 0, _, _, _ => none
  | k + 1, x0, x1, x13 => if x13 = true then (some (([] : List (S57)), 20)) else (if x0 > x1 then (some (([] : List (S57)), 0)) else (some ((([(⟨x0, x1⟩ : S57)] : List (S57))), 0)))
def jigsawref02_Span.f (k : Nat) (a0 : Int) (a1 : Int) : Option ((List (S57)) × Int) := (jigsawref02_in.f a0).bind fun t208 => (if t208 = true then ((jigsawref02_in.f a1).bind fun t209 => (jigsawref02_Span.j0 k a0 a1 (!t209))) else (jigsawref02_Span.j0 k a0 a1 true))
theorem jigsawref02_Span.mono_l : ∀ k, (∀ y0 y1 y2, LeO (jigsawref02_Span.j0 k y0 y1 y2) (jigsawref02_Span.j0 (k + 1) y0 y1 y2))
  | 0 => fun _ _ _ r h => by simp [jigsawref02_Span.j0] at h
  | k + 1 => by
    have ih0 := jigsawref02_Span.mono_l k
    · intro y0 y1 y2
      unfold jigsawref02_Span.j0
      repeat' first
      | (with_reducible exact ih0 _ _ _)
      | (with_reducible exact LeO.refl _)
      | (with_reducible exact LeO.none _)
      | (with_reducible refine LeO.ite ?_ ?_)
      | (with_reducible refine LeO.bind ?_ (fun _ => ?_))
      | exact ih0 _ _ _
      | exact LeO.none _
      | refine LeO.ite ?_ ?_
      | refine LeO.bind ?_ (fun _ => ?_)
theorem jigsawref02_Span.mono : ∀ a0 a1 k, LeO (jigsawref02_Span.f k a0 a1) (jigsawref02_Span.f (k + 1) a0 a1) := by
  intro a0 a1 k
  have ih0 := jigsawref02_Span.mono_l k
  unfold jigsawref02_Span.f
  repeat' first
      | (with_reducible exact ih0 _ _ _)
      | (with_reducible exact LeO.refl _)
      | (with_reducible exact LeO.none _)
      | (with_reducible refine LeO.ite ?_ ?_)
      | (with_reducible refine LeO.bind ?_ (fun _ => ?_))
      | exact ih0 _ _ _
      | exact LeO.none _
      | refine LeO.ite ?_ ?_
      | refine LeO.bind ?_ (fun _ => ?_)
set_option maxHeartbeats 8000000 in
set_option maxRecDepth 100000 in
theorem jigsawref02_Span.calls (k : Nat) (a0 : Int) (a1 : Int) (r1 : List (S57)) (r2 : Int) (w : World) (h : jigsawref02_Span.f k a0 a1 = some (r1, r2)) :
    Calls Tryz.prog 15 #[.int .i64 a0, .int .i64 a1] w fun e w' => ∃ v0_ : Value, e = .returned (.tuple #[v0_, .int .i64 r2]) ∧ Kd.R k57 57 w' w.heap.size (fun _ => True) v0_ r1 ∧ Below w.heap.size w w' := by
  have hu57 := Tryz.underlying57
  have HB := Aside0.mk (Below.refl w.heap.size w)
  have H : ((jigsawref02_in.f a0).bind fun t208 => (if t208 = true then ((jigsawref02_in.f a1).bind fun t209 => (jigsawref02_Span.j0 k a0 a1 (!t209))) else (jigsawref02_Span.j0 k a0 a1 true))) = some (r1, r2) := h
  clear h
  have HC3 := Aside0.mk H
  clear H
  go_enter Tryz.func15, Tryz.ntmps15
  go_upto_region 1 with (fail)
  go_cut [13] (fun v13 wc => ∃ (kq : Nat) (x13_2 : Bool), v13 = .bool x13_2 ∧ Aside0 (jigsawref02_Span.j0 kq a0 a1 x13_2 = some (r1, r2)) ∧ Aside0 (kq ≤ k) ∧ Aside0 (Below w.heap.size w wc))
  case first =>
    have H := HC3.out
    clear HC3
    replace H := Option.bind_eq_some_iff.mp H
    obtain ⟨t208, A40, H⟩ := H
    replace H : (if t208 = true then ((jigsawref02_in.f a1).bind fun t209 => (jigsawref02_Span.j0 k a0 a1 (!t209))) else (jigsawref02_Span.j0 k a0 a1 true)) = some (r1, r2) := H
    have A4 := Aside0.mk A40
    clear A40
    by_cases c5 : t208 = true
    · subst c5
      have H1 : ((jigsawref02_in.f a1).bind fun t209 => (jigsawref02_Span.j0 k a0 a1 (!t209))) = some (r1, r2) := by rw [if_pos rfl] at H; exact H
      clear H
      have H := H1
      clear H1
      replace H := Option.bind_eq_some_iff.mp H
      obtain ⟨t209, A60, H⟩ := H
      replace H : (jigsawref02_Span.j0 k a0 a1 (!t209)) = some (r1, r2) := H
      have A6 := Aside0.mk A60
      clear A60
      have H' := Aside0.mk H
      clear H
      go_wp2_with (first | ((with_reducible refine gate_callee (f := 60) rfl ?_); refine goesL_ (some 7) rfl rfl Tryz.func60 (by kernel_rfl) rfl #[.int .i64 a0] rfl (by (try simp only [List.map_toArray, List.map_cons, List.map_nil]); first | done | rfl | (simp only [List.length_drop, List.length_take]; rfl)) ?_; (with_reducible refine (jigsawref02_in.calls a0 true _ A4.out).mono ?_); rintro e w' ⟨rfl, ⟨nd, rfl⟩⟩; refine ⟨_, rfl, ?_⟩) | (go_at_call 60; (with_reducible refine (jigsawref02_in.calls a1 t209 _ A6.out).mono ?_); rintro e w' ⟨rfl, ⟨nd, rfl⟩⟩))
      go_meet
      case rel => exact ⟨_, (!t209), (by first | rfl | (simp; done) | (simp [*]; done)), H', ⟨by first | omega | exact Nat.le_refl _⟩, ⟨by repeat (first | (with_reducible first | exact HB.out | apply below_alloc | apply pw_below_drewN | apply below_drew1) | exact HB.out)⟩⟩
    · replace c5 := Bool.eq_false_iff.mpr c5
      subst c5
      have H1 : (jigsawref02_Span.j0 k a0 a1 true) = some (r1, r2) := by rw [if_neg (show ¬ (false = true) by decide)] at H; exact H
      clear H
      have H := H1
      clear H1
      have H' := Aside0.mk H
      clear H
      go_wp2_with (first | ((with_reducible refine gate_callee (f := 60) rfl ?_); refine goesL_ (some 7) rfl rfl Tryz.func60 (by kernel_rfl) rfl #[.int .i64 a0] rfl (by (try simp only [List.map_toArray, List.map_cons, List.map_nil]); first | done | rfl | (simp only [List.length_drop, List.length_take]; rfl)) ?_; (with_reducible refine (jigsawref02_in.calls a0 false _ A4.out).mono ?_); rintro e w' ⟨rfl, ⟨nd, rfl⟩⟩; refine ⟨_, rfl, ?_⟩))
      go_meet
      case rel => exact ⟨_, (true), (by first | rfl | (simp; done) | (simp [*]; done)), H', ⟨by first | omega | exact Nat.le_refl _⟩, ⟨by repeat (first | (with_reducible first | exact HB.out | apply below_alloc | apply pw_below_drewN | apply below_drew1) | exact HB.out)⟩⟩
  case rest =>
    clear HC3
    try clear c1
    try clear p2
    try clear c5
    try clear c6
    obtain ⟨kq, x13_2, rfl, HA, HJ2, HB⟩ := hcut
    cases kq with
    | zero => exact absurd HA.out (by simp [jigsawref02_Span.j0])
    | succ kj2 =>
      have H := HA.out
      clear HA
      simp only [jigsawref02_Span.j0] at H
      by_cases c7 : x13_2 = true
      · subst c7
        have H1 : (some (([] : List (S57)), 20)) = some (r1, r2) := by rw [if_pos rfl] at H; exact H
        clear H
        have H := H1
        clear H1
        simp only [Option.some.injEq, Prod.mk.injEq] at H
        obtain ⟨rfl, rfl⟩ := H
        go_wp2
        go_ret2
        exact ⟨_, by first | rfl | (simp [errW_none, errW_some] <;> rfl) | (simp [*, errW_none, errW_some] <;> rfl), by first | exact Kd.R_nil _ _ _ _ _ | exact Kd.N_nil _ _ _ _ _ | exact Kd.V_nil _ _ _ _ _ | exact Kd.Q_nil _ _ _ _ _ | exact Kd.S_nil _ _ _ _ _, by repeat (first | (with_reducible first | exact HB.out | apply below_alloc | apply pw_below_drewN | apply below_drew1) | exact HB.out)⟩
      · replace c7 := Bool.eq_false_iff.mpr c7
        subst c7
        have H1 : (if a0 > a1 then (some (([] : List (S57)), 0)) else (some ((([(⟨a0, a1⟩ : S57)] : List (S57))), 0))) = some (r1, r2) := by rw [if_neg (show ¬ (false = true) by decide)] at H; exact H
        clear H
        have H := H1
        clear H1
        by_cases c8 : a0 > a1
        · rw [if_pos c8] at H
          have c8b0 : decide (a1 < a0) = true := decide_eq_true c8
          clear c8
          simp only [Option.some.injEq, Prod.mk.injEq] at H
          obtain ⟨rfl, rfl⟩ := H
          go_wp2
          go_ret2
          exact ⟨_, by first | rfl | (simp [errW_none, errW_some] <;> rfl) | (simp [*, errW_none, errW_some] <;> rfl), by first | exact Kd.R_nil _ _ _ _ _ | exact Kd.N_nil _ _ _ _ _ | exact Kd.V_nil _ _ _ _ _ | exact Kd.Q_nil _ _ _ _ _ | exact Kd.S_nil _ _ _ _ _, by repeat (first | (with_reducible first | exact HB.out | apply below_alloc | apply pw_below_drewN | apply below_drew1) | exact HB.out)⟩
        · rw [if_neg c8] at H
          have c8b0 : decide (a1 < a0) = false := decide_eq_false c8
          clear c8
          obtain ⟨y210, hy210⟩ : ∃ y_ : List (S57), y_ = (([(⟨a0, a1⟩ : S57)] : List (S57))) := ⟨_, rfl⟩
          replace H : (some (y210, 0)) = some (r1, r2) := by first | (rw [hy210]; with_reducible exact H) | (have H2_ := (Option.bind_some _ _).symm.trans H; rw [hy210]; with_reducible exact H2_) | (have H2_ := (Option.bind_some _ _).symm.trans H; with_reducible exact H2_) | with_reducible exact H | (rw [hy210]; exact H) | exact H
          have Ny210 := Aside0.mk hy210
          clear hy210
          simp only [Option.some.injEq, Prod.mk.injEq] at H
          obtain ⟨rfl, rfl⟩ := H
          go_wp2_with (first | ((with_reducible refine gate_dst (N := 20) rfl ?_); refine Kd.R_lit k57 _ 57 ?hg (N := 20) ?hd (xs := ([(⟨a0, a1⟩ : S57)] : List (S57))) (inner := [.int .i64 a0, .int .i64 a1]) (ok := fun _ => True) (okp := fun _ => True) ?hr ?hp (fun _ hk => hk) trivial (Below.refl _ _) (Nat.le_refl _) (by simp) ?_; (case hd => rfl); (case hg => rfl); (case hr => first | (go_simp; done) | (go_simp; rfl)); (case hp => exact (Reps.c2 (show Kd.M k57 _ _ _ (⟨a0, a1⟩ : S57) [.int .i64 a0, .int .i64 a1] from (k57_mkM _ _ _ (⟨a0, a1⟩ : S57) )) (Reps.none _ _))); intro v211 w9 ho10 hb hg_ hnew_; clear hg_ hnew_; (first | rw [← Ny210.out] at ho10 | (simp only [Int.reduceToNat] at ho10; rw [← Ny210.out] at ho10)); have n0_ := Aside0.mk (Kd.R_lower ho10 (below_size (by repeat (first | (with_reducible first | exact HB.out | apply below_alloc | apply pw_below_drewN | apply below_drew1) | exact HB.out)))); have n1_ := Aside0.mk (below_step (by repeat (first | (with_reducible first | exact HB.out | apply below_alloc | apply pw_below_drewN | apply below_drew1) | exact HB.out)) hb); clear HB; have HO212 := n0_; have HB := n1_; clear n0_ n1_; clear hb ho10))
          go_ret2
          exact ⟨_, by first | rfl | (simp [errW_none, errW_some] <;> rfl) | (simp [*, errW_none, errW_some] <;> rfl), by (with_reducible repeat (first | apply Kd.R_alloc | apply Kd.R_drewN | apply Kd.R_drew)); exact HO212.out, by repeat (first | (with_reducible first | exact HB.out | apply below_alloc | apply pw_below_drewN | apply below_drew1) | exact HB.out)⟩
end Go.Proofs.YtnfdppkbbfdmnaaGreatDoor.PD

namespace Go.Proofs.YtnfdppkbbfdmnaaGreatDoor.PD
open Go.RowKit Go.Proofs.YtnfdppkbbfdmnaaGreatDoorW.PrintWords Go.Proofs.YtnfdppkbbfdmnaaGreatDoorW.PrintLast Go.Proofs.YtnfdppkbbfdmnaaGreatDoorW.PrintMore
set_option linter.unusedVariables false
set_option linter.unusedSimpArgs false
/-! ### Norm, Of, Span plainly -/
/-- the ranges that are not empty; nothing, if one of them is beyond -/
def gather : List S57 → List S57 → Option (List S57)
  | [], acc => some acc
  | r :: t, acc => if r.f0 > r.f1 then gather t acc else if inB r.f0 = true then (if inB r.f1 = true then gather t (acc ++ [r]) else none) else none
def normO : Option (List S57) → List S57 × Int
  | none => ([], 20)
  | some s => fitL (joinL s)
def normS (l : List S57) : List S57 × Int := normO (gather l [])
theorem gather_all : ∀ (l acc : List S57), (∀ x ∈ l, x.f0 ≤ x.f1 ∧ inR x) → gather l acc = some (acc ++ l)
  | [], acc, _ => by rw [gather, List.append_nil]
  | r :: t, acc, h => by
    have hr := h r (by simp)
    unfold inR at hr
    rw [gather, if_neg (by omega), if_pos ((inB_iff _).2 (by omega)), if_pos ((inB_iff _).2 (by omega)), gather_all t _ (fun x hx => h x (by simp [hx])), List.append_assoc]
    rfl
theorem norm_l0 (l : List S57) (hl : l.length ≤ 1000000000000) : ∀ (d i : Nat) (out : List S57), l.length = i + d → out.length ≤ i → (∀ x ∈ out, x.f0 ≤ x.f1 ∧ inR x) → ∃ k, jigsawref02_Norm.l0 k l out (i : Int) = some (normO (gather (l.drop i) out))
  | 0, i, out, hd, ho, hb => by
    obtain ⟨k, hk⟩ := joined_is out (by omega) (fun x hx => (hb x hx).2)
    refine ⟨k + 1, ?_⟩
    rw [jigsawref02_Norm.l0]
    rw [if_neg (by omega), List.drop_eq_nil_of_le (by omega), hk, Option.bind_some, gather]
    unfold normO fitL
    simp only
    by_cases h : (joinL out).length ≤ 4096
    · rw [if_neg (by omega), if_pos h]
    · rw [if_pos (by omega), if_neg h]
  | d + 1, i, out, hd, ho, hb => by
    have hi : i < l.length := by omega
    have hw : wrap64 ((i : Int) + 1) = ((i + 1 : Nat) : Int) := IntWalk.wrap64_in _ (by omega)
    rw [List.drop_eq_getElem_cons hi]
    by_cases hc : l[i].f0 > l[i].f1
    · obtain ⟨k, hk⟩ := norm_l0 l hl d (i + 1) out (by omega) (by omega) hb
      refine ⟨k + 1, ?_⟩
      rw [jigsawref02_Norm.l0]
      rw [if_pos (by omega), if_pos (by omega), rd57 l i hi, if_pos hc, hw, gather, if_pos hc]
      exact hk
    · by_cases h0 : inB l[i].f0 = true
      · by_cases h1 : inB l[i].f1 = true
        · obtain ⟨k, hk⟩ := norm_l0 l hl d (i + 1) (out ++ [l[i]]) (by omega) (by rw [List.length_append, List.length_singleton]; omega) (fun x hx => by
            rw [List.mem_append, List.mem_singleton] at hx
            rcases hx with hx | rfl
            · exact hb x hx
            · have := (inB_iff _).1 h0; have := (inB_iff _).1 h1
              unfold inR
              omega)
          refine ⟨k + 1, ?_⟩
          rw [jigsawref02_Norm.l0]
          rw [if_pos (by omega), if_pos (by omega), rd57 l i hi, if_neg hc, hw, gather, if_neg hc, in_f, in_f, Option.bind_some, if_pos h0, if_pos h0, Option.bind_some, if_pos h1, if_pos h1, if_pos (by omega)]
          exact hk
        · refine ⟨1, ?_⟩
          rw [jigsawref02_Norm.l0]
          rw [if_pos (by omega), if_pos (by omega), rd57 l i hi, if_neg hc, gather, if_neg hc, in_f, in_f, Option.bind_some, if_pos h0, if_pos h0, Option.bind_some, if_neg h1, if_neg h1]
          rfl
      · refine ⟨1, ?_⟩
        rw [jigsawref02_Norm.l0]
        rw [if_pos (by omega), if_pos (by omega), rd57 l i hi, if_neg hc, gather, if_neg hc, in_f, Option.bind_some, if_neg h0, if_neg h0]
        rfl
theorem norm_is (l : List S57) (hl : l.length ≤ 1000000000000) : NormIs l (normS l).1 (normS l).2 := by
  obtain ⟨k, hk⟩ := norm_l0 l hl l.length 0 [] (by omega) (Nat.le_refl _) (fun x hx => by cases hx)
  exact ⟨k, hk⟩
/-- single values as ranges -/
def points (v : List Int) : List S57 := v.map fun x => ⟨x, x⟩
theorem of_l0 (v : List Int) (hl : v.length ≤ 1000000000000) : ∀ (d i : Nat) (out : List S57), v.length = i + d → out = points (v.take i) → ∃ k, jigsawref02_Of.l0 k v out (i : Int) = some (normS (points v))
  | 0, i, out, hd, ho => by
    rw [List.take_of_length_le (by omega)] at ho
    obtain ⟨k, hk⟩ := norm_is (points v) (by unfold points; rw [List.length_map]; exact hl)
    refine ⟨k + 1, ?_⟩
    rw [jigsawref02_Of.l0]
    rw [if_neg (by omega), ho, hk, Option.bind_some]
  | d + 1, i, out, hd, ho => by
    have hi : i < v.length := by omega
    have hw : wrap64 ((i : Int) + 1) = ((i + 1 : Nat) : Int) := IntWalk.wrap64_in _ (by omega)
    have hrd : rd v (i : Nat) = v[i] := by
      unfold rd
      rw [Int.toNat_natCast, List.getD_eq_getElem?_getD, List.getElem?_eq_getElem hi]
      rfl
    have hol : out.length ≤ i := by rw [ho]; unfold points; rw [List.length_map, List.length_take]; omega
    obtain ⟨k, hk⟩ := of_l0 v hl d (i + 1) (out ++ [⟨v[i], v[i]⟩]) (by omega) (by rw [take_at hi]; unfold points at ho ⊢; rw [List.map_append, ho]; rfl)
    refine ⟨k + 1, ?_⟩
    rw [jigsawref02_Of.l0]
    rw [if_pos (by omega), if_pos (by omega), if_pos (by omega), hw, hrd]
    exact hk
/-- what the reference makes of values -/
theorem Of_ref {v : Value} (l : List Int) (w : World) (h : LstI w v l) (hl : l.length ≤ 1000000000000) :
    Calls Tryz.prog 11 #[v] w fun e w' => ∃ v', e = .returned (.tuple #[v', .int .i64 (normS (points l)).2]) ∧ Row w' w.heap.size v' (normS (points l)).1 ∧ Below w.heap.size w w' := by
  obtain ⟨A, c, rfl, hC, hc⟩ := h
  obtain ⟨k, hk⟩ := of_l0 l hl l.length 0 [] (by omega) rfl
  refine (jigsawref02_Of.calls k A c l (normS (points l)).1 (normS (points l)).2 w hC hc hk).mono ?_
  rintro e w' ⟨v', rfl, hO, hb⟩
  exact ⟨v', rfl, R57_row hO, hb⟩
/-- all from one to another -/
def spanS (lo hi : Int) : List S57 × Int := if inB lo = true ∧ inB hi = true then (if lo > hi then ([], 0) else ([⟨lo, hi⟩], 0)) else ([], 20)
theorem span_f (lo hi : Int) : jigsawref02_Span.f 1 lo hi = some (spanS lo hi) := by
  unfold jigsawref02_Span.f spanS
  rw [in_f, in_f, Option.bind_some]
  by_cases h0 : inB lo = true
  · rw [if_pos h0, Option.bind_some, jigsawref02_Span.j0]
    by_cases h1 : inB hi = true
    · rw [h1, if_neg (by decide), if_pos (⟨h0, rfl⟩ : inB lo = true ∧ true = true)]
      by_cases h2 : lo > hi
      · rw [if_pos h2, if_pos h2]
      · rw [if_neg h2, if_neg h2]
    · rw [Bool.eq_false_iff.2 h1, if_pos (by decide), if_neg (fun h => by cases h.2)]
  · rw [if_neg h0, jigsawref02_Span.j0, if_pos rfl, if_neg (fun h => h0 h.1)]
theorem Span_ref (lo hi : Int) (w : World) :
    Calls Tryz.prog 15 #[.int .i64 lo, .int .i64 hi] w fun e w' => ∃ v', e = .returned (.tuple #[v', .int .i64 (spanS lo hi).2]) ∧ Row w' w.heap.size v' (spanS lo hi).1 ∧ Below w.heap.size w w' := by
  refine (jigsawref02_Span.calls 1 lo hi (spanS lo hi).1 (spanS lo hi).2 w (span_f lo hi)).mono ?_
  rintro e w' ⟨v', rfl, hO, hb⟩
  exact ⟨v', rfl, R57_row hO, hb⟩

end Go.Proofs.YtnfdppkbbfdmnaaGreatDoor.PD

namespace Go.Proofs.YtnfdppkbbfdmnaaGreatDoor.PD
open Go.RowKit Go.Proofs.YtnfdppkbbfdmnaaGreatDoorW.PrintWords Go.Proofs.YtnfdppkbbfdmnaaGreatDoorW.PrintLast Go.Proofs.YtnfdppkbbfdmnaaGreatDoorW.PrintMore
set_option linter.unusedVariables false
set_option linter.unusedSimpArgs false
/-! ### the program and the reference make the same -/
theorem rightL_norm : ∀ (l : List S57) (e : Int), rightL e l = true → NormF e l
  | [], _, _ => trivial
  | s :: t, e, h => by
    unfold rightL at h
    split at h
    · cases h
    · split at h
      · cases h
      · split at h
        · cases h
        · exact ⟨by omega, by omega, rightL_norm t _ h⟩
theorem right_norm {l : List S57} (h : rightS l = true) : NormF (-1000002) l := by
  unfold rightS at h
  split at h
  · cases h
  · exact rightL_norm l _ h
theorem norm_rightL : ∀ (l : List S57) (e : Int), NormF e l → (∀ s ∈ l, s.f1 ≤ 1000000) → rightL e l = true
  | [], _, _, _ => rfl
  | s :: t, e, h, hb => by
    have h1 := h.1; have h2 := h.2.1
    have hs := hb s (by simp)
    unfold rightL
    rw [if_neg (by omega), if_neg (by omega), if_neg (by omega)]
    exact norm_rightL t _ h.2.2 (fun x hx => hb x (by simp [hx]))
theorem norm_right {l : List S57} (h : NormF (-1000002) l) (hb : ∀ s ∈ l, s.f1 ≤ 1000000) (hl : l.length ≤ 4096) : rightS l = true := by
  unfold rightS
  rw [if_neg (by omega)]
  exact norm_rightL l _ h hb
theorem cutL_mem {l : List S57} {lo hi : Int} {s : S57} (h : s ∈ cutL l lo hi) : ∃ r ∈ l, r.f0 ≤ s.f0 ∧ s.f0 ≤ s.f1 ∧ s.f1 ≤ r.f1 := by
  unfold cutL at h
  rw [List.mem_flatMap] at h
  obtain ⟨r, hr, hs⟩ := h
  unfold some1 clip at hs
  split at hs
  · rename_i hc
    rw [List.mem_singleton] at hs
    subst hs
    simp only at hc ⊢
    exact ⟨r, hr, by omega, by omega, by omega⟩
  · cases hs
theorem cutsL_mem {t u : List S57} {s : S57} (h : s ∈ cutsL t u) : ∃ r ∈ t, r.f0 ≤ s.f0 ∧ s.f0 ≤ s.f1 ∧ s.f1 ≤ r.f1 := by
  unfold cutsL at h
  rw [List.mem_flatMap] at h
  obtain ⟨q, _, hs⟩ := h
  exact cutL_mem hs
theorem memR_cutsL (t : List S57) (x : Int) : ∀ u, memR (cutsL t u) x ↔ memR t x ∧ memR u x
  | [] => by simp [cutsL, memR_nil]
  | r :: u => by
    have ih := memR_cutsL t x u
    unfold cutsL at ih ⊢
    rw [List.flatMap_cons, memR_append, memR_cutL, ih, memR_cons]
    constructor
    · rintro (⟨h1, h2⟩ | ⟨h1, h2⟩)
      · exact ⟨h1, .inl h2⟩
      · exact ⟨h1, .inr h2⟩
    · rintro ⟨h1, h2 | h2⟩
      · exact .inl ⟨h1, h2⟩
      · exact .inr ⟨h1, h2⟩
theorem both_join {t u : List S57} {e : Int} (ht : rightS t = true) (hu : NormF e u) : joinL (cutsL t u) = bothL t u := by
  have hm := right_mem ht
  obtain ⟨b1, b2⟩ := bothL_ok t u (-1000002) e (right_norm ht) hu
  obtain ⟨j1, j2⟩ := joinL_ok (l := cutsL t u) (e := -1000002) (fun s hs => by
    obtain ⟨r, hr, h1, h2, h3⟩ := cutsL_mem hs
    have := hm r hr
    omega)
  exact norm_ext _ _ _ _ j1 (b1 _ (.inl (right_norm ht))) (fun x => by rw [j2, b2, memR_cutsL])
theorem less_norm {t u : List S57} {e : Int} (ht : rightS t = true) (hu : NormF e u) : normS (cutsL t u) = fitL (bothL t u) := by
  have hm := right_mem ht
  unfold normS
  rw [gather_all _ _ (fun s hs => by
    obtain ⟨r, hr, h1, h2, h3⟩ := cutsL_mem hs
    have := hm r hr
    unfold inR
    omega)]
  unfold normO
  rw [List.nil_append]
  simp only
  rw [both_join ht hu]
theorem rest_norm {l : List S57} (h : rightS l = true) : NormF (-1000002) (restL (-1000000) l) := by
  obtain ⟨h1, _⟩ := restL_ok l (-1000000) (-1000002) (right_norm h) (by omega) (.inr trivial) (fun r hr => by have := right_mem h r hr; omega)
  exact h1 _ (by omega)
theorem memR_rest {l : List S57} (h : rightS l = true) (x : Int) : memR (restL (-1000000) l) x ↔ -1000000 ≤ x ∧ x ≤ 1000000 ∧ ¬ memR l x :=
  (restL_ok l (-1000000) (-1000002) (right_norm h) (by omega) (.inr trivial) (fun r hr => by have := right_mem h r hr; omega)).2 x
/-! Without -/
theorem woL_ok (x : Int) : ∀ (l : List S57) (e : Int), NormF e l → (NormF e (woL l x)) ∧ ∀ y, memR (woL l x) y ↔ memR l y ∧ y ≠ x
  | [], e, _ => ⟨trivial, fun y => by simp [woL, memR_nil]⟩
  | r :: t, e, h => by
    have h1 := h.1; have h2 := h.2.1
    obtain ⟨i1, i2⟩ := woL_ok x t r.f1 h.2.2
    have hgt := fun y hy => NormF.gt h.2.2 y hy
    have hcons : woL (r :: t) x = wo1 x r ++ woL t x := by unfold woL; rw [List.flatMap_cons]
    rw [hcons]
    unfold wo1
    by_cases c1 : x < r.f0 ∨ r.f1 < x
    · rw [if_pos c1]
      refine ⟨⟨h1, h2, i1⟩, fun y => ?_⟩
      rw [memR_append, i2, memR_cons, memR_cons]
      simp only [memR_nil, or_false]
      constructor
      · rintro (h | h)
        · exact ⟨.inl h, by omega⟩
        · exact ⟨.inr h.1, h.2⟩
      · rintro ⟨h | h, h3⟩
        · exact .inl h
        · exact .inr ⟨h, h3⟩
    · rw [if_neg c1]
      by_cases c2 : r.f0 < x
      · by_cases c3 : x < r.f1
        · rw [if_pos c2, if_pos c3]
          refine ⟨⟨h1, by show r.f0 ≤ x - 1; omega, by show x - 1 + 1 < x + 1; omega, by show x + 1 ≤ r.f1; omega, i1⟩, fun y => ?_⟩
          rw [memR_append, i2, memR_append, memR_cons, memR_cons, memR_cons]
          simp only [memR_nil, or_false]
          constructor
          · rintro ((h | h) | h)
            · exact ⟨.inl (by omega), by omega⟩
            · exact ⟨.inl (by omega), by omega⟩
            · exact ⟨.inr h.1, h.2⟩
          · rintro ⟨h | h, h3⟩
            · by_cases hy : y ≤ x - 1
              · exact .inl (.inl (by omega))
              · exact .inl (.inr (by omega))
            · exact .inr ⟨h, h3⟩
        · rw [if_pos c2, if_neg c3]
          refine ⟨⟨h1, by show r.f0 ≤ x - 1; omega, i1.weaken (by show x - 1 ≤ r.f1; omega)⟩, fun y => ?_⟩
          rw [memR_append, i2, memR_append, memR_cons, memR_cons]
          simp only [memR_nil, or_false]
          constructor
          · rintro (h | h)
            · exact ⟨.inl (by omega), by omega⟩
            · exact ⟨.inr h.1, h.2⟩
          · rintro ⟨h | h, h3⟩
            · exact .inl (by omega)
            · exact .inr ⟨h, h3⟩
      · by_cases c3 : x < r.f1
        · rw [if_neg c2, if_pos c3]
          refine ⟨⟨by show e + 1 < x + 1; omega, by show x + 1 ≤ r.f1; omega, i1⟩, fun y => ?_⟩
          rw [memR_append, i2, memR_append, memR_cons, memR_cons]
          simp only [memR_nil, or_false, false_or]
          constructor
          · rintro (h | h)
            · exact ⟨.inl (by omega), by omega⟩
            · exact ⟨.inr h.1, h.2⟩
          · rintro ⟨h | h, h3⟩
            · exact .inl (by omega)
            · exact .inr ⟨h, h3⟩
        · rw [if_neg c2, if_neg c3]
          refine ⟨i1.weaken (by omega), fun y => ?_⟩
          rw [List.append_nil, List.nil_append, i2, memR_cons]
          constructor
          · rintro h
            exact ⟨.inr h.1, h.2⟩
          · rintro ⟨h | h, h3⟩
            · omega
            · exact ⟨h, h3⟩
theorem one_right {x : Int} (h : inB x = true) : rightS [⟨x, x⟩] = true := by
  have := (inB_iff _).1 h
  refine norm_right ⟨by show -1000002 + 1 < x; omega, Int.le_refl _, trivial⟩ (fun s hs => ?_) (by simp)
  rw [List.mem_singleton] at hs
  subst hs
  exact this.2
theorem without_same (l : List S57) (x : Int) : withoutS l x = if (woL (takenL l) x).length ≤ 4096 then woL (takenL l) x else takenL l := by
  have ht := takenL_right l
  unfold withoutS
  generalize takenL l = t at *
  obtain ⟨w1, w2⟩ := woL_ok x t _ (right_norm ht)
  by_cases hx : inB x = true
  · have h1 := one_right hx
    rw [takenL_of h1]
    have e : bothL t (restL (-1000000) [⟨x, x⟩]) = woL t x := by
      obtain ⟨b1, b2⟩ := bothL_ok t _ (-1000002) _ (right_norm ht) (rest_norm h1)
      refine norm_ext _ _ _ _ (b1 _ (.inl (right_norm ht))) w1 (fun y => ?_)
      rw [b2, w2, memR_rest h1, memR_cons]
      simp only [memR_nil, or_false]
      constructor
      · rintro ⟨h, _, _, h3⟩
        exact ⟨h, by omega⟩
      · rintro ⟨h, h3⟩
        obtain ⟨s, hs, hy⟩ := h
        have := right_mem ht s hs
        exact ⟨⟨s, hs, hy⟩, by omega, by omega, by omega⟩
    rw [e]
    by_cases hl : (woL t x).length ≤ 4096
    · rw [if_pos ⟨hx, hl⟩, if_pos hl]
    · rw [if_neg (fun h => hl h.2), if_neg hl]
  · have hn : ¬ (-1000000 ≤ x ∧ x ≤ 1000000) := fun h => hx ((inB_iff _).2 h)
    have e : woL t x = t := norm_ext _ _ _ _ w1 (right_norm ht) (fun y => by
      rw [w2]
      constructor
      · exact fun h => h.1
      · intro h
        refine ⟨h, ?_⟩
        obtain ⟨s, hs, hy⟩ := h
        have := right_mem ht s hs
        rintro rfl
        omega)
    rw [if_neg (fun h => hx h.1), e]
    split <;> rfl
/-! Within -/
theorem anyIn_of : ∀ (u : List S57) (e a b : Int), NormF e u → a ≤ b → (∀ x, a ≤ x → x ≤ b → memR u x) → anyIn a b u = true
  | [], _, a, b, _, hab, h => absurd (h a (Int.le_refl _) hab) (memR_nil a)
  | r :: u, e, a, b, hN, hab, h => by
    have hgt := fun x hx => NormF.gt hN.2.2 x hx
    have h2 := hN.2.1
    rw [anyIn]
    split
    · rfl
    · rename_i hc
      have ha := (memR_cons _ _ _).1 (h a (Int.le_refl _) hab)
      rcases ha with ha | ha
      · have hb : r.f1 + 1 ≤ b := by omega
        have hq := (memR_cons _ _ _).1 (h (r.f1 + 1) (by omega) hb)
        rcases hq with hq | hq
        · omega
        · have := hgt _ hq; omega
      · have hga := hgt _ ha
        refine anyIn_of u r.f1 a b hN.2.2 hab (fun x hx1 hx2 => ?_)
        have hq := (memR_cons _ _ _).1 (h x hx1 hx2)
        rcases hq with hq | hq
        · omega
        · exact hq
theorem anyIn_mem : ∀ (u : List S57) (a b : Int), anyIn a b u = true → ∀ x, a ≤ x → x ≤ b → memR u x
  | [], a, b, h, _, _, _ => by rw [anyIn] at h; cases h
  | r :: u, a, b, h, x, h1, h2 => by
    rw [anyIn] at h
    rw [memR_cons]
    split at h
    · left; omega
    · exact .inr (anyIn_mem u a b h x h1 h2)
theorem withinL_iff {u : List S57} {e : Int} (hu : NormF e u) : ∀ (t : List S57) (e' : Int), NormF e' t → (withinL u t = true ↔ ∀ x, memR t x → memR u x)
  | [], _, _ => by rw [withinL]; simp [memR_nil]
  | s :: t, e', ht => by
    have ih := withinL_iff hu t _ ht.2.2
    rw [withinL]
    constructor
    · intro h x hx
      split at h
      · rename_i hc
        rw [memR_cons] at hx
        rcases hx with hx | hx
        · exact anyIn_mem u _ _ hc x hx.1 hx.2
        · exact ih.1 h x hx
      · cases h
    · intro h
      rw [if_pos (anyIn_of u e _ _ hu ht.2.1 (fun x h1 h2 => h x ((memR_cons _ _ _).2 (.inl ⟨h1, h2⟩))))]
      exact ih.2 (fun x hx => h x ((memR_cons _ _ _).2 (.inr hx)))
theorem within_same {t u : List S57} (ht : rightS t = true) (hu : rightS u = true) : bothL t u = t ↔ withinL u t = true := by
  rw [withinL_iff (right_norm hu) t _ (right_norm ht)]
  obtain ⟨b1, b2⟩ := bothL_ok t u _ _ (right_norm ht) (right_norm hu)
  constructor
  · intro h x hx
    rw [← h, b2] at hx
    exact hx.2
  · intro h
    refine norm_ext _ _ _ _ (b1 _ (.inl (right_norm ht))) (right_norm ht) (fun x => ?_)
    rw [b2]
    exact ⟨fun q => q.1, fun q => ⟨q, h x q⟩⟩
/-! Min, Has -/
end Go.Proofs.YtnfdppkbbfdmnaaGreatDoor.PD
