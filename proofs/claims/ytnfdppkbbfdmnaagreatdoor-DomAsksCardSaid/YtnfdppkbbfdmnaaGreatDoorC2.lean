/- Parts of the laws of dom: functions of the program, each with the proof of what it answers; the conditions are those of each theorem. -/
import Derived.Test.YtnfdppkbbfdmnaaGreatDoorC1
import Derived.Lib.Hide
import Derived.IntWalk
import Derived.RangeFuncBox
import Derived.Deep.RegionHeld3
import Derived.Deep.DeepCutAuto
namespace Go.Proofs.YtnfdppkbbfdmnaaGreatDoor.PD
open Go.RowKit Go.Proofs.YtnfdppkbbfdmnaaGreatDoorW.PrintWords Go.Proofs.YtnfdppkbbfdmnaaGreatDoorW.PrintLast Go.Proofs.YtnfdppkbbfdmnaaGreatDoorW.PrintMore
set_option linter.unusedVariables false
set_option linter.unusedSimpArgs false
/-! ### rows of ranges -/
theorem add_zero_off (b i : Nat) : (Addr.add ⟨b, 0, none⟩ i) = ⟨b, i, none⟩ := by
  simp [Addr.add]; omega
theorem row_form {w : World} {base e size n : Nat} {v : Value} {xs : List Value} (h : w.ownsRow base e size v n xs) : ∃ A c, v = .slice A n c := by
  rcases h.2 with ⟨rfl, rfl⟩ | ⟨g, cap, cur, rfl, _⟩
  · exact ⟨_, _, rfl⟩
  · exact ⟨_, _, rfl⟩
theorem row_cap {w : World} {base e size n c : Nat} {A : Option Addr} {xs : List Value} (h : w.ownsRow base e size (.slice A n c) n xs) : n ≤ c := by
  rcases h.2 with ⟨e, rfl⟩ | ⟨g, cap, cur, e, _, _, h1, _⟩
  · exact Nat.zero_le _
  · injection e with _ _ e
    omega
theorem snoc_cases {α : Type} (l : List α) : l = [] ∨ ∃ ys s, l = ys ++ [s] := by
  rcases List.eq_nil_or_concat l with h | ⟨ys, s, h⟩
  · exact .inl h
  · exact .inr ⟨ys, s, by rw [h, List.concat_eq_append]⟩
def cells57 (s : S57) : List Value := [.int .i64 s.f0, .int .i64 s.f1]
def flat57 (xs : List S57) : List Value := xs.flatMap cells57
theorem flat57_len (xs : List S57) : (flat57 xs).length = xs.length * 2 := by
  induction xs with
  | nil => rfl
  | cons s xs ih =>
    have : flat57 (s :: xs) = cells57 s ++ flat57 xs := by simp [flat57]
    rw [this, List.length_append, ih, List.length_cons]
    show 2 + _ = _
    omega
theorem flat57_snoc (ys : List S57) (s : S57) : flat57 (ys ++ [s]) = flat57 ys ++ cells57 s := by simp [flat57]
theorem flat57_one : ∀ (xs : List S57), ∀ u ∈ flat57 xs, u.oneCell' = true := by
  intro xs u hu
  unfold flat57 at hu
  rw [List.mem_flatMap] at hu
  obtain ⟨s, _, hs⟩ := hu
  simp only [cells57, List.mem_cons, List.not_mem_nil, or_false] at hs
  rcases hs with rfl | rfl <;> rfl
theorem flat57_reps (w : World) (xs : List S57) : Reps (k57.K w) 2 xs (flat57 xs) := by
  obtain ⟨r, rfl⟩ : ∃ r, xs = r.reverse := ⟨xs.reverse, by simp⟩
  induction r with
  | nil => exact Reps.none _ _
  | cons s r ih =>
    rw [List.reverse_cons, flat57_snoc]
    exact ih.snoc (k57_mk w s) rfl
theorem reps_flat57 {K : S57 → List Value → Prop} (hK : ∀ x cs, K x cs → cs = cells57 x) : ∀ (xs : List S57) (cs : List Value), Reps K 2 xs cs → cs = flat57 xs
  | [], cs, h => by
    have := h.1
    simp only [List.length_nil, Nat.zero_mul] at this
    rw [List.length_eq_zero_iff.1 this]
    rfl
  | x :: xs, cs, h => by
    have h0 := hK _ _ (h.2 0 x rfl)
    rw [Nat.zero_mul, List.drop_zero] at h0
    have ht := reps_flat57 hK xs (cs.drop 2) ⟨by rw [List.length_drop, h.1, List.length_cons]; omega, fun j p hj => by
      have := h.2 (j + 1) p (by simpa using hj)
      rw [List.drop_drop]
      rw [show 2 + j * 2 = (j + 1) * 2 by omega]
      exact this⟩
    have e : cs = cs.take 2 ++ cs.drop 2 := (List.take_append_drop 2 cs).symm
    rw [e, h0, ht]
    simp [flat57]
/-- a slice that reads as a list of ranges -/
def Lst (w : World) (v : Value) (l : List S57) : Prop := ∃ A c, v = .slice A l.length c ∧ Kd.C k57 w A l.length l ∧ l.length ≤ c
theorem Lst.below {w w' : World} {v : Value} {l : List S57} (h : Lst w v l) (hb : Below w.heap.size w w') : Lst w' v l := by
  obtain ⟨A, c, e, hC, hc⟩ := h
  exact ⟨A, c, e, Kd.C_below hC hb, hc⟩
/-- a row of ranges of the call's own -/
def Row (w : World) (base : Nat) (v : Value) (l : List S57) : Prop := w.ownsRow base 57 2 v l.length (flat57 l)
theorem Row.lst {w : World} {base : Nat} {v : Value} {l : List S57} (h : Row w base v l) : Lst w v l := by
  obtain ⟨A, c, e, hC⟩ := own_reads_row h (flat57_reps w l) rfl
  refine ⟨A, c, e, hC, ?_⟩
  subst e
  exact row_cap h
theorem Row.below {w w' : World} {base : Nat} {v : Value} {l : List S57} (h : Row w base v l) (hb : Below w.heap.size w w') : Row w' base v l := pw_own_below h hb
theorem Row.lower {w : World} {base base' : Nat} {v : Value} {l : List S57} (h : Row w base v l) (hb : base' ≤ base) : Row w base' v l := own_weaken h hb
theorem Row.nil (w : World) (base : Nat) : Row w base (.slice none 0 0) [] := World.ownsRow_nil _ _ _ _
theorem Lst.nil (w : World) : Lst w (.slice none 0 0) [] := (Row.nil w 0).lst
theorem R57_row {w : World} {base : Nat} {ok : Nat → Prop} {v : Value} {xs : List S57} (h : Kd.R k57 57 w base ok v xs) : Row w base v xs := by
  obtain ⟨_, inner, hown, hr⟩ := h
  have e := reps_flat57 (fun x cs h => k57_openM h) xs inner hr
  rw [e] at hown
  exact hown
theorem rd57 (l : List S57) (i : Nat) (h : i < l.length) : rd_T57 l (i : Int) = l[i] := by
  unfold rd_T57
  rw [Int.toNat_natCast, List.getD_eq_getElem?_getD, List.getElem?_eq_getElem h]
  rfl
/-- the cells of a list's element -/
theorem rng_at {w : World} {A : Option Addr} {n : Nat} {l : List S57} (h : Kd.C k57 w A n l) (k : Nat) (hk : k < l.length) : ∃ ad, A = some ad ∧ w.cell? (ad.add (k * 2)) = some (.int .i64 l[k].f0) ∧ w.cell? ⟨(ad.add (k * 2)).block, (ad.add (k * 2)).off + 1, none⟩ = some (.int .i64 l[k].f1) := by
  have hn : n = l.length := h.1.symm
  have q := at_T57 h (k : Int) (by omega) (by omega)
  rw [rd57 l k hk, Int.toNat_natCast] at q
  exact q
theorem index_at (ad : Addr) (m c : Nat) (i : Int) (h : 0 ≤ i ∧ i < m) (W : World) : (Instr.indexAt 23 (.slice (some ad) m c) (.int .i64 i)).run Tryz.prog W = .ok (.pointer (some (ad.add (i.toNat * 2)))) W := by
  obtain ⟨h1, h2⟩ := h
  rw [run_indexAt_slice (k := .i64) (h := by kernel_rfl)]
  simp [go_sem, h1, h2]
theorem cell_pair_new (w : World) (x y : Value) (t : TypeId) : ∀ j u, [x, y][j]? = some u → (w.alloc (.cells #[x, y] t)).cell? ((⟨w.heap.size, 0, none⟩ : Addr).add j) = some u := by
  intro j u hj
  rw [add_zero_off]
  refine (blk_cell (World.alloc_heap_new w (.cells #[x, y] t)) j).trans ?_
  rw [← hj]
  simp
theorem boxed_below {W W' : World} {B : Nat} {t : TypeId} {v : Value} (h : Boxed W B t v) (hb : Below W.heap.size W W') : Boxed W' B t v := (hb.block B h.lt).trans h
/-! ### ranges that are right -/
def rightL : Int → List S57 → Bool
  | _, [] => true
  | e, s :: t => if s.f0 ≤ e + 1 then false else if s.f1 < s.f0 then false else if s.f1 > 1000000 then false else rightL s.f1 t
def rightS (l : List S57) : Bool := if 4096 < l.length then false else rightL (-1000002) l
theorem right_l0 (l : List S57) (hl : l.length ≤ 4096) : ∀ (d i : Nat) (e : Int), l.length = i + d → -1000002 ≤ e → e ≤ 1000000 → dom_Right.l0 (d + 1) e l (l.length : Int) (i : Int) = some (rightL e (l.drop i))
  | 0, i, e, hd, h1, h2 => by
    simp only [dom_Right.l0]
    rw [if_neg (by omega), List.drop_eq_nil_of_le (by omega)]
    rfl
  | d + 1, i, e, hd, h1, h2 => by
    have hi : i < l.length := by omega
    rw [List.drop_eq_getElem_cons hi]
    simp only [dom_Right.l0]
    rw [if_pos (by omega), if_pos (by omega), if_pos (by omega), rd57 l i hi]
    rw [show wrap64 (e + 1) = e + 1 from IntWalk.wrap64_in _ (by omega)]
    unfold rightL
    generalize l[i] = s
    by_cases c1 : s.f0 ≤ e + 1
    · rw [if_pos c1, if_pos c1]
    · rw [if_neg c1, if_neg c1]
      by_cases c2 : s.f1 < s.f0
      · rw [if_pos c2, if_pos c2]
      · rw [if_neg c2, if_neg c2]
        by_cases c3 : s.f1 > 1000000
        · rw [if_pos c3, if_pos c3]
        · rw [if_neg c3, if_neg c3]
          rw [show wrap64 ((i : Int) + 1) = ((i + 1 : Nat) : Int) from IntWalk.wrap64_in _ (by omega)]
          exact right_l0 l hl d (i + 1) s.f1 (by omega) (by omega) (by omega)
theorem right_f (l : List S57) : dom_Right.f (l.length + 1) l = some (rightS l) := by
  unfold dom_Right.f rightS
  by_cases h : 4096 < l.length
  · rw [if_pos (by omega), if_pos h]
  · rw [if_neg (by omega), if_neg h]
    exact right_l0 l (by omega) l.length 0 _ (by omega) (by omega) (by omega)
theorem right_calls {v : Value} (l : List S57) (w : World) (h : Lst w v l) :
    Calls Tryz.prog 17 #[v] w fun e w' => e = .returned (.bool (rightS l)) ∧ Below w.heap.size w w' := by
  obtain ⟨A, c, rfl, hC, hc⟩ := h
  exact dom_Right.calls _ A c l _ w hC hc (right_f l)
/-- ranges as they are taken -/
def takenL (l : List S57) : List S57 := if rightS l then l else []
theorem takenL_right (l : List S57) : rightS (takenL l) = true := by
  unfold takenL
  split
  · assumption
  · rfl
theorem takenL_of {l : List S57} (h : rightS l = true) : takenL l = l := by unfold takenL; rw [if_pos h]
theorem right_le {l : List S57} (h : rightS l = true) : l.length ≤ 4096 := by
  unfold rightS at h
  split at h
  · cases h
  · omega
theorem rightL_mem : ∀ (l : List S57) (e : Int), -1000002 ≤ e → rightL e l = true → ∀ s ∈ l, -1000000 ≤ s.f0 ∧ e + 1 < s.f0 ∧ s.f0 ≤ s.f1 ∧ s.f1 ≤ 1000000
  | [], _, _, _, s, hs => by cases hs
  | t :: l, e, he, h, s, hs => by
    unfold rightL at h
    split at h
    · cases h
    · split at h
      · cases h
      · split at h
        · cases h
        · rcases List.mem_cons.1 hs with rfl | hs
          · omega
          · have := rightL_mem l t.f1 (by omega) h s hs
            omega
theorem right_mem {l : List S57} (h : rightS l = true) : ∀ s ∈ l, -1000000 ≤ s.f0 ∧ s.f0 ≤ s.f1 ∧ s.f1 ≤ 1000000 := by
  unfold rightS at h
  split at h
  · cases h
  · intro s hs
    have := rightL_mem l _ (by omega) h s hs
    omega
set_option maxHeartbeats 4000000 in
theorem taken_calls {v : Value} (l : List S57) (w : World) (h : Lst w v l) :
    Calls Tryz.prog 63 #[v] w fun e w' => ∃ v', e = .returned v' ∧ Lst w' v' (takenL l) ∧ Below w.heap.size w w' ∧ (rightS l = true → v' = v) := by
  have HR := Lib.hid (right_calls l w h)
  have H := Lib.hid h
  obtain ⟨A, c, rfl, _, _⟩ := h
  cases hR : rightS l with
  | true =>
    have HT := Lib.hid (takenL_of hR)
    have HX := Lib.hid hR
    go_enter Tryz.func63, Tryz.ntmps63
    go_wp2_with fail
    refine HR.out.mono ?_
    rw [HX.out]
    rintro e w1 ⟨rfl, hb⟩
    go_wp2_with fail
    go_ret
    refine ⟨_, rfl, ?_, hb, fun _ => rfl⟩
    rw [HT.out]
    exact H.out.below hb
  | false =>
    have HT := Lib.hid (show takenL l = [] by unfold takenL; rw [hR]; rfl)
    have HX := Lib.hid hR
    go_enter Tryz.func63, Tryz.ntmps63
    go_wp2_with fail
    refine HR.out.mono ?_
    rw [HX.out]
    rintro e w1 ⟨rfl, hb⟩
    go_wp2_with fail
    go_ret
    refine ⟨_, rfl, ?_, hb, fun h => by cases h⟩
    rw [HT.out]
    exact Lst.nil w1

end Go.Proofs.YtnfdppkbbfdmnaaGreatDoor.PD

namespace Go.Proofs.YtnfdppkbbfdmnaaGreatDoor.PD
open Go.RowKit Go.Proofs.YtnfdppkbbfdmnaaGreatDoorW.PrintWords Go.Proofs.YtnfdppkbbfdmnaaGreatDoorW.PrintLast Go.Proofs.YtnfdppkbbfdmnaaGreatDoorW.PrintMore
set_option linter.unusedVariables false
set_option linter.unusedSimpArgs false
/-! ### Size, Next, Has, Min, Max -/
def sizeL (l : List S57) : Int := l.foldl (fun n s => n + (s.f1 - s.f0 + 1)) 0
theorem sizeL_snoc (l : List S57) (s : S57) : sizeL (l ++ [s]) = sizeL l + (s.f1 - s.f0 + 1) := by simp [sizeL]
theorem sizeL_bound : ∀ (l : List S57), (∀ s ∈ l, -1000000 ≤ s.f0 ∧ s.f0 ≤ s.f1 ∧ s.f1 ≤ 1000000) → 0 ≤ sizeL l ∧ sizeL l ≤ 2000001 * l.length := by
  intro l
  obtain ⟨r, rfl⟩ : ∃ r, l = r.reverse := ⟨l.reverse, by simp⟩
  induction r with
  | nil => intro _; exact ⟨Int.le_refl _, by simp [sizeL]⟩
  | cons s r ih =>
    intro h
    rw [List.reverse_cons] at h ⊢
    have h1 := ih (fun t ht => h t (by simp at ht ⊢; exact .inl ht))
    have h2 := h s (by simp)
    rw [sizeL_snoc, List.length_append, List.length_singleton]
    omega
theorem take_at {α : Type} {l : List α} {k : Nat} (h : k < l.length) : l.take (k + 1) = l.take k ++ [l[k]] := List.take_succ_eq_append_getElem h
set_option maxRecDepth 100000 in
set_option maxHeartbeats 4000000 in
theorem size_calls {v : Value} (l : List S57) (w : World) (h : Lst w v l) :
    Calls Tryz.prog 35 #[v] w fun e w' => e = .returned (.int .i64 (sizeL (takenL l))) ∧ Below w.heap.size w w' := by
  have HT := Lib.hid (taken_calls l w h)
  have hR := takenL_right l
  have hlen := right_le hR
  have hmem := right_mem hR
  obtain ⟨A, c, rfl, _, _⟩ := h
  generalize takenL l = t at *
  have HM := Lib.hid hmem
  clear hmem
  go_enter Tryz.func35, Tryz.ntmps35
  go_wp2_with fail
  refine HT.out.mono ?_
  rintro e w1 ⟨v1, rfl, ⟨A1, c1, rfl, hC, hc1⟩, hb, _⟩
  have HC := Lib.hid hC; have HB := Lib.hid hb
  clear hC hb
  generalize hm : t.length = m at *
  have HL := Lib.hid hm
  clear hm
  go_wp2_with fail
  go_loopw [3, 9] (fun a i wr => ∃ k : Nat, i = .int .i64 k ∧ k ≤ m ∧ a = .int .i64 (sizeL (t.take k)) ∧ Hid (Below w1.heap.size w1 wr))
    (fun _ i _ => m - (intOf i).toNat)
  case atStart => exact ⟨0, rfl, Nat.zero_le _, rfl, Lib.hid (Below.refl _ _)⟩
  case round =>
    obtain ⟨k, rfl, hk, rfl, hB⟩ := hrel
    by_cases hkm : k < m
    · have hkt : k < t.length := by rw [HL.out]; exact hkm
      obtain ⟨ad, hA, x0, x1⟩ := rng_at (Kd.C_below HC.out hB.out) k hkt
      subst hA
      have hs := HM.out _ (List.getElem_mem hkt)
      have hpre := sizeL_bound (t.take k) (fun s hs => HM.out s (List.mem_of_mem_take hs))
      rw [List.length_take] at hpre
      have HS := Lib.hid (show sizeL (t.take (k + 1)) = sizeL (t.take k) + (t[k].f1 - t[k].f0 + 1) by rw [take_at hkt, sizeL_snoc])
      generalize t[k].f0 = a at *
      generalize t[k].f1 = b at *
      generalize sizeL (t.take k) = n at *
      have hw1 : IntKind.i64.wrap (b - a) = b - a := IntWalk.i64_in _ (by omega)
      have hw2 : IntKind.i64.wrap (b - a + 1) = b - a + 1 := IntWalk.i64_in _ (by omega)
      have hw3 : IntKind.i64.wrap (n + (b - a + 1)) = n + (b - a + 1) := IntWalk.i64_in _ (by omega)
      have hix := fun W => index_at ad m c1 (k : Nat) (by omega) W
      simp only [Int.toNat_natCast] at hix
      go_wp2_with fail
      refine ⟨⟨k + 1, by rw [Int.natCast_add]; rfl, by omega, by rw [HS.out], Lib.hid (hB.out.alloc hB.out.size _)⟩, by simp [intOf]; omega⟩
    · obtain rfl : k = m := by omega
      rw [List.take_of_length_le (by rw [HL.out]; exact Nat.le_refl _)]
      go_wp2_with fail
      go_ret
      exact ⟨rfl, below_step HB.out hB.out⟩

end Go.Proofs.YtnfdppkbbfdmnaaGreatDoor.PD

namespace Go.Proofs.YtnfdppkbbfdmnaaGreatDoor.PD
open Go.RowKit Go.Proofs.YtnfdppkbbfdmnaaGreatDoorW.PrintWords Go.Proofs.YtnfdppkbbfdmnaaGreatDoorW.PrintLast Go.Proofs.YtnfdppkbbfdmnaaGreatDoorW.PrintMore
set_option linter.unusedVariables false
set_option linter.unusedSimpArgs false
def nextL : List S57 → Int → Int × Bool
  | [], _ => (0, false)
  | s :: t, v => if v ≤ s.f1 then (max v s.f0, true) else nextL t v
theorem nextL_drop {l : List S57} {k : Nat} (h : k < l.length) (v : Int) : nextL (l.drop k) v = if v ≤ l[k].f1 then (max v l[k].f0, true) else nextL (l.drop (k + 1)) v := by
  rw [List.drop_eq_getElem_cons h, nextL]
set_option maxRecDepth 100000 in
set_option maxHeartbeats 4000000 in
theorem next_calls {v : Value} (l : List S57) (x : Int) (w : World) (h : Lst w v l) :
    Calls Tryz.prog 31 #[v, .int .i64 x] w fun e w' => e = .returned (.tuple #[.int .i64 (nextL (takenL l) x).1, .bool (nextL (takenL l) x).2]) ∧ Below w.heap.size w w' := by
  have HT := Lib.hid (taken_calls l w h)
  have hR := takenL_right l
  have hlen := right_le hR
  obtain ⟨A, c, rfl, _, _⟩ := h
  generalize takenL l = t at *
  clear hR
  go_enter Tryz.func31, Tryz.ntmps31
  go_wp2_with fail
  go_step3
  go_wp2_with fail
  go_step3
  go_wp2_with fail
  refine HT.out.mono ?_
  rintro e w1 ⟨v1, rfl, ⟨A1, c1, rfl, hC, hc1⟩, hb, _⟩
  have HC := Lib.hid hC; have HB := Lib.hid hb
  clear hC hb
  generalize hm : t.length = m at *
  have HL := Lib.hid hm
  clear hm
  go_wp2_with fail
  go_loopw [6, 7, 13] (fun a b i wr => ∃ k : Nat, i = .int .i64 k ∧ k ≤ m ∧ a = .int .i64 0 ∧ b = .bool false ∧ Hid (nextL t x = nextL (t.drop k) x) ∧ Hid (Below w1.heap.size w1 wr))
    (fun _ _ i _ => m - (intOf i).toNat)
  case atStart => exact ⟨0, rfl, Nat.zero_le _, rfl, rfl, Lib.hid rfl, Lib.hid (Below.refl _ _)⟩
  case round =>
    obtain ⟨k, rfl, hk, rfl, rfl, hN, hB⟩ := hrel
    by_cases hkm : k < m
    · have hkt : k < t.length := by rw [HL.out]; exact hkm
      obtain ⟨ad, hA, x0, x1⟩ := rng_at (Kd.C_below HC.out hB.out) k hkt
      subst hA
      have HN := Lib.hid (nextL_drop hkt x)
      generalize t[k].f0 = a at *
      generalize t[k].f1 = b at *
      have hix := fun W => index_at ad m c1 (k : Nat) (by omega) W
      simp only [Int.toNat_natCast] at hix
      by_cases hx : x ≤ b
      · have hxb : decide (x ≤ b) = true := decide_eq_true hx
        go_wp2_with fail
        all_goals
          (first | rw [Exit.noGoto_ret] | skip)
          go_ret2
          refine ⟨?_, below_step HB.out (hB.out.alloc hB.out.size _)⟩
          rw [hN.out, HN.out, if_pos hx]
        · rw [show max x a = a by omega]; rfl
        · rw [show max x a = x by omega]; rfl
      · have hxb : decide (x ≤ b) = false := decide_eq_false hx
        go_wp2_with fail
        refine ⟨⟨k + 1, by rw [Int.natCast_add]; rfl, by omega, rfl, rfl, Lib.hid (by rw [hN.out, HN.out, if_neg hx]), Lib.hid (hB.out.alloc hB.out.size _)⟩, by simp [intOf]; omega⟩
    · obtain rfl : k = m := by omega
      go_wp2_with fail
      rw [Exit.noGoto_ret]
      go_ret2
      refine ⟨?_, below_step HB.out hB.out⟩
      rw [hN.out, List.drop_of_length_le (by rw [HL.out]; exact Nat.le_refl _)]
      rfl
set_option maxHeartbeats 4000000 in
theorem has_calls {v : Value} (l : List S57) (x : Int) (w : World) (h : Lst w v l) :
    Calls Tryz.prog 33 #[v, .int .i64 x] w fun e w' => e = .returned (.bool ((nextL (takenL l) x).2 && (nextL (takenL l) x).1 == x)) ∧ Below w.heap.size w w' := by
  have HN := Lib.hid (next_calls l x w h)
  obtain ⟨A, c, rfl, _, _⟩ := h
  generalize nextL (takenL l) x = p at *
  obtain ⟨n, ok⟩ := p
  go_enter Tryz.func33, Tryz.ntmps33
  go_wp2_with fail
  refine HN.out.mono ?_
  rintro e w1 ⟨rfl, hb⟩
  cases ok with
  | true =>
    go_wp2_with fail
    go_ret
    exact ⟨rfl, hb⟩
  | false =>
    go_wp2_with fail
    go_ret
    exact ⟨rfl, hb⟩
set_option maxHeartbeats 4000000 in
theorem min_calls {v : Value} (l : List S57) (w : World) (h : Lst w v l) :
    Calls Tryz.prog 27 #[v] w fun e w' => e = .returned (.tuple #[.int .i64 (nextL (takenL l) (-1000000)).1, .bool (nextL (takenL l) (-1000000)).2]) ∧ Below w.heap.size w w' := by
  have HN := Lib.hid (next_calls l (-1000000) w h)
  obtain ⟨A, c, rfl, _, _⟩ := h
  generalize nextL (takenL l) (-1000000) = p at *
  obtain ⟨n, ok⟩ := p
  go_enter Tryz.func27, Tryz.ntmps27
  go_wp2_with fail
  refine HN.out.mono ?_
  rintro e w1 ⟨rfl, hb⟩
  go_wp2_with fail
  go_ret2
  exact ⟨rfl, hb⟩
def maxL (l : List S57) : Int × Bool := match l.getLast? with
  | some s => (s.f1, true)
  | none => (0, false)
theorem maxL_at {l : List S57} (h : 0 < l.length) : maxL l = ((l[l.length - 1]'(by omega)).f1, true) := by
  unfold maxL
  rw [List.getLast?_eq_getElem?, List.getElem?_eq_getElem (by omega)]
set_option maxHeartbeats 4000000 in
theorem max_calls {v : Value} (l : List S57) (w : World) (h : Lst w v l) :
    Calls Tryz.prog 29 #[v] w fun e w' => e = .returned (.tuple #[.int .i64 (maxL (takenL l)).1, .bool (maxL (takenL l)).2]) ∧ Below w.heap.size w w' := by
  have HT := Lib.hid (taken_calls l w h)
  have hR := takenL_right l
  have hlen := right_le hR
  obtain ⟨A, c, rfl, _, _⟩ := h
  generalize takenL l = t at *
  clear hR
  go_enter Tryz.func29, Tryz.ntmps29
  go_wp2_with fail
  refine HT.out.mono ?_
  rintro e w1 ⟨v1, rfl, ⟨A1, c1, rfl, hC, hc1⟩, hb, _⟩
  by_cases h0 : 0 < t.length
  · obtain ⟨ad, hA, x0, x1⟩ := rng_at hC (t.length - 1) (by omega)
    subst hA
    have HM := Lib.hid (maxL_at h0)
    clear hC x0
    generalize t[t.length - 1].f1 = b at *
    have h0' : 0 < t.length := h0
    clear h0
    generalize t.length = m at *
    have hix := fun W => index_at ad m c1 ((m : Int) - 1) (by omega) W
    rw [show ((m : Int) - 1).toNat = m - 1 by omega] at hix
    have hw1 : IntKind.i64.wrap ((m : Int) - 1) = (m : Int) - 1 := IntWalk.i64_in _ (by omega)
    have hg : decide ((m : Int) > 0) = true := decide_eq_true (by omega)
    have hg2 : decide (0 < m) = true := decide_eq_true h0'
    go_wp2_with fail
    go_ret2
    rw [HM.out]
    exact ⟨rfl, hb⟩
  · have ht : t = [] := List.length_eq_zero_iff.1 (by omega)
    subst ht
    clear hC hc1 h0
    go_wp2_with fail
    go_ret2
    exact ⟨rfl, hb⟩

end Go.Proofs.YtnfdppkbbfdmnaaGreatDoor.PD

namespace Go.Proofs.YtnfdppkbbfdmnaaGreatDoor.PD
open Go.RowKit Go.Proofs.YtnfdppkbbfdmnaaGreatDoorW.PrintWords Go.Proofs.YtnfdppkbbfdmnaaGreatDoorW.PrintLast Go.Proofs.YtnfdppkbbfdmnaaGreatDoorW.PrintMore
set_option linter.unusedVariables false
set_option linter.unusedSimpArgs false
/-! ### Cut -/
theorem max2_mx (k k' : IntKind) (x y : Int) : Builtin.max2 (.int k x) (.int k' y) = pure (.int k (max x y)) := by
  rw [max2_int, Int.max_def]
  congr 2
  split <;> split <;> omega
theorem min2_mn (k k' : IntKind) (x y : Int) : Builtin.min2 (.int k x) (.int k' y) = pure (.int k (min x y)) := by
  rw [min2_int, Int.min_def]
  congr 2
  split <;> split <;> omega
def some1 (r : S57) : List S57 := if r.f0 ≤ r.f1 then [r] else []
theorem some1_len (r : S57) : (some1 r).length ≤ 1 := by unfold some1; split <;> simp
attribute [local go_sem high] max2_mx min2_mn max_two min_two
/-- behind an append to a row of one's own -/
theorem Row.pushed {W w4 : World} {base : Nat} {v v' : Value} {out : List S57} {x y : Int} (h : Row W base v out) (hown : w4.ownsRow base 57 2 v' (out.length + 1) (flat57 out ++ [.int .i64 x, .int .i64 y])) (hg : (W.alloc (.cells #[.int .i64 x, .int .i64 y] 57)).grownBy w4 v.ownBlock) (hb : base ≤ W.heap.size) :
    Row w4 base v' (out ++ [⟨x, y⟩]) ∧ Below base W w4 := by
  constructor
  · unfold Row
    rw [List.length_append, List.length_singleton, flat57_snoc]
    exact hown
  · exact ((Below.refl base W).alloc hb _).grown hg (by simp; omega) (fun j e => own_base h j e)
theorem cell_pair_at (w : World) (n : Nat) (hn : w.heap.size = n) (x y : Value) (t : TypeId) : ∀ j u, [x, y][j]? = some u → (w.alloc (.cells #[x, y] t)).cell? ((⟨n, 0, none⟩ : Addr).add j) = some u := by
  subst hn
  exact cell_pair_new w x y t
end Go.Proofs.YtnfdppkbbfdmnaaGreatDoor.PD

namespace Go.Proofs.YtnfdppkbbfdmnaaGreatDoor.PD
open Go.RowKit Go.Proofs.YtnfdppkbbfdmnaaGreatDoorW.PrintWords Go.Proofs.YtnfdppkbbfdmnaaGreatDoorW.PrintLast Go.Proofs.YtnfdppkbbfdmnaaGreatDoorW.PrintMore
set_option linter.unusedVariables false
set_option linter.unusedSimpArgs false
/-! ### both -/
def bothL : List S57 → List S57 → List S57
  | [], _ => []
  | _ :: _, [] => []
  | r :: t, s :: u => some1 ⟨max r.f0 s.f0, min r.f1 s.f1⟩ ++ (if r.f1 < s.f1 then bothL t (s :: u) else bothL (r :: t) u)
termination_by a b => a.length + b.length
theorem bothL_step {t u : List S57} {i k : Nat} (hi : i < t.length) (hk : k < u.length) : bothL (t.drop i) (u.drop k) = some1 ⟨max t[i].f0 u[k].f0, min t[i].f1 u[k].f1⟩ ++ (if t[i].f1 < u[k].f1 then bothL (t.drop (i + 1)) (u.drop k) else bothL (t.drop i) (u.drop (k + 1))) := by
  rw [List.drop_eq_getElem_cons hi, List.drop_eq_getElem_cons hk, bothL]
theorem bothL_end {t u : List S57} {i k : Nat} (h : t.length ≤ i ∨ u.length ≤ k) : bothL (t.drop i) (u.drop k) = [] := by
  rcases h with h | h
  · rw [List.drop_of_length_le h, bothL]
  · rw [List.drop_of_length_le h]
    cases t.drop i <;> rw [bothL]
/-- two lists that are read and a row that grows -/
def BothS (w1 : World) (A1 A2 : Option Addr) (t u : List S57) (v : Value) (out : List S57) (W : World) : Prop :=
  Below w1.heap.size w1 W ∧ Kd.C k57 w1 A1 t.length t ∧ Kd.C k57 w1 A2 u.length u ∧ Row W w1.heap.size v out
theorem BothS.step {w1 W W' : World} {A1 A2 : Option Addr} {t u out : List S57} {v : Value} (h : BothS w1 A1 A2 t u v out W) (hb : Below W.heap.size W W') : BothS w1 A1 A2 t u v out W' :=
  ⟨h.1.trans (hb.mono h.1.size), h.2.1, h.2.2.1, h.2.2.2.below hb⟩
theorem BothS.c1 {w1 W : World} {A1 A2 : Option Addr} {t u out : List S57} {v : Value} (h : BothS w1 A1 A2 t u v out W) : Kd.C k57 W A1 t.length t := Kd.C_below h.2.1 h.1
theorem BothS.c2 {w1 W : World} {A1 A2 : Option Addr} {t u out : List S57} {v : Value} (h : BothS w1 A1 A2 t u v out W) : Kd.C k57 W A2 u.length u := Kd.C_below h.2.2.1 h.1
structure BothF (t u : List S57) (i k : Nat) (a b c d : Int) : Prop where
  hi : i < t.length
  hk : k < u.length
  e0 : t[i].f0 = a
  e1 : t[i].f1 = b
  e2 : u[k].f0 = c
  e3 : u[k].f1 = d
theorem BothS.all {w1 W : World} {x y : Addr} {t u out : List S57} {v : Value} {i k : Nat} {a b c d : Int} (h : BothS w1 (some x) (some y) t u v out W) (f : BothF t u i k a b c d) :
    W.cell? (x.add (i * 2)) = some (.int .i64 a) ∧ W.cell? ⟨(x.add (i * 2)).block, (x.add (i * 2)).off + 1, none⟩ = some (.int .i64 b) ∧ W.cell? (y.add (k * 2)) = some (.int .i64 c) ∧ W.cell? ⟨(y.add (k * 2)).block, (y.add (k * 2)).off + 1, none⟩ = some (.int .i64 d) ∧ BothS w1 (some x) (some y) t u v out W := by
  obtain ⟨x', e1, p0, p1⟩ := rng_at h.c1 i f.hi
  obtain ⟨y', e2, q0, q1⟩ := rng_at h.c2 k f.hk
  injection e1 with e1
  injection e2 with e2
  subst e1
  subst e2
  rw [f.e0] at p0
  rw [f.e1] at p1
  rw [f.e2] at q0
  rw [f.e3] at q1
  exact ⟨p0, p1, q0, q1, h⟩
attribute [local go_sem high] max2_mx min2_mn max_two min_two
theorem Row.own {w : World} {base : Nat} {v : Value} {l : List S57} (h : Row w base v l) : w.ownsRow base 57 2 v l.length (flat57 l) := h
theorem BothS.put {w1 W w4 : World} {A1 A2 : Option Addr} {t u out out' : List S57} {v v' : Value} (h : BothS w1 A1 A2 t u v out W) (hQ : Row w4 w1.heap.size v' out') (hB : Below w1.heap.size W w4) : BothS w1 A1 A2 t u v' out' w4 :=
  ⟨h.1.trans hB, h.2.1, h.2.2.1, hQ⟩
theorem size_drew (w : World) : w.drew.heap.size = w.heap.size := rfl

end Go.Proofs.YtnfdppkbbfdmnaaGreatDoor.PD
