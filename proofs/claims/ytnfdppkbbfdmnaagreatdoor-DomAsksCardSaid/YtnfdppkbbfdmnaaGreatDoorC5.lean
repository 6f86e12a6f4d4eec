/- Parts of the laws of dom: functions of the program, each with the proof of what it answers; the conditions are those of each theorem. -/
import Derived.Test.YtnfdppkbbfdmnaaGreatDoorC3
import Derived.Test.YtnfdppkbbfdmnaaGreatDoorC4
import Derived.Test.YtnfdppkbbfdmnaaGreatDoorC1
import Derived.Deep.RegionHeld3
import Derived.Deep.DeepCutAuto
namespace Go.Proofs.YtnfdppkbbfdmnaaGreatDoor.PD
open Go.RowKit Go.Proofs.YtnfdppkbbfdmnaaGreatDoorW.PrintWords Go.Proofs.YtnfdppkbbfdmnaaGreatDoorW.PrintLast Go.Proofs.YtnfdppkbbfdmnaaGreatDoorW.PrintMore
set_option linter.unusedVariables false
set_option linter.unusedSimpArgs false
/-! ### the reference: Right, Taken, Min, Max -/
theorem in_f (x : Int) : jigsawref02_in.f x = some (inB x) := by
  unfold jigsawref02_in.f inB
  by_cases h : -1000000 ≤ x
  · rw [if_pos h, decide_eq_true h, Bool.true_and]
  · rw [if_neg h, decide_eq_false h, Bool.false_and]
theorem inB_iff (x : Int) : inB x = true ↔ -1000000 ≤ x ∧ x ≤ 1000000 := by
  unfold inB
  rw [Bool.and_eq_true, decide_eq_true_iff, decide_eq_true_iff]
theorem refright_l0 (l : List S57) (hl : l.length ≤ 4096) : ∀ (d i : Nat) (e : Int), l.length = i + d → (i = 0 → e = -1000002) → (∀ j, i = j + 1 → -1000000 ≤ e ∧ e ≤ 1000000 ∧ (rd_T57 l (j : Nat)).f1 = e) →
    jigsawref02_Right.l0 (d + 1) l (i : Int) = some (rightL e (l.drop i))
  | 0, i, e, hd, h1, h2 => by
    simp only [jigsawref02_Right.l0]
    rw [if_neg (by omega), List.drop_eq_nil_of_le (by omega)]
    rfl
  | d + 1, i, e, hd, h1, h2 => by
    have hi : i < l.length := by omega
    rw [List.drop_eq_getElem_cons hi]
    rw [jigsawref02_Right.l0]
    rw [if_pos (by omega), if_pos (by omega), in_f, in_f, rd57 l i hi]
    have hrec := refright_l0 l hl d (i + 1) l[i].f1 (by omega) (by omega)
    have hrd := rd57 l i hi
    unfold rightL
    generalize l[i] = s at *
    simp only [Option.bind_some]
    have he : -1000002 ≤ e ∧ e ≤ 1000000 := by
      cases i with
      | zero => have := h1 rfl; omega
      | succ j => have := h2 j rfl; omega
    have hw : wrap64 ((i : Int) + 1) = ((i + 1 : Nat) : Int) := IntWalk.wrap64_in _ (by omega)
    by_cases c0 : inB s.f0 = true
    · rw [if_pos c0]
      have c0' := (inB_iff _).1 c0
      by_cases c1 : inB s.f1 = true
      · rw [if_pos c1]
        have c1' := (inB_iff _).1 c1
        by_cases c2 : s.f0 > s.f1
        · rw [if_pos c2]
          by_cases c3 : s.f0 ≤ e + 1
          · rw [if_pos c3]
          · rw [if_neg c3, if_pos (by omega)]
        · rw [if_neg c2]
          have hrec' := hrec (fun j hj => ⟨by omega, by omega, by obtain rfl : i = j := by omega
                                                                  rw [hrd]⟩)
          cases i with
          | zero =>
            have := h1 rfl
            rw [if_neg (by simp), if_neg (by omega), if_neg (by omega), if_neg (by omega), hw]
            exact hrec'
          | succ j =>
            have := h2 j rfl
            rw [if_pos (by omega)]
            rw [show wrap64 (((j + 1 : Nat) : Int) - 1) = (j : Nat) by rw [IntWalk.wrap64_in _ (by omega)]; omega]
            rw [if_pos (by omega), if_pos (by omega), this.2.2]
            rw [show wrap64 (e + 1) = e + 1 from IntWalk.wrap64_in _ (by omega)]
            by_cases c3 : s.f0 ≤ e + 1
            · rw [if_pos c3, if_pos c3]
            · rw [if_neg c3, if_neg c3, if_neg (by omega), if_neg (by omega), hw]
              exact hrec'
      · rw [if_neg c1]
        have : ¬ (-1000000 ≤ s.f1 ∧ s.f1 ≤ 1000000) := fun h => c1 ((inB_iff _).2 h)
        by_cases c3 : s.f0 ≤ e + 1
        · rw [if_pos c3]
        · rw [if_neg c3]
          by_cases c4 : s.f1 < s.f0
          · rw [if_pos c4]
          · rw [if_neg c4, if_pos (by omega)]
    · rw [if_neg c0]
      have : ¬ (-1000000 ≤ s.f0 ∧ s.f0 ≤ 1000000) := fun h => c0 ((inB_iff _).2 h)
      by_cases c3 : s.f0 ≤ e + 1
      · rw [if_pos c3]
      · rw [if_neg c3]
        by_cases c4 : s.f1 < s.f0
        · rw [if_pos c4]
        · rw [if_neg c4, if_pos (by omega)]
theorem refright_f (l : List S57) : jigsawref02_Right.f (l.length + 1) l = some (rightS l) := by
  unfold jigsawref02_Right.f rightS
  by_cases h : 4096 < l.length
  · rw [if_pos (by omega), if_pos h]
  · rw [if_neg (by omega), if_neg h]
    exact refright_l0 l (by omega) l.length 0 _ (by omega) (fun _ => rfl) (fun j hj => by omega)
theorem Right_ref {v : Value} (l : List S57) (w : World) (h : Lst w v l) :
    Calls Tryz.prog 18 #[v] w fun e w' => e = .returned (.bool (rightS l)) ∧ Below w.heap.size w w' := by
  obtain ⟨A, c, rfl, hC, hc⟩ := h
  exact jigsawref02_Right.calls _ A c l _ w hC hc (refright_f l)
set_option maxHeartbeats 4000000 in
theorem Taken_ref {v : Value} (l : List S57) (w : World) (h : Lst w v l) :
    Calls Tryz.prog 70 #[v] w fun e w' => ∃ v', e = .returned v' ∧ Lst w' v' (takenL l) ∧ Below w.heap.size w w' ∧ (rightS l = true → v' = v) := by
  have HR := Lib.hid (Right_ref l w h)
  have H := Lib.hid h
  obtain ⟨A, c, rfl, _, _⟩ := h
  cases hR : rightS l with
  | true =>
    have HT := Lib.hid (takenL_of hR)
    have HX := Lib.hid hR
    go_enter Tryz.func70, Tryz.ntmps70
    go_wp2_with fail
    refine HR.out.mono ?_
    rw [HX.out]
    rintro e w1 ⟨rfl, hb⟩
    go_wp2_with fail
    go_ret
    refine ⟨_, rfl, ?_, hb, fun _ => rfl⟩
    rw [HT.out]
    exact H.out.below hb
  | false =>
    have HT := Lib.hid (show takenL l = [] by unfold takenL; rw [hR]; rfl)
    have HX := Lib.hid hR
    go_enter Tryz.func70, Tryz.ntmps70
    go_wp2_with fail
    refine HR.out.mono ?_
    rw [HX.out]
    rintro e w1 ⟨rfl, hb⟩
    go_wp2_with fail
    go_ret
    refine ⟨_, rfl, ?_, hb, fun h => by cases h⟩
    rw [HT.out]
    exact Lst.nil w1
def minL : List S57 → Int × Bool
  | [] => (0, false)
  | s :: _ => (s.f0, true)
set_option maxHeartbeats 4000000 in
theorem Min_ref {v : Value} (l : List S57) (w : World) (h : Lst w v l) :
    Calls Tryz.prog 28 #[v] w fun e w' => e = .returned (.tuple #[.int .i64 (minL (takenL l)).1, .bool (minL (takenL l)).2]) ∧ Below w.heap.size w w' := by
  have HT := Lib.hid (Taken_ref l w h)
  have hR := takenL_right l
  have hlen := right_le hR
  obtain ⟨A, c, rfl, _, _⟩ := h
  generalize takenL l = t at *
  clear hR
  go_enter Tryz.func28, Tryz.ntmps28
  go_wp2_with fail
  refine HT.out.mono ?_
  rintro e w1 ⟨v1, rfl, ⟨A1, c1, rfl, hC, hc1⟩, hb, _⟩
  cases t with
  | nil =>
    clear hC hc1
    have HE := Lib.hid (show minL [] = (0, false) from rfl)
    generalize minL [] = r at *
    go_wp2_with fail
    go_ret2
    exact ⟨rfl, hb⟩
  | cons s t =>
    obtain ⟨ad, hA, x0, x1⟩ := rng_at hC 0 (by simp)
    subst hA
    clear hC x1
    have HE : minL (s :: t) = (s.f0, true) := rfl
    have HE := Lib.hid HE
    simp only [List.getElem_cons_zero] at x0
    generalize s.f0 = a at *
    have x0' : w1.cell? ad = some (.int .i64 a) := (by
      have e : ad.add 0 = ad := by cases ad with | mk b o k => cases k <;> simp [Addr.add]
      rw [Nat.zero_mul, e] at x0
      exact x0)
    clear x0
    have h0' : 0 < (s :: t).length := by simp
    generalize (s :: t).length = m at *
    have hix := fun W => index_at ad m c1 0 (by omega) W
    have hg : decide ((m : Int) = 0) = false := decide_eq_false (by omega)
    have hg1 : ((m : Int) == 0) = false := by rw [beq_eq_false_iff_ne]; omega
    have hg2 : ((m : Nat) == 0) = false := by rw [beq_eq_false_iff_ne]; omega
    go_wp2_with fail
    go_ret2
    rw [HE.out]
    exact ⟨rfl, hb⟩
set_option maxHeartbeats 4000000 in
theorem Max_ref {v : Value} (l : List S57) (w : World) (h : Lst w v l) :
    Calls Tryz.prog 30 #[v] w fun e w' => e = .returned (.tuple #[.int .i64 (maxL (takenL l)).1, .bool (maxL (takenL l)).2]) ∧ Below w.heap.size w w' := by
  have HT := Lib.hid (Taken_ref l w h)
  have hR := takenL_right l
  have hlen := right_le hR
  obtain ⟨A, c, rfl, _, _⟩ := h
  generalize takenL l = t at *
  clear hR
  go_enter Tryz.func30, Tryz.ntmps30
  go_wp2_with fail
  refine HT.out.mono ?_
  rintro e w1 ⟨v1, rfl, ⟨A1, c1, rfl, hC, hc1⟩, hb, _⟩
  by_cases h0 : 0 < t.length
  · obtain ⟨ad, hA, x0, x1⟩ := rng_at hC (t.length - 1) (by omega)
    subst hA
    have HM := Lib.hid (maxL_at h0)
    clear hC x0
    generalize t[t.length - 1].f1 = b at *
    have h0' : 0 < t.length := h0
    clear h0
    generalize t.length = m at *
    have hix := fun W => index_at ad m c1 ((m : Int) - 1) (by omega) W
    rw [show ((m : Int) - 1).toNat = m - 1 by omega] at hix
    have hw1 : IntKind.i64.wrap ((m : Int) - 1) = (m : Int) - 1 := IntWalk.i64_in _ (by omega)
    have hg1 : ((m : Int) == 0) = false := by rw [beq_eq_false_iff_ne]; omega
    have hg2 : ((m : Nat) == 0) = false := by rw [beq_eq_false_iff_ne]; omega
    go_wp2_with fail
    go_ret2
    rw [HM.out]
    exact ⟨rfl, hb⟩
  · have ht : t = [] := List.length_eq_zero_iff.1 (by omega)
    subst ht
    clear hC hc1 h0
    go_wp2_with fail
    go_ret2
    exact ⟨rfl, hb⟩

end Go.Proofs.YtnfdppkbbfdmnaaGreatDoor.PD

namespace Go.Proofs.YtnfdppkbbfdmnaaGreatDoor.PD
open Go.RowKit Go.Proofs.YtnfdppkbbfdmnaaGreatDoorW.PrintWords Go.Proofs.YtnfdppkbbfdmnaaGreatDoorW.PrintLast Go.Proofs.YtnfdppkbbfdmnaaGreatDoorW.PrintMore
set_option linter.unusedVariables false
set_option linter.unusedSimpArgs false
/-! ### the reference: Next, Has, Size -/
set_option maxRecDepth 100000 in
set_option maxHeartbeats 4000000 in
theorem Next_ref {v : Value} (l : List S57) (x : Int) (w : World) (h : Lst w v l) :
    Calls Tryz.prog 32 #[v, .int .i64 x] w fun e w' => e = .returned (.tuple #[.int .i64 (nextL (takenL l) x).1, .bool (nextL (takenL l) x).2]) ∧ Below w.heap.size w w' := by
  have HT := Lib.hid (Taken_ref l w h)
  have hR := takenL_right l
  have hlen := right_le hR
  obtain ⟨A, c, rfl, _, _⟩ := h
  generalize takenL l = t at *
  clear hR
  go_enter Tryz.func32, Tryz.ntmps32
  go_wp2_with fail
  refine HT.out.mono ?_
  rintro e w1 ⟨v1, rfl, ⟨A1, c1, rfl, hC, hc1⟩, hb, _⟩
  have HC := Lib.hid hC; have HB := Lib.hid hb
  clear hC hb
  generalize hm : t.length = m at *
  have HL := Lib.hid hm
  clear hm
  go_wp2_with fail
  go_loopw [6] (fun i wr => ∃ k : Nat, i = .int .i64 k ∧ k ≤ m ∧ Hid (nextL t x = nextL (t.drop k) x) ∧ Hid (Below w1.heap.size w1 wr))
    (fun i _ => m - (intOf i).toNat)
  case atStart => exact ⟨0, rfl, Nat.zero_le _, Lib.hid rfl, Lib.hid (Below.refl _ _)⟩
  case round =>
    obtain ⟨k, rfl, hk, hN, hB⟩ := hrel
    by_cases hkm : k < m
    · have hkt : k < t.length := by rw [HL.out]; exact hkm
      obtain ⟨ad, hA, x0, x1⟩ := rng_at (Kd.C_below HC.out hB.out) k hkt
      subst hA
      have HN := Lib.hid (nextL_drop hkt x)
      generalize t[k].f0 = a at *
      generalize t[k].f1 = b at *
      have hix := fun W => index_at ad m c1 (k : Nat) (by omega) W
      simp only [Int.toNat_natCast] at hix
      by_cases hx : x ≤ b
      · have hxb : decide (x ≤ b) = true := decide_eq_true hx
        by_cases hy : x < a
        · have hyb : decide (x < a) = true := decide_eq_true hy
          go_wp2_with fail
          go_ret2
          refine ⟨?_, below_step HB.out hB.out⟩
          rw [hN.out, HN.out, if_pos hx, show max x a = a by omega]
          rfl
        · have hyb : decide (x < a) = false := decide_eq_false hy
          go_wp2_with fail
          go_ret2
          refine ⟨?_, below_step HB.out hB.out⟩
          rw [hN.out, HN.out, if_pos hx, show max x a = x by omega]
          rfl
      · have hxb : decide (x ≤ b) = false := decide_eq_false hx
        go_wp2_with fail
        refine ⟨⟨k + 1, by rw [Int.natCast_add]; rfl, by omega, Lib.hid (by rw [hN.out, HN.out, if_neg hx]), hB⟩, by simp [intOf]; omega⟩
    · obtain rfl : k = m := by omega
      go_wp2_with fail
      go_ret2
      refine ⟨?_, below_step HB.out hB.out⟩
      rw [hN.out, List.drop_of_length_le (by rw [HL.out]; exact Nat.le_refl _)]
      rfl
def hasL : List S57 → Int → Bool
  | [], _ => false
  | s :: t, v => if s.f0 ≤ v ∧ v ≤ s.f1 then true else hasL t v
theorem hasL_drop {l : List S57} {k : Nat} (h : k < l.length) (v : Int) : hasL (l.drop k) v = if l[k].f0 ≤ v ∧ v ≤ l[k].f1 then true else hasL (l.drop (k + 1)) v := by
  rw [List.drop_eq_getElem_cons h, hasL]
set_option maxRecDepth 100000 in
set_option maxHeartbeats 4000000 in
theorem Has_ref {v : Value} (l : List S57) (x : Int) (w : World) (h : Lst w v l) :
    Calls Tryz.prog 34 #[v, .int .i64 x] w fun e w' => e = .returned (.bool (hasL (takenL l) x)) ∧ Below w.heap.size w w' := by
  have HT := Lib.hid (Taken_ref l w h)
  have hR := takenL_right l
  have hlen := right_le hR
  obtain ⟨A, c, rfl, _, _⟩ := h
  generalize takenL l = t at *
  clear hR
  go_enter Tryz.func34, Tryz.ntmps34
  go_wp2_with fail
  refine HT.out.mono ?_
  rintro e w1 ⟨v1, rfl, ⟨A1, c1, rfl, hC, hc1⟩, hb, _⟩
  have HC := Lib.hid hC; have HB := Lib.hid hb
  clear hC hb
  generalize hm : t.length = m at *
  have HL := Lib.hid hm
  clear hm
  go_wp2_with fail
  go_loopw [5] (fun i wr => ∃ k : Nat, i = .int .i64 k ∧ k ≤ m ∧ Hid (hasL t x = hasL (t.drop k) x) ∧ Hid (Below w1.heap.size w1 wr))
    (fun i _ => m - (intOf i).toNat)
  case atStart => exact ⟨0, rfl, Nat.zero_le _, Lib.hid rfl, Lib.hid (Below.refl _ _)⟩
  case round =>
    obtain ⟨k, rfl, hk, hN, hB⟩ := hrel
    by_cases hkm : k < m
    · have hkt : k < t.length := by rw [HL.out]; exact hkm
      obtain ⟨ad, hA, x0, x1⟩ := rng_at (Kd.C_below HC.out hB.out) k hkt
      subst hA
      have HN := Lib.hid (hasL_drop hkt x)
      generalize t[k].f0 = a at *
      generalize t[k].f1 = b at *
      have hix := fun W => index_at ad m c1 (k : Nat) (by omega) W
      simp only [Int.toNat_natCast] at hix
      by_cases hx : a ≤ x
      · have hxb : decide (a ≤ x) = true := decide_eq_true hx
        by_cases hy : x ≤ b
        · have hyb : decide (x ≤ b) = true := decide_eq_true hy
          go_wp2_with fail
          go_ret
          refine ⟨?_, below_step HB.out hB.out⟩
          rw [hN.out, HN.out, if_pos ⟨hx, hy⟩]
          rfl
        · have hyb : decide (x ≤ b) = false := decide_eq_false hy
          go_wp2_with fail
          refine ⟨⟨k + 1, by rw [Int.natCast_add]; rfl, by omega, Lib.hid (by rw [hN.out, HN.out, if_neg (fun h => hy h.2)]), hB⟩, by simp [intOf]; omega⟩
      · have hxb : decide (a ≤ x) = false := decide_eq_false hx
        go_wp2_with fail
        refine ⟨⟨k + 1, by rw [Int.natCast_add]; rfl, by omega, Lib.hid (by rw [hN.out, HN.out, if_neg (fun h => hx h.1)]), hB⟩, by simp [intOf]; omega⟩
    · obtain rfl : k = m := by omega
      go_wp2_with fail
      go_ret
      refine ⟨?_, below_step HB.out hB.out⟩
      rw [hN.out, List.drop_of_length_le (by rw [HL.out]; exact Nat.le_refl _)]
      rfl
set_option maxRecDepth 100000 in
set_option maxHeartbeats 4000000 in
theorem Size_ref {v : Value} (l : List S57) (w : World) (h : Lst w v l) :
    Calls Tryz.prog 36 #[v] w fun e w' => e = .returned (.int .i64 (sizeL (takenL l))) ∧ Below w.heap.size w w' := by
  have HT := Lib.hid (Taken_ref l w h)
  have hR := takenL_right l
  have hlen := right_le hR
  have hmem := right_mem hR
  obtain ⟨A, c, rfl, _, _⟩ := h
  generalize takenL l = t at *
  have HM := Lib.hid hmem
  clear hmem
  go_enter Tryz.func36, Tryz.ntmps36
  go_wp2_with fail
  refine HT.out.mono ?_
  rintro e w1 ⟨v1, rfl, ⟨A1, c1, rfl, hC, hc1⟩, hb, _⟩
  have HC := Lib.hid hC; have HB := Lib.hid hb
  clear hC hb
  generalize hm : t.length = m at *
  have HL := Lib.hid hm
  clear hm
  go_wp2_with fail
  go_loopw [3, 4] (fun a i wr => ∃ k : Nat, i = .int .i64 k ∧ k ≤ m ∧ a = .int .i64 (sizeL (t.take k)) ∧ Hid (Below w1.heap.size w1 wr))
    (fun _ i _ => m - (intOf i).toNat)
  case atStart => exact ⟨0, rfl, Nat.zero_le _, rfl, Lib.hid (Below.refl _ _)⟩
  case round =>
    obtain ⟨k, rfl, hk, rfl, hB⟩ := hrel
    by_cases hkm : k < m
    · have hkt : k < t.length := by rw [HL.out]; exact hkm
      obtain ⟨ad, hA, x0, x1⟩ := rng_at (Kd.C_below HC.out hB.out) k hkt
      subst hA
      have hs := HM.out _ (List.getElem_mem hkt)
      have hpre := sizeL_bound (t.take k) (fun s hs => HM.out s (List.mem_of_mem_take hs))
      rw [List.length_take] at hpre
      have HS := Lib.hid (show sizeL (t.take (k + 1)) = sizeL (t.take k) + (t[k].f1 - t[k].f0 + 1) by rw [take_at hkt, sizeL_snoc])
      generalize t[k].f0 = a at *
      generalize t[k].f1 = b at *
      generalize sizeL (t.take k) = n at *
      have hw1 : IntKind.i64.wrap (n + b) = n + b := IntWalk.i64_in _ (by omega)
      have hw2 : IntKind.i64.wrap (n + b - a) = n + b - a := IntWalk.i64_in _ (by omega)
      have hw3 : IntKind.i64.wrap (n + b - a + 1) = n + b - a + 1 := IntWalk.i64_in _ (by omega)
      have hix := fun W => index_at ad m c1 (k : Nat) (by omega) W
      simp only [Int.toNat_natCast] at hix
      have hz1' : (0 : Int) ≤ (k : Int) := by omega
      have hk3 : (k : Int) < (m : Int) := by omega
      go_wp2_with fail
      go_quiet (fail)
      go_wp2_with fail
      refine ⟨⟨k + 1, by rw [Int.natCast_add]; rfl, by omega, by rw [HS.out]; congr 1; omega, Lib.hid (below_step hB.out (Drawn0.below ⟨⟨_, rfl⟩⟩))⟩, by simp [intOf]; omega⟩
    · obtain rfl : k = m := by omega
      rw [List.take_of_length_le (by rw [HL.out]; exact Nat.le_refl _)]
      go_wp2_with fail
      go_ret
      exact ⟨rfl, below_step HB.out hB.out⟩

end Go.Proofs.YtnfdppkbbfdmnaaGreatDoor.PD

namespace Go.Proofs.YtnfdppkbbfdmnaaGreatDoor.PD
open Go.RowKit Go.Proofs.YtnfdppkbbfdmnaaGreatDoorW.PrintWords Go.Proofs.YtnfdppkbbfdmnaaGreatDoorW.PrintLast Go.Proofs.YtnfdppkbbfdmnaaGreatDoorW.PrintMore
set_option linter.unusedVariables false
set_option linter.unusedSimpArgs false
/-! ### the reference: Cut -/
end Go.Proofs.YtnfdppkbbfdmnaaGreatDoor.PD

namespace Go.Proofs.YtnfdppkbbfdmnaaGreatDoor.PD
open Go.RowKit Go.Proofs.YtnfdppkbbfdmnaaGreatDoorW.PrintWords Go.Proofs.YtnfdppkbbfdmnaaGreatDoorW.PrintLast Go.Proofs.YtnfdppkbbfdmnaaGreatDoorW.PrintMore
attribute [local go_sem] max2_int min2_int max_two min_two max_three min_three max_four min_four   -- for this text's walks alone
set_option linter.unusedVariables false
set_option linter.unusedSimpArgs false

/-! ### jigsawref02_not: function 78 -/
end Go.Proofs.YtnfdppkbbfdmnaaGreatDoor.PD

namespace Go.Proofs.YtnfdppkbbfdmnaaGreatDoor.PD
open Go.RowKit Go.Proofs.YtnfdppkbbfdmnaaGreatDoorW.PrintWords Go.Proofs.YtnfdppkbbfdmnaaGreatDoorW.PrintLast Go.Proofs.YtnfdppkbbfdmnaaGreatDoorW.PrintMore
attribute [local go_sem] max2_int min2_int max_two min_two max_three min_three max_four min_four   -- for this text's walks alone
set_option linter.unusedVariables false
set_option linter.unusedSimpArgs false

theorem eqA57 (d : Nat) (w : World) (x0 y0 : Int) (x1 y1 : Int) :
    (Op.equalIn (d + 2) 57 (.agg #[.int .i64 x0, .int .i64 x1]) (.agg #[.int .i64 y0, .int .i64 y1])).run Tryz.prog w = .ok (x0 == y0 && (x1 == y1)) w := by
  refine eqA_of Tryz.underlying57 (by kernel_rfl) ?_
  refine eqf_cons (by rfl) (by go_simp; rfl) (by go_simp; rfl) (by go_simp) ?_
  exact eqf_last (by rfl) (by go_simp; rfl) (by go_simp; rfl) (by go_simp)
end Go.Proofs.YtnfdppkbbfdmnaaGreatDoor.PD

namespace Go.Proofs.YtnfdppkbbfdmnaaGreatDoor.PD
open Go.RowKit Go.Proofs.YtnfdppkbbfdmnaaGreatDoorW.PrintWords Go.Proofs.YtnfdppkbbfdmnaaGreatDoorW.PrintLast Go.Proofs.YtnfdppkbbfdmnaaGreatDoorW.PrintMore
attribute [local go_sem] max2_int min2_int max_two min_two max_three min_three max_four min_four   -- for this text's walks alone
set_option linter.unusedVariables false
set_option linter.unusedSimpArgs false

attribute [local go_sem high] eqA57
/-! ### jigsawref02_Alike: function 16 -/
def jigsawref02_Alike.l0 : Nat → List (S57) → List (S57) → Int → Option (Bool)
  | 0, _, _, _ => none
  | k + 1, x0, x1, x5 => if x5 < (x0.length : Int) then (if 0 ≤ x5 then (if x5 < (x1.length : Int) then (if (!(((rd_T57 x0 x5).f0) == ((rd_T57 x1 x5).f0)) || (!(((rd_T57 x0 x5).f1) == ((rd_T57 x1 x5).f1)))) = true then (some false) else (jigsawref02_Alike.l0 k x0 x1 (wrap64 (x5 + 1)))) else (none)) else (none)) else (some true)
def jigsawref02_Alike.f (k : Nat) (l0 : List (S57)) (l1 : List (S57)) : Option (Bool) := if (l0.length : Int) = (l1.length : Int) then (jigsawref02_Alike.l0 k l0 l1 0) else (some false)
theorem jigsawref02_Alike.mono_l : ∀ k, (∀ y0 y1 y2, LeO (jigsawref02_Alike.l0 k y0 y1 y2) (jigsawref02_Alike.l0 (k + 1) y0 y1 y2))
  | 0 => fun _ _ _ r h => by simp [jigsawref02_Alike.l0] at h
  | k + 1 => by
    have ih0 := jigsawref02_Alike.mono_l k
    · intro y0 y1 y2
      unfold jigsawref02_Alike.l0
      repeat' first
      | (with_reducible exact ih0 _ _ _)
      | (with_reducible exact LeO.refl _)
      | (with_reducible exact LeO.none _)
      | (with_reducible refine LeO.ite ?_ ?_)
      | (with_reducible refine LeO.bind ?_ (fun _ => ?_))
      | exact ih0 _ _ _
      | exact LeO.none _
      | refine LeO.ite ?_ ?_
      | refine LeO.bind ?_ (fun _ => ?_)
theorem jigsawref02_Alike.mono : ∀ a0 a1 k, LeO (jigsawref02_Alike.f k a0 a1) (jigsawref02_Alike.f (k + 1) a0 a1) := by
  intro a0 a1 k
  have ih0 := jigsawref02_Alike.mono_l k
  unfold jigsawref02_Alike.f
  repeat' first
      | (with_reducible exact ih0 _ _ _)
      | (with_reducible exact LeO.refl _)
      | (with_reducible exact LeO.none _)
      | (with_reducible refine LeO.ite ?_ ?_)
      | (with_reducible refine LeO.bind ?_ (fun _ => ?_))
      | exact ih0 _ _ _
      | exact LeO.none _
      | refine LeO.ite ?_ ?_
      | refine LeO.bind ?_ (fun _ => ?_)
set_option maxHeartbeats 8000000 in
set_option maxRecDepth 100000 in
theorem jigsawref02_Alike.calls (k : Nat) (A0 : Option Addr) (c0 : Nat) (l0 : List (S57)) (A1 : Option Addr) (c1 : Nat) (l1 : List (S57)) (r : Bool) (w : World) (hr0 : Kd.C k57 w A0 l0.length l0) (hc0 : l0.length ≤ c0) (hr1 : Kd.C k57 w A1 l1.length l1) (hc1 : l1.length ≤ c1) (h : jigsawref02_Alike.f k l0 l1 = some r) :
    Calls Tryz.prog 16 #[.slice A0 l0.length c0, .slice A1 l1.length c1] w fun e w' => e = .returned (.bool r) ∧ Drawn0 w w' := by
  have hu57 := Tryz.underlying57
  have HR0 := Aside0.mk hr0
  have HC0 := Aside0.mk hc0
  clear hr0 hc0
  have HR1 := Aside0.mk hr1
  have HC1 := Aside0.mk hc1
  clear hr1 hc1
  have H : (if (l0.length : Int) = (l1.length : Int) then (jigsawref02_Alike.l0 k l0 l1 0) else (some false)) = some r := h
  clear h
  by_cases c3 : (l0.length : Int) = (l1.length : Int)
  · rw [if_pos c3] at H
    have c3b0 : ((l0.length : Int) == (l1.length : Int)) = true := beq_iff_eq.mpr c3
    have c3b1 : ((l0.length : Int) != (l1.length : Int)) = false := bne_eq_false_iff_eq.mpr c3
    have c3b2 : (l0.length == l1.length) = true := by first | simpa using c3 | (simp at c3 ⊢; omega)
    clear c3
    have H' := Aside0.mk H
    clear H
    go_enter Tryz.func16, Tryz.ntmps16
    go_wp2
    repeat (go_quiet (fail); try go_wp2)
    go_loopg [5] k (fun kq v5 w' => ∃ (x5_1 : Int), v5 = .int .i64 x5_1 ∧ Aside0 (jigsawref02_Alike.l0 kq l0 l1 x5_1 = some r) ∧ Aside0 (kq ≤ k) ∧ Drawn0 w w')
    case atStart => exact ⟨(0), (by first | rfl | (simp; done) | (simp [*]; done)), H', ⟨Nat.le_refl _⟩, by repeat (first | exact Drawn0.refl _ | apply Drawn0.step)⟩
    case round =>
      clear H'
      try clear c1
      try clear p2
      try clear c3
      try clear c3b0
      try clear c3b1
      try clear c3b2
      obtain ⟨x5_1, rfl, HA, HK1, ⟨m1, rfl⟩⟩ := hrel
      cases gk with
      | zero => exact absurd HA.out (by simp [jigsawref02_Alike.l0])
      | succ k1 =>
        have H := HA.out
        clear HA
        simp only [jigsawref02_Alike.l0] at H
        by_cases c4 : x5_1 < (l0.length : Int)
        · rw [if_pos c4] at H
          have c4b0 : decide (x5_1 < (l0.length : Int)) = true := decide_eq_true c4
          clear c4
          by_cases c5 : 0 ≤ x5_1
          · rw [if_pos c5] at H
            have c5b0 : decide (0 ≤ x5_1) = true := decide_eq_true c5
            clear c5
            by_cases c6 : x5_1 < (l1.length : Int)
            · rw [if_pos c6] at H
              have c6b0 : decide (x5_1 < (l1.length : Int)) = true := decide_eq_true c6
              clear c6
              by_cases c7 : (!(((rd_T57 l0 x5_1).f0) == ((rd_T57 l1 x5_1).f0)) || (!(((rd_T57 l0 x5_1).f1) == ((rd_T57 l1 x5_1).f1)))) = true
              · rw [if_pos c7] at H
                have c7b0 : (!(((rd_T57 l0 x5_1).f0) == ((rd_T57 l1 x5_1).f0)) || (!(((rd_T57 l0 x5_1).f1) == ((rd_T57 l1 x5_1).f1)))) = true := c7
                clear c7
                obtain rfl := Option.some.inj H
                have p213 : 0 ≤ (x5_1 : Int) := of_decide_eq_true (by first | (with_reducible assumption) | assumption)
                have q213 : x5_1 < (l0.length : Int) := of_decide_eq_true (by first | (with_reducible assumption) | assumption)
                obtain ⟨ad213, e213, hx213_0, hx213_1⟩ := at_T57 HR0.out x5_1 p213 q213
                cases e213
                replace p213 := eq_true p213
                replace q213 := eq_true q213
                have p214 : 0 ≤ (x5_1 : Int) := of_decide_eq_true (by first | (with_reducible assumption) | assumption)
                have q214 : x5_1 < (l1.length : Int) := of_decide_eq_true (by first | (with_reducible assumption) | assumption)
                obtain ⟨ad214, e214, hx214_0, hx214_1⟩ := at_T57 HR1.out x5_1 p214 q214
                cases e214
                replace p214 := eq_true p214
                replace q214 := eq_true q214
                go_wp2
                repeat (go_quiet (fail); try go_wp2)
                go_ret
                exact ⟨by first | rfl | (simp; done) | (simp [*]; done), by repeat (first | exact Drawn0.refl _ | apply Drawn0.step)⟩
              · rw [if_neg c7] at H
                have c7b0 : (!(((rd_T57 l0 x5_1).f0) == ((rd_T57 l1 x5_1).f0)) || (!(((rd_T57 l0 x5_1).f1) == ((rd_T57 l1 x5_1).f1)))) = false := by simpa using c7
                clear c7
                have H' := Aside0.mk H
                clear H
                have p213 : 0 ≤ (x5_1 : Int) := of_decide_eq_true (by first | (with_reducible assumption) | assumption)
                have q213 : x5_1 < (l0.length : Int) := of_decide_eq_true (by first | (with_reducible assumption) | assumption)
                obtain ⟨ad213, e213, hx213_0, hx213_1⟩ := at_T57 HR0.out x5_1 p213 q213
                cases e213
                replace p213 := eq_true p213
                replace q213 := eq_true q213
                have p214 : 0 ≤ (x5_1 : Int) := of_decide_eq_true (by first | (with_reducible assumption) | assumption)
                have q214 : x5_1 < (l1.length : Int) := of_decide_eq_true (by first | (with_reducible assumption) | assumption)
                obtain ⟨ad214, e214, hx214_0, hx214_1⟩ := at_T57 HR1.out x5_1 p214 q214
                cases e214
                replace p214 := eq_true p214
                replace q214 := eq_true q214
                go_wp2
                repeat (go_quiet (fail); try go_wp2)
                go_roundg k1
                case measure => have := HK1.out; omega
                case rel => exact ⟨(wrap64 (x5_1 + 1)), (by first | rfl | (simp; done) | (simp [*]; done)), H', ⟨by have := HK1.out; omega⟩, by repeat (first | exact Drawn0.refl _ | apply Drawn0.step)⟩
            · rw [if_neg c6] at H
              exact absurd H (by simp)
          · rw [if_neg c5] at H
            exact absurd H (by simp)
        · rw [if_neg c4] at H
          have c4b0 : decide (x5_1 < (l0.length : Int)) = false := decide_eq_false c4
          clear c4
          obtain rfl := Option.some.inj H
          go_wp2
          repeat (go_quiet (fail); try go_wp2)
          go_ret
          exact ⟨by first | rfl | (simp; done) | (simp [*]; done), by repeat (first | exact Drawn0.refl _ | apply Drawn0.step)⟩
  · rw [if_neg c3] at H
    have c3b0 : ((l0.length : Int) == (l1.length : Int)) = false := beq_eq_false_iff_ne.mpr c3
    have c3b1 : ((l0.length : Int) != (l1.length : Int)) = true := bne_iff_ne.mpr c3
    have c3b2 : (l0.length == l1.length) = false := by first | simpa using c3 | (simp at c3 ⊢; omega)
    obtain rfl := Option.some.inj H
    go_enter Tryz.func16, Tryz.ntmps16
    go_wp2
    repeat (go_quiet (fail); try go_wp2)
    go_ret
    exact ⟨by first | rfl | (simp; done) | (simp [*]; done), by repeat (first | exact Drawn0.refl _ | apply Drawn0.step)⟩
end Go.Proofs.YtnfdppkbbfdmnaaGreatDoor.PD

namespace Go.Proofs.YtnfdppkbbfdmnaaGreatDoor.PD
open Go.RowKit Go.Proofs.YtnfdppkbbfdmnaaGreatDoorW.PrintWords Go.Proofs.YtnfdppkbbfdmnaaGreatDoorW.PrintLast Go.Proofs.YtnfdppkbbfdmnaaGreatDoorW.PrintMore
attribute [local go_sem] max2_int min2_int max_two min_two max_three min_three max_four min_four   -- for this text's walks alone
set_option linter.unusedVariables false
set_option linter.unusedSimpArgs false

attribute [local go_sem high] eqA57
/-! ### api_Range_74: function 74 -/
end Go.Proofs.YtnfdppkbbfdmnaaGreatDoor.PD

namespace Go.Proofs.YtnfdppkbbfdmnaaGreatDoor.PD
open Go.RowKit Go.Proofs.YtnfdppkbbfdmnaaGreatDoorW.PrintWords Go.Proofs.YtnfdppkbbfdmnaaGreatDoorW.PrintLast Go.Proofs.YtnfdppkbbfdmnaaGreatDoorW.PrintMore
set_option linter.unusedVariables false
set_option linter.unusedSimpArgs false
/-! ### the reference's not, Not; alike, Same -/
theorem S57_eta {a b : S57} (h0 : a.f0 = b.f0) (h1 : a.f1 = b.f1) : a = b := by
  cases a; cases b; cases h0; cases h1; rfl
theorem alike_l0 (a b : List S57) (hl : a.length = b.length) (hm : a.length ≤ 9223372036854775000) : ∀ (d i : Nat), a.length = i + d →
    ∃ r, jigsawref02_Alike.l0 (d + 1) a b (i : Int) = some r ∧ (r = true ↔ a.drop i = b.drop i)
  | 0, i, hd => ⟨true, by rw [jigsawref02_Alike.l0, if_neg (by omega)], by rw [List.drop_eq_nil_of_le (by omega), List.drop_eq_nil_of_le (by omega)]; simp⟩
  | d + 1, i, hd => by
    have hi : i < a.length := by omega
    have hi2 : i < b.length := by omega
    obtain ⟨r, hr, hiff⟩ := alike_l0 a b hl hm d (i + 1) (by omega)
    rw [List.drop_eq_getElem_cons hi, List.drop_eq_getElem_cons hi2, jigsawref02_Alike.l0]
    rw [if_pos (by omega), if_pos (by omega), if_pos (by omega), rd57 a i hi, rd57 b i hi2]
    generalize a[i] = s at *
    generalize b[i] = u at *
    have hw : wrap64 ((i : Int) + 1) = ((i + 1 : Nat) : Int) := IntWalk.wrap64_in _ (by omega)
    rw [hw]
    by_cases h0 : s.f0 = u.f0
    · by_cases h1 : s.f1 = u.f1
      · refine ⟨r, by rw [if_neg (by simp [h0, h1]), hr], ?_⟩
        rw [hiff, S57_eta h0 h1]
        simp
      · refine ⟨false, by rw [if_pos (by simp [h1])], ?_⟩
        simp only [Bool.false_eq_true, List.cons.injEq, false_iff]
        rintro ⟨rfl, _⟩
        exact h1 rfl
    · refine ⟨false, by rw [if_pos (by simp [h0])], ?_⟩
      simp only [Bool.false_eq_true, List.cons.injEq, false_iff]
      rintro ⟨rfl, _⟩
      exact h0 rfl
theorem alike_f (a b : List S57) (hm : a.length ≤ 9223372036854775000) : ∃ r, jigsawref02_Alike.f (a.length + 1) a b = some r ∧ (r = true ↔ a = b) := by
  unfold jigsawref02_Alike.f
  by_cases h : a.length = b.length
  · rw [if_pos (by omega)]
    obtain ⟨r, hr, hiff⟩ := alike_l0 a b h hm a.length 0 (by omega)
    exact ⟨r, hr, by rw [hiff, List.drop_zero, List.drop_zero]⟩
  · rw [if_neg (by omega)]
    exact ⟨false, rfl, by simp only [Bool.false_eq_true, false_iff]; rintro rfl; exact h rfl⟩
theorem Alike_ref {v1 v2 : Value} (a b : List S57) (w : World) (h1 : Lst w v1 a) (h2 : Lst w v2 b) (hm : a.length ≤ 9223372036854775000) :
    Calls Tryz.prog 16 #[v1, v2] w fun e w' => ∃ r, e = .returned (.bool r) ∧ (r = true ↔ a = b) ∧ Below w.heap.size w w' := by
  obtain ⟨A, c, rfl, hC, hc⟩ := h1
  obtain ⟨A', c', rfl, hC', hc'⟩ := h2
  obtain ⟨r, hr, hi⟩ := alike_f a b hm
  refine (jigsawref02_Alike.calls _ A c a A' c' b r w hC hc hC' hc' hr).mono ?_
  rintro e w' ⟨rfl, hd⟩
  exact ⟨r, rfl, hi, hd.below⟩
end Go.Proofs.YtnfdppkbbfdmnaaGreatDoor.PD

namespace Go.Proofs.YtnfdppkbbfdmnaaGreatDoor.PD
open Go.RowKit Go.Proofs.YtnfdppkbbfdmnaaGreatDoorW.PrintWords Go.Proofs.YtnfdppkbbfdmnaaGreatDoorW.PrintLast Go.Proofs.YtnfdppkbbfdmnaaGreatDoorW.PrintMore
attribute [local go_sem] max2_int min2_int max_two min_two max_three min_three max_four min_four   -- for this text's walks alone
set_option linter.unusedVariables false
set_option linter.unusedSimpArgs false

/-! ### jigsawref02_joined: function 61 -/
end Go.Proofs.YtnfdppkbbfdmnaaGreatDoor.PD

namespace Go.Proofs.YtnfdppkbbfdmnaaGreatDoor.PD
open Go.RowKit Go.Proofs.YtnfdppkbbfdmnaaGreatDoorW.PrintWords Go.Proofs.YtnfdppkbbfdmnaaGreatDoorW.PrintLast Go.Proofs.YtnfdppkbbfdmnaaGreatDoorW.PrintMore
attribute [local go_sem] max2_int min2_int max_two min_two max_three min_three max_four min_four   -- for this text's walks alone
set_option linter.unusedVariables false
set_option linter.unusedSimpArgs false

attribute [local go_sem high] eqA57
/-! ### jigsawref02_Norm: function 13 -/
end Go.Proofs.YtnfdppkbbfdmnaaGreatDoor.PD

namespace Go.Proofs.YtnfdppkbbfdmnaaGreatDoor.PD
open Go.RowKit Go.Proofs.YtnfdppkbbfdmnaaGreatDoorW.PrintWords Go.Proofs.YtnfdppkbbfdmnaaGreatDoorW.PrintLast Go.Proofs.YtnfdppkbbfdmnaaGreatDoorW.PrintMore
set_option linter.unusedVariables false
set_option linter.unusedSimpArgs false
/-! ### appending a whole list -/
theorem Row.toR {w : World} {base : Nat} {v : Value} {l : List S57} (h : Row w base v l) : Kd.R k57 57 w base (fun _ => True) v l := by
  refine ⟨fun _ _ => trivial, flat57 l, h, ?_⟩
  obtain ⟨r, rfl⟩ : ∃ r, l = r.reverse := ⟨l.reverse, by simp⟩
  clear h
  induction r with
  | nil => exact Reps.none _ _
  | cons s r ih =>
    rw [List.reverse_cons, flat57_snoc]
    exact ih.snoc (k57_mkM _ _ _ s) rfl
section
variable {ops : Array Oper} {rest : List Oper} {o : Oper} {a : Act} {Q : Exit → Act → World → Prop}
theorem append_lst {w0 W : World} (base : Nat) (hgd : o.guard = none) (s x : Operand)
    (ho : o.op = .call { callee := .builtin .append, args := #[s, x], argTypes := #[23, 23] })
    (v : Value) (xs ys : List S57) (A : Option Addr) (m c : Nat) (hs : a.eval s = v) (hx : a.eval x = .slice A m c)
    (HO : Row W base v xs) (HR : Kd.C k57 W A m ys) (HB : Below base w0 W) (hbase : base ≤ W.heap.size) (hl : xs.length + m ≤ 8796093022000)
    (h : ∀ v1 w1, Row w1 base v1 (xs ++ ys) → Below base w0 w1 → wpList Tryz.prog ops Q rest (a.put o.dst v1) w1) :
    wpList Tryz.prog ops Q (o :: rest) a W := by
  refine Kd.R_append_rows k57 (w0 := w0) base hgd s x 23 57 (.agg #[(.int .i64 0), (.int .i64 0)]) 16 ho Tryz.underlying23 info57 rfl (by decide) (by omega) v xs ys A m c (fun _ => True) (fun _ => False) hs hx HO.toR HR (fun _ _ h => h) (fun _ h => h.elim) (fun _ _ => trivial) HB hbase (by omega) ?_
  intro v1 w1 ho1 hb1 _ _
  exact h v1 w1 (R57_row ho1) hb1
end
section
variable {ops : Array Oper} {o : Oper} {a : Act} {Q : Exit → Act → World → Prop} {Kc : Act → World → Prop}
end
/-- a list that is read, in a world that grows -/
def CutS (w1 : World) (A1 : Option Addr) (u : List S57) (W : World) : Prop := Below w1.heap.size w1 W ∧ Kd.C k57 w1 A1 u.length u
structure CutF (u : List S57) (k : Nat) (a b : Int) : Prop where
  hk : k < u.length
  e0 : u[k].f0 = a
  e1 : u[k].f1 = b
theorem CutS.step {w1 W W' : World} {A1 : Option Addr} {u : List S57} (h : CutS w1 A1 u W) (hb : Below W.heap.size W W') : CutS w1 A1 u W' := ⟨below_step h.1 hb, h.2⟩
theorem CutS.all {w1 W : World} {x : Addr} {u : List S57} {k : Nat} {a b : Int} (h : CutS w1 (some x) u W) (f : CutF u k a b) :
    W.cell? (x.add (k * 2)) = some (.int .i64 a) ∧ W.cell? ⟨(x.add (k * 2)).block, (x.add (k * 2)).off + 1, none⟩ = some (.int .i64 b) ∧ CutS w1 (some x) u W := by
  obtain ⟨x', e1, p0, p1⟩ := rng_at (Kd.C_below h.2 h.1) k f.hk
  injection e1 with e1
  subst e1
  rw [f.e0] at p0
  rw [f.e1] at p1
  exact ⟨p0, p1, h⟩
end Go.Proofs.YtnfdppkbbfdmnaaGreatDoor.PD

namespace Go.Proofs.YtnfdppkbbfdmnaaGreatDoor.PD
open Go.RowKit Go.Proofs.YtnfdppkbbfdmnaaGreatDoorW.PrintWords Go.Proofs.YtnfdppkbbfdmnaaGreatDoorW.PrintLast Go.Proofs.YtnfdppkbbfdmnaaGreatDoorW.PrintMore
set_option linter.unusedVariables false
set_option linter.unusedSimpArgs false
/-! ### what the reference makes of ranges in any order -/
def posOf (s : List S57) (v : S57) : Nat → Nat
  | 0 => 0
  | j + 1 => if (rd_T57 s (j : Nat)).f0 > v.f0 then posOf s v j else j + 1
def insAt (s : List S57) (v : S57) (p : Nat) : List S57 := s.take p ++ [v] ++ s.drop p
theorem posOf_le (s : List S57) (v : S57) : ∀ j, posOf s v j ≤ j
  | 0 => Nat.le_refl _
  | j + 1 => by
    rw [posOf]
    split
    · have := posOf_le s v j; omega
    · omega
/-- put in behind all that begin no later -/
def ins (s : List S57) (v : S57) : List S57 := insAt s v (posOf s v s.length)
theorem set_last (ys : List S57) (x y : S57) : (ys ++ [x]).set ys.length y = ys ++ [y] := by
  rw [List.set_append_right _ _ (Nat.le_refl _), Nat.sub_self]
  rfl
def inR (s : S57) : Prop := -1000000 ≤ s.f0 ∧ s.f0 ≤ 1000000 ∧ -1000000 ≤ s.f1 ∧ s.f1 ≤ 1000000
theorem mergeStep_in {out : List S57} {v : S57} (h : ∀ s ∈ out, inR s) (hv : inR v) : ∀ s ∈ mergeStep out v, inR s := by
  rcases snoc_cases out with rfl | ⟨ys, x, rfl⟩
  · intro s hs
    have : s = v := by simpa [mergeStep] using hs
    rw [this]; exact hv
  · unfold mergeStep
    rw [List.getLast?_append, List.getLast?_singleton]
    simp only [Option.some_or, List.dropLast_concat]
    have hx := h x (by simp)
    split
    · intro s hs
      rw [List.mem_append, List.mem_singleton] at hs
      rcases hs with hs | rfl
      · exact h s (by simp [hs])
      · unfold inR at *
        simp only
        omega
    · intro s hs
      rw [List.mem_append, List.mem_singleton] at hs
      rcases hs with hs | rfl
      · exact h s hs
      · exact hv
/-! in order -/
def Srt (l : List S57) : Prop := l.Pairwise fun a b => a.f0 ≤ b.f0
theorem posOf_spec (s : List S57) (v : S57) : ∀ j, j ≤ s.length → (∀ q (h : q < s.length), posOf s v j ≤ q → q < j → v.f0 < s[q].f0) ∧ (0 < posOf s v j → ∃ h : posOf s v j - 1 < s.length, s[posOf s v j - 1].f0 ≤ v.f0)
  | 0, _ => ⟨fun q h h1 h2 => by omega, fun h => absurd h (by rw [posOf]; omega)⟩
  | j + 1, hj => by
    have ih := posOf_spec s v j (by omega)
    have hr := rd57 s j (by omega)
    rw [posOf]
    split
    · rename_i hc
      rw [hr] at hc
      refine ⟨fun q h h1 h2 => ?_, ih.2⟩
      by_cases e : q = j
      · subst e; exact hc
      · exact ih.1 q h h1 (by omega)
    · rename_i hc
      rw [hr] at hc
      refine ⟨fun q h h1 h2 => by omega, fun _ => ⟨by omega, ?_⟩⟩
      show s[j].f0 ≤ v.f0
      omega
theorem ins_srt {s : List S57} (v : S57) (h : Srt s) : Srt (ins s v) := by
  have hp := posOf_spec s v s.length (Nat.le_refl _)
  have hle := posOf_le s v s.length
  unfold ins insAt
  generalize posOf s v s.length = p at *
  unfold Srt at *
  have hbef : ∀ a ∈ s.take p, a.f0 ≤ v.f0 := by
    intro a ha
    obtain ⟨q, hq, rfl⟩ := List.mem_iff_getElem.1 ha
    rw [List.length_take] at hq
    rw [List.getElem_take]
    obtain ⟨h1, h2⟩ := hp.2 (by omega)
    by_cases e : q = p - 1
    · subst e; exact h2
    · have := List.pairwise_iff_getElem.1 h q (p - 1) (by omega) h1 (by omega)
      omega
  have haft : ∀ b ∈ s.drop p, v.f0 ≤ b.f0 := by
    intro b hb
    obtain ⟨q, hq, rfl⟩ := List.mem_iff_getElem.1 hb
    rw [List.length_drop] at hq
    rw [List.getElem_drop]
    have := hp.1 (p + q) (by omega) (by omega) (by omega)
    omega
  rw [List.append_assoc, List.pairwise_append]
  refine ⟨h.sublist (List.take_sublist _ _), ?_, ?_⟩
  · rw [List.singleton_append, List.pairwise_cons]
    exact ⟨haft, h.sublist (List.drop_sublist _ _)⟩
  · intro a ha b hb
    rw [List.singleton_append, List.mem_cons] at hb
    rcases hb with rfl | hb
    · exact hbef a ha
    · have := hbef a ha; have := haft b hb; omega
theorem ins_perm (s : List S57) (v : S57) : (ins s v).Perm (v :: s) := by
  unfold ins insAt
  generalize posOf s v s.length = p
  rw [List.append_assoc, List.singleton_append]
  exact List.perm_middle.trans (by rw [List.take_append_drop])
theorem isort_ok : ∀ (l s : List S57), Srt s → Srt (l.foldl ins s) ∧ (l.foldl ins s).Perm (l ++ s)
  | [], s, h => ⟨h, List.Perm.refl _⟩
  | v :: l, s, h => by
    obtain ⟨h1, h2⟩ := isort_ok l (ins s v) (ins_srt v h)
    refine ⟨h1, h2.trans ?_⟩
    refine ((ins_perm s v).append_left l).trans ?_
    rw [List.cons_append]
    exact List.perm_middle
/-- the reference's joining, plainly -/
def joinL (l : List S57) : List S57 := merge (l.foldl ins [])
/-- any order of the same ranges, sorted and joined, is what the reference makes -/
theorem joinL_eq {l s : List S57} {e : Int} (hv : ∀ r ∈ l, r.f0 ≤ r.f1 ∧ e + 1 < r.f0) (hp : s.Perm l) (hs : Srt s) : merge s = joinL l := by
  obtain ⟨h1, h2⟩ := isort_ok l [] List.Pairwise.nil
  rw [List.append_nil] at h2
  exact merge_perm s _ e (fun r hr => hv r (hp.mem_iff.1 hr)) (hp.trans h2.symm) hs h1
end Go.Proofs.YtnfdppkbbfdmnaaGreatDoor.PD

namespace Go.Proofs.YtnfdppkbbfdmnaaGreatDoor.PD
open Go.RowKit Go.Proofs.YtnfdppkbbfdmnaaGreatDoorW.PrintWords Go.Proofs.YtnfdppkbbfdmnaaGreatDoorW.PrintLast Go.Proofs.YtnfdppkbbfdmnaaGreatDoorW.PrintMore
set_option linter.unusedVariables false
set_option linter.unusedSimpArgs false
/-! ### the reference: Norm, Either, Less -/
end Go.Proofs.YtnfdppkbbfdmnaaGreatDoor.PD

namespace Go.Proofs.YtnfdppkbbfdmnaaGreatDoor.PD
open Go.RowKit Go.Proofs.YtnfdppkbbfdmnaaGreatDoorW.PrintWords Go.Proofs.YtnfdppkbbfdmnaaGreatDoorW.PrintLast Go.Proofs.YtnfdppkbbfdmnaaGreatDoorW.PrintMore
set_option linter.unusedVariables false
set_option linter.unusedSimpArgs false
/-! ### the reference: Without -/
end Go.Proofs.YtnfdppkbbfdmnaaGreatDoor.PD

namespace Go.Proofs.YtnfdppkbbfdmnaaGreatDoor.PD
open Go.RowKit Go.Proofs.YtnfdppkbbfdmnaaGreatDoorW.PrintWords Go.Proofs.YtnfdppkbbfdmnaaGreatDoorW.PrintLast Go.Proofs.YtnfdppkbbfdmnaaGreatDoorW.PrintMore
set_option linter.unusedVariables false
set_option linter.unusedSimpArgs false
/-! ### the reference: Within -/
end Go.Proofs.YtnfdppkbbfdmnaaGreatDoor.PD

namespace Go.Proofs.YtnfdppkbbfdmnaaGreatDoor.PD
open Go.RowKit Go.Proofs.YtnfdppkbbfdmnaaGreatDoorW.PrintWords Go.Proofs.YtnfdppkbbfdmnaaGreatDoorW.PrintLast Go.Proofs.YtnfdppkbbfdmnaaGreatDoorW.PrintMore
set_option linter.unusedVariables false
set_option linter.unusedSimpArgs false
/-! ### the reference: Values -/
theorem Tryz.info2 : (Tryz.prog.info? 2).map (fun i => (i.zero, i.size, i.bytes)) = some (some (.int .i64 0), 1, 8) := by kernel_rfl
def ints64 (l : List Int) : List Value := l.map (Value.int .i64)
theorem ints64_snoc (l : List Int) (x : Int) : ints64 (l ++ [x]) = ints64 l ++ [.int .i64 x] := by simp [ints64]
/-- a row of whole numbers of the call's own -/
def RowI (w : World) (base : Nat) (v : Value) (l : List Int) : Prop := w.ownsRow base 2 1 v l.length (ints64 l)
theorem RowI.nil (w : World) (base : Nat) : RowI w base (.slice none 0 0) [] := World.ownsRow_nil _ _ _ _
theorem RowI.below {w w' : World} {base : Nat} {v : Value} {l : List Int} (h : RowI w base v l) (hb : Below w.heap.size w w') : RowI w' base v l := pw_own_below h hb
theorem RowI.lower {w : World} {base base' : Nat} {v : Value} {l : List Int} (h : RowI w base v l) (hb : base' ≤ base) : RowI w base' v l := own_weaken h hb
theorem RowI.own {w : World} {base : Nat} {v : Value} {l : List Int} (h : RowI w base v l) : w.ownsRow base 2 1 v l.length (ints64 l) := h
theorem cell_one_at (w : World) (n : Nat) (hn : w.heap.size = n) (x : Value) (t : TypeId) : ∀ j u, [x][j]? = some u → (w.alloc (.cells #[x] t)).cell? ((⟨n, 0, none⟩ : Addr).add j) = some u := by
  subst hn
  intro j u hj
  rw [add_zero_off]
  refine (blk_cell (World.alloc_heap_new w (.cells #[x] t)) j).trans ?_
  rw [← hj]
  simp
/-- the values from a on, so many -/
def sp (a : Int) (n : Nat) : List Int := (List.range n).map fun i : Nat => a + i
theorem sp_succ (a : Int) (n : Nat) : sp a (n + 1) = sp a n ++ [a + n] := by
  unfold sp
  rw [List.range_succ, List.map_append, List.map_cons, List.map_nil]
theorem sp_more (a : Int) (j : Nat) : ∀ d, ∃ r, sp a (j + d) = sp a j ++ r
  | 0 => ⟨[], by simp⟩
  | d + 1 => by
    obtain ⟨r, hr⟩ := sp_more a j d
    exact ⟨r ++ [a + (j + d : Nat)], by rw [← Nat.add_assoc, sp_succ, hr, List.append_assoc]⟩
def rsize (s : S57) : Nat := (s.f1 - s.f0 + 1).toNat
def valsL (l : List S57) : List Int := l.flatMap fun s => sp s.f0 (rsize s)
theorem valsL_snoc (l : List S57) (s : S57) : valsL (l ++ [s]) = valsL l ++ sp s.f0 (rsize s) := by
  unfold valsL
  rw [List.flatMap_append, List.flatMap_cons, List.flatMap_nil, List.append_nil]
theorem take_more {P : List Int} {a : Int} {j n most : Nat} (hj : j ≤ n) (h : most ≤ (P ++ sp a j).length) : (P ++ sp a n).take most = (P ++ sp a j).take most := by
  obtain ⟨r, hr⟩ := sp_more a j (n - j)
  rw [show j + (n - j) = n by omega] at hr
  rw [hr, ← List.append_assoc, List.take_append_of_le_length h]
theorem take_room {L : List Int} {most : Nat} (h : (L.take most).length < most) : L.take most = L := by
  rw [List.length_take] at h
  exact List.take_of_length_le (by omega)
/-- the values that have been laid down: of k ranges, and j of the next one -/
def ValO (t : List S57) (k : Nat) (a : Int) (j most : Nat) (o : List Int) : Prop := o = (valsL (t.take k) ++ sp a j).take most
theorem ValO.push {t : List S57} {k : Nat} {a : Int} {j most : Nat} {o : List Int} (h : ValO t k a j most o) (hl : o.length < most) : ValO t k a (j + 1) most (o ++ [a + j]) := by
  unfold ValO at h ⊢
  rw [sp_succ, ← List.append_assoc]
  generalize valsL (t.take k) ++ sp a j = P at *
  rw [h] at hl
  have e := take_room hl
  rw [h, e]
  rw [e] at hl
  rw [List.take_of_length_le (by rw [List.length_append, List.length_singleton]; omega)]
theorem ValO.le {t : List S57} {k : Nat} {a : Int} {j most : Nat} {o : List Int} (h : ValO t k a j most o) : o.length ≤ most := by
  unfold ValO at h
  rw [h, List.length_take]
  omega
theorem ValO.next {t : List S57} {k : Nat} {j most : Nat} {o : List Int} (hk : k < t.length) (h : ValO t k t[k].f0 j most o) (hj : j ≤ rsize t[k]) (he : j = rsize t[k] ∨ most ≤ o.length) : o = (valsL (t.take (k + 1))).take most := by
  unfold ValO at h
  rw [take_at hk, valsL_snoc]
  rcases he with he | he
  · rw [← he]
    exact h
  · rw [h, take_more hj]
    rw [h, List.length_take] at he
    omega
set_option maxRecDepth 100000 in
set_option maxHeartbeats 8000000 in
theorem Values_ref {v : Value} (l : List S57) (most : Nat) (hmost : most ≤ 10000) (w : World) (h : Lst w v l) :
    Calls Tryz.prog 37 #[v, .int .i64 most] w fun e w' => ∃ v', e = .returned v' ∧ RowI w' w.heap.size v' ((valsL (takenL l)).take most) ∧ Below w.heap.size w w' := by
  have HT := Lib.hid (Taken_ref l w h)
  have hR := takenL_right l
  have hlen := right_le hR
  have hmem := right_mem hR
  obtain ⟨i0, hi0, hz0, hz1, hz2⟩ := info_parts Tryz.info2
  obtain ⟨A, c, rfl, _, _⟩ := h
  generalize takenL l = t at *
  have HM := Lib.hid hmem
  clear hR hmem
  go_enter Tryz.func37, Tryz.ntmps37
  go_wp2_with fail
  refine HT.out.mono ?_
  rintro e w1 ⟨v1, rfl, ⟨A1, c1, rfl, hC, hc1⟩, hb, _⟩
  have HC := Lib.hid hC; have HB := Lib.hid hb
  have hle := hb.size
  clear hC hb
  generalize hm : t.length = m at *
  have HL := Lib.hid hm
  clear hm
  go_wp2_with fail
  go_loopw [5, 6] (fun o i wr => ∃ (k : Nat) (out : List Int), i = .int .i64 k ∧ k ≤ m ∧ Hid (out = (valsL (t.take k)).take most) ∧ Hid (RowI wr w1.heap.size o out) ∧ Hid (Below w1.heap.size w1 wr))
    (fun _ i _ => m - (intOf i).toNat)
  case atStart => exact ⟨0, [], rfl, Nat.zero_le _, Lib.hid (by rw [List.take_zero]; unfold valsL; rw [List.flatMap_nil, List.take_nil]), Lib.hid (RowI.nil _ _), Lib.hid (Below.refl _ _)⟩
  case round =>
    obtain ⟨k, out, rfl, hk, hN, hO, hB⟩ := hrel
    obtain ⟨A0, c0, rfl⟩ := row_form hO.out
    by_cases hkm : k < m
    · have hkt : k < t.length := by rw [HL.out]; exact hkm
      obtain ⟨ad, hA, x0, _⟩ := rng_at (Kd.C_below HC.out hB.out) k hkt
      subst hA
      have hs := HM.out _ (List.getElem_mem hkt)
      have HF : CutF t k t[k].f0 t[k].f1 := ⟨hkt, rfl, rfl⟩
      have HF := Lib.hid HF
      have HN := Lib.hid (fun j o (h : ValO t k t[k].f0 j most o) => ValO.next hkt h)
      have HV0 : Hid (ValO t k t[k].f0 0 most out) := Lib.hid (by unfold ValO; rw [hN.out]; simp [sp])
      have hrs : (rsize t[k] : Int) = t[k].f1 - t[k].f0 + 1 := by unfold rsize; omega
      generalize rsize t[k] = n at *
      generalize t[k].f0 = a at *
      generalize t[k].f1 = b at *
      have hix := fun W => index_at ad m c1 (k : Nat) (by omega) W
      simp only [Int.toNat_natCast] at hix
      go_wp2_with fail
      go_loopw [5, 7] (fun o i wi => ∃ (j : Nat) (out : List Int), i = .int .i64 (a + j) ∧ j ≤ n ∧ Hid (ValO t k a j most out) ∧ Hid (RowI wi w1.heap.size o out) ∧ Hid (Below w1.heap.size w1 wi))
        (fun _ i _ => (b + 1 - intOf i).toNat)
      case atStart => exact ⟨0, out, by simp, Nat.zero_le _, HV0, hO, hB⟩
      case round =>
        obtain ⟨j, out, rfl, hj, hV, hO, hB⟩ := hrel
        obtain ⟨A0, c0, rfl⟩ := row_form hO.out
        have HC1' := HC
        rw [← HL.out] at HC1'
        obtain ⟨x0, x1, _⟩ := CutS.all (⟨hB.out, HC1'.out⟩ : CutS w1 (some ad) t _) HF.out
        have hle2 := hV.out.le
        by_cases hjn : a + j ≤ b
        · have hjb : decide (a + (j : Int) ≤ b) = true := decide_eq_true hjn
          by_cases hrm : out.length < most
          · have hrb : decide ((out.length : Int) < (most : Int)) = true := decide_eq_true (by omega)
            have hrb2 : decide (out.length < most) = true := decide_eq_true (by omega)
            have hw1 : IntKind.i64.wrap (a + j + 1) = a + j + 1 := IntWalk.i64_in _ (by omega)
            have hsz := hB.out.size
            have HP := Lib.hid (hV.out.push hrm)
            go_wp2_with ((with_reducible refine gate_dst (N := 39) rfl ?_); refine wpList_append_own _ rfl _ _ 22 rfl w1.heap.size 2 i0 _ 1 8 Tryz.underlying22 hi0 hz0 hz1 hz2 rfl (by decide) _ _ _ rfl ((RowI.own hO.out).alloc _) ⟨_, 0, none⟩ 1 1 [.int .i64 (a + j)] rfl rfl (cell_one_at _ _ (by simp) _ _) (by simp [Value.oneCell']) (by simp only [maxLen]; omega) (by omega) (by simp; omega) ?_; intro v' w4 hown' hgrow _; have hQ1 : Hid (RowI w4 w1.heap.size v' (out ++ [a + j])) := Lib.hid (by unfold RowI; rw [List.length_append, List.length_singleton, ints64_snoc]; exact hown'); have hQ2 : Hid (Below w1.heap.size w1 w4) := Lib.hid ((hB.out.alloc hB.out.size _).grown hgrow (by simp; omega) (fun j e => own_base (RowI.own hO.out) j e)); clear hown' hgrow)
            refine ⟨⟨j + 1, out ++ [a + j], by rw [Int.natCast_add]; congr 1; omega, by omega, HP, hQ1, hQ2⟩, by simp [intOf]; omega⟩
          · have hrb : decide ((out.length : Int) < (most : Int)) = false := decide_eq_false (by omega)
            have hrb2 : decide (out.length < most) = false := decide_eq_false (by omega)
            have HP := Lib.hid (HN.out j out hV.out hj (.inr (by omega)))
            go_wp2_with fail
            refine ⟨⟨k + 1, out, by rw [Int.natCast_add]; rfl, by omega, HP, hO, hB⟩, by simp [intOf]; omega⟩
        · have hjb : decide (a + (j : Int) ≤ b) = false := decide_eq_false hjn
          have HP := Lib.hid (HN.out j out hV.out hj (.inl (by omega)))
          go_wp2_with fail
          refine ⟨⟨k + 1, out, by rw [Int.natCast_add]; rfl, by omega, HP, hO, hB⟩, by simp [intOf]; omega⟩
    · obtain rfl : k = m := by omega
      have hall : t.take k = t := List.take_of_length_le (by rw [HL.out]; exact Nat.le_refl _)
      rw [hall] at hN
      go_wp2_with fail
      go_ret
      refine ⟨_, rfl, ?_, below_step HB.out hB.out⟩
      rw [← hN.out]
      exact hO.out.lower hle

end Go.Proofs.YtnfdppkbbfdmnaaGreatDoor.PD

namespace Go.Proofs.YtnfdppkbbfdmnaaGreatDoor.PD
open Go.RowKit Go.Proofs.YtnfdppkbbfdmnaaGreatDoorW.PrintWords Go.Proofs.YtnfdppkbbfdmnaaGreatDoorW.PrintLast Go.Proofs.YtnfdppkbbfdmnaaGreatDoorW.PrintMore
attribute [local go_sem] max2_int min2_int max_two min_two max_three min_three max_four min_four   -- for this text's walks alone
set_option linter.unusedVariables false
set_option linter.unusedSimpArgs false

/-! ### jigsawref02_Spoil: function 19 -/
end Go.Proofs.YtnfdppkbbfdmnaaGreatDoor.PD

namespace Go.Proofs.YtnfdppkbbfdmnaaGreatDoor.PD
open Go.RowKit Go.Proofs.YtnfdppkbbfdmnaaGreatDoorW.PrintWords Go.Proofs.YtnfdppkbbfdmnaaGreatDoorW.PrintLast Go.Proofs.YtnfdppkbbfdmnaaGreatDoorW.PrintMore
set_option linter.unusedVariables false
set_option linter.unusedSimpArgs false
theorem cut_cap {P : Program} (t e : TypeId) (kh : IntKind) {i : TypeInfo} (ht : P.underlying t = some (.slice e)) (hi : P.info? e = some i) (A : Option Addr) (n c : Nat) (j : Int) (h0 : 0 ≤ j) (hm : j ≤ c) :
    ∀ W : World, (Instr.slice t (.slice A n c) none (some (.int kh j)) none).run P W = .ok (.slice A j.toNat c) W := by
  intro W
  have hel : P.elem t = e := by simp [Program.elem, ht]
  have hu : P.underlying t = some (.slice (P.elem t)) := by rw [hel]; exact ht
  have ha : (A.map fun x => x.add 0) = A := by cases A <;> simp [Addr.add]
  rw [run_slice_h W t A n c hu kh j h0 (by omega), hel]
  simp [sizeOf, typeInfo, hi, sliced, Result.andThen, ha]
/-! ### lent lists: a mark stands behind them -/
/-- ranges with the mark behind them -/
def LentR (w : World) (base : Nat) (v : Value) (l : List S57) : Prop := ∃ A c, v = .slice A l.length c ∧ Row w base (.slice A (l.length + 1) c) (l ++ [⟨77, 7⟩])
theorem LentR.below {w w' : World} {base : Nat} {v : Value} {l : List S57} (h : LentR w base v l) (hb : Below w.heap.size w w') : LentR w' base v l := by
  obtain ⟨A, c, e, hr⟩ := h
  exact ⟨A, c, e, hr.below hb⟩
theorem LentR.lst {w : World} {base : Nat} {v : Value} {l : List S57} (h : LentR w base v l) : Lst w v l := by
  obtain ⟨A, c, e, hr⟩ := h
  obtain ⟨A', c', e', hC, hc⟩ := hr.lst
  injection e' with e1 hl_ e2
  clear hl_
  subst e1 e2
  have hx' := Kd.C_take (m := l.length) hC (by simp)
  rw [List.take_left' rfl] at hx'
  rw [List.length_append, List.length_singleton] at hc
  exact ⟨A, c, e, hx', by omega⟩
set_option maxRecDepth 100000 in
set_option maxHeartbeats 4000000 in
theorem Lent_ref {v : Value} (l : List S57) (w : World) (h : Lst w v l) (hl : l.length ≤ 8796093021952) :
    Calls Tryz.prog 9 #[v] w fun e w' => ∃ v', e = .returned v' ∧ LentR w' w.heap.size v' l ∧ Below w.heap.size w w' := by
  obtain ⟨i0, hi0, hz0, hz1, hz2⟩ := info_parts info57
  obtain ⟨A, c, rfl, hC, hc⟩ := h
  have HC := Lib.hid hC
  clear hC
  generalize hm : l.length = m at *
  have HL := Lib.hid hm
  clear hm
  go_enter Tryz.func9, Tryz.ntmps9
  go_upto_region 3 with ((with_reducible refine gate_builtin (b := .append) (xs := #[.tmp 4, .tmp 5]) rfl ?_); at_builtin; refine append_lst (w0 := w) w.heap.size rfl (.tmp 4) (.tmp 5) rfl _ [] _ _ _ _ rfl rfl (Row.nil _ _) HC.out (Below.refl _ _) (Nat.le_refl _) (by simp; omega) ?_; intro v4 w2 hO2 hb2; rw [List.nil_append] at hO2; obtain ⟨A4, c4, hv4⟩ := row_form hO2; subst hv4; have HO2 := Lib.hid hO2; have HB2 := Lib.hid hb2; clear hO2 hb2)
  have hle := HB2.out.size
  rw [HL.out]
  go_wp2_with ((with_reducible refine gate_dst (N := 10) rfl ?_); refine wpList_append_own _ rfl _ _ 23 rfl w.heap.size 57 i0 _ 2 16 Tryz.underlying23 hi0 hz0 hz1 hz2 rfl (by decide) _ _ _ rfl ((by have := (Row.own HO2.out).alloc (.cells #[.int .i64 77, .int .i64 7] 57); rw [HL.out] at this; exact this)) ⟨_, 0, none⟩ 1 1 [.int .i64 77, .int .i64 7] rfl rfl (cell_pair_at _ _ (by simp) _ _ _) (by simp [Value.oneCell']) (by simp only [maxLen]; omega) (by omega) (by simp; omega) ?_; intro v' w4 hown' hgrow _; obtain ⟨q1, q2⟩ := HO2.out.pushed (by rw [HL.out]; exact hown') (by rw [HL.out]; exact hgrow) (by omega); obtain ⟨A5, c5, hv5⟩ := row_form hown'; subst hv5; have hcap := row_cap hown'; have hQ1 := Lib.hid q1; have hQ2 := Lib.hid q2; clear hown' hgrow q1 q2; have hcut := fun W => cut_cap (P := Tryz.prog) 23 57 .i64 Tryz.underlying23 hi0 A5 (m + 1) c5 (m : Nat) (by omega) (by omega) W; simp only [Int.toNat_natCast] at hcut)
  go_ret
  refine ⟨_, rfl, ⟨A5, c5, by rw [HL.out]; rfl, ?_⟩, HB2.out.trans hQ2.out⟩
  rw [HL.out]
  exact hQ1.out
set_option maxRecDepth 100000 in
set_option maxHeartbeats 4000000 in
theorem Kept_ref {v v1 : Value} {base : Nat} (l : List S57) (w : World) (hx : LentR w base v l) (h1 : Lst w v1 l) (hl : l.length ≤ 8796093021952) :
    Calls Tryz.prog 21 #[v, v1] w fun e w' => e = .returned (.bool true) ∧ Below w.heap.size w w' := by
  have hlst := hx.lst
  obtain ⟨A, c, rfl, hrow⟩ := hx
  obtain ⟨A1, c1, rfl, hr1, hc1⟩ := h1
  obtain ⟨A', c', e', hx, hc⟩ := hrow.lst
  injection e' with e1 hl_ e2
  clear hl_
  subst e1 e2
  rw [List.length_append, List.length_singleton] at hc
  obtain ⟨ad, eA, hc0, hc1'⟩ := rng_at hx l.length (by simp)
  rw [show (l ++ [(⟨77, 7⟩ : S57)])[l.length]'(by simp) = ⟨77, 7⟩ by simp] at hc0 hc1'
  subst eA
  obtain ⟨i0, hi0, _, _, _⟩ := info_parts info57
  have hcut := cut_cap (P := Tryz.prog) 23 57 .i64 Tryz.underlying23 hi0 (some ad) l.length c ((l.length : Int) + 1) (by omega) (by omega)
  have e1 : ((l.length : Int) + 1).toNat = l.length + 1 := by omega
  rw [e1] at hcut
  have hc0' : w.cell? (ad.add (l.length * 2)) = some (.int .i64 77) := hc0
  have hc2' : w.cell? ⟨(ad.add (l.length * 2)).block, (ad.add (l.length * 2)).off + 1, none⟩ = some (.int .i64 7) := hc1'
  have HX := Lib.hid (show Lst w (.slice (some ad) l.length c) l from hlst); have HR1 := Lib.hid (show Lst w (.slice A1 l.length c1) l from ⟨A1, c1, rfl, hr1, hc1⟩)
  have HAL := Lib.hid (fun W (h : Below w.heap.size w W) => Alike_ref l l W (HX.out.below h) (HR1.out.below h) (by omega))
  have hw : IntKind.i64.wrap ((l.length : Int) + 1) = (l.length : Int) + 1 := IntWalk.i64_in _ (by omega)
  have hix := fun W => index_at ad (l.length + 1) c (l.length : Nat) (by omega) W
  simp only [Int.toNat_natCast] at hix
  clear hx hlst hr1 e1 hc0 hc1' hrow
  go_enter Tryz.func21, Tryz.ntmps21
  go_wp2_with fail
  have hbA : Below w.heap.size w (w.alloc (.cells #[.int .i64 77, .int .i64 7] 57)) := (Below.refl _ w).alloc (Nat.le_refl _) _
  refine (HAL.out _ hbA).mono ?_
  rintro e w1 ⟨r, rfl, hi, hb1⟩
  obtain rfl : r = true := by simpa using hi
  have hnw := (hb1.block w.heap.size (by simp)).trans (World.alloc_heap_new w (.cells #[.int .i64 77, .int .i64 7] 57))
  have d0 : w1.cell? ⟨w.heap.size, 0, none⟩ = some (.int .i64 77) := (blk_cell hnw 0).trans rfl
  have d1 : w1.cell? ⟨w.heap.size, 1, none⟩ = some (.int .i64 7) := (blk_cell hnw 1).trans rfl
  have HBA := Lib.hid (below_step hbA hb1)
  clear hnw hbA hc0' hc2' hb1
  go_wp2_with fail
  go_ret
  exact ⟨rfl, HBA.out⟩
/-! ### Spoil -/
end Go.Proofs.YtnfdppkbbfdmnaaGreatDoor.PD

namespace Go.Proofs.YtnfdppkbbfdmnaaGreatDoor.PD
open Go.RowKit Go.Proofs.YtnfdppkbbfdmnaaGreatDoorW.PrintWords Go.Proofs.YtnfdppkbbfdmnaaGreatDoorW.PrintLast Go.Proofs.YtnfdppkbbfdmnaaGreatDoorW.PrintMore
attribute [local go_sem] max2_int min2_int max_two min_two max_three min_three max_four min_four   -- for this text's walks alone
set_option linter.unusedVariables false
set_option linter.unusedSimpArgs false

/-! ### jigsawref01_Same: function 62 -/
end Go.Proofs.YtnfdppkbbfdmnaaGreatDoor.PD

namespace Go.Proofs.YtnfdppkbbfdmnaaGreatDoor.PD
open Go.RowKit Go.Proofs.YtnfdppkbbfdmnaaGreatDoorW.PrintWords Go.Proofs.YtnfdppkbbfdmnaaGreatDoorW.PrintLast Go.Proofs.YtnfdppkbbfdmnaaGreatDoorW.PrintMore
set_option linter.unusedVariables false
set_option linter.unusedSimpArgs false
/-! ### whole numbers: lent lists -/
/-- a slice that reads as a list of whole numbers -/
def LstI (w : World) (v : Value) (l : List Int) : Prop := ∃ A c, v = .slice A l.length c ∧ Kd.C (Kd.int .i64) w A l.length l ∧ l.length ≤ c
theorem LstI.below {w w' : World} {v : Value} {l : List Int} (h : LstI w v l) (hb : Below w.heap.size w w') : LstI w' v l := by
  obtain ⟨A, c, e, hC, hc⟩ := h
  exact ⟨A, c, e, Kd.C_below hC hb, hc⟩
/-- whole numbers with the mark behind them -/
def LentI (w : World) (base : Nat) (v : Value) (l : List Int) : Prop := ∃ A c, v = .slice A l.length c ∧ Kd.R (Kd.int .i64) 2 w base (fun _ => True) (.slice A (l.length + 1) c) (l ++ [7777])
theorem LentI.below {w w' : World} {base : Nat} {v : Value} {l : List Int} (h : LentI w base v l) (hb : Below w.heap.size w w') : LentI w' base v l := by
  obtain ⟨A, c, e, hr⟩ := h
  exact ⟨A, c, e, Kd.R_below hr hb⟩
theorem LentI.full {w : World} {base : Nat} {A : Option Addr} {c : Nat} {l : List Int} (h : Kd.R (Kd.int .i64) 2 w base (fun _ => True) (.slice A (l.length + 1) c) (l ++ [7777])) :
    l.length + 1 ≤ c ∧ Kd.C (Kd.int .i64) w A (l ++ [7777]).length (l ++ [7777]) ∧ Kd.C (Kd.int .i64) w A l.length l := by
  obtain ⟨_, hc, hC⟩ := Kd.R_reads' h
  have hx' := Kd.C_take (m := l.length) hC (by simp)
  rw [List.take_left' rfl] at hx'
  exact ⟨hc, hC, hx'⟩
theorem LentI.lst {w : World} {base : Nat} {v : Value} {l : List Int} (h : LentI w base v l) : LstI w v l := by
  obtain ⟨A, c, e, hr⟩ := h
  obtain ⟨hc, _, hC⟩ := LentI.full hr
  exact ⟨A, c, e, hC, by omega⟩
end Go.Proofs.YtnfdppkbbfdmnaaGreatDoor.PD

namespace Go.Proofs.YtnfdppkbbfdmnaaGreatDoor.PD
open Go.RowKit Go.Proofs.YtnfdppkbbfdmnaaGreatDoorW.PrintWords Go.Proofs.YtnfdppkbbfdmnaaGreatDoorW.PrintLast Go.Proofs.YtnfdppkbbfdmnaaGreatDoorW.PrintMore
attribute [local go_sem] max2_int min2_int max_two min_two max_three min_three max_four min_four   -- for this text's walks alone
set_option linter.unusedVariables false
set_option linter.unusedSimpArgs false

attribute [local go_sem high] eqA57
/-! ### jigsawref02_Of: function 11 -/
end Go.Proofs.YtnfdppkbbfdmnaaGreatDoor.PD

namespace Go.Proofs.YtnfdppkbbfdmnaaGreatDoor.PD
open Go.RowKit Go.Proofs.YtnfdppkbbfdmnaaGreatDoorW.PrintWords Go.Proofs.YtnfdppkbbfdmnaaGreatDoorW.PrintLast Go.Proofs.YtnfdppkbbfdmnaaGreatDoorW.PrintMore
attribute [local go_sem] max2_int min2_int max_two min_two max_three min_three max_four min_four   -- for this text's walks alone
set_option linter.unusedVariables false
set_option linter.unusedSimpArgs false

attribute [local go_sem high] eqA57
/-! ### jigsawref02_Span: function 15 -/
end Go.Proofs.YtnfdppkbbfdmnaaGreatDoor.PD

namespace Go.Proofs.YtnfdppkbbfdmnaaGreatDoor.PD
open Go.RowKit Go.Proofs.YtnfdppkbbfdmnaaGreatDoorW.PrintWords Go.Proofs.YtnfdppkbbfdmnaaGreatDoorW.PrintLast Go.Proofs.YtnfdppkbbfdmnaaGreatDoorW.PrintMore
set_option linter.unusedVariables false
set_option linter.unusedSimpArgs false
/-! ### Norm, Of, Span plainly -/
/-- the ranges that are not empty; nothing, if one of them is beyond -/
def gather : List S57 → List S57 → Option (List S57)
  | [], acc => some acc
  | r :: t, acc => if r.f0 > r.f1 then gather t acc else if inB r.f0 = true then (if inB r.f1 = true then gather t (acc ++ [r]) else none) else none
def normO : Option (List S57) → List S57 × Int
  | none => ([], 20)
  | some s => fitL (joinL s)
def normS (l : List S57) : List S57 × Int := normO (gather l [])
/-- single values as ranges -/
def points (v : List Int) : List S57 := v.map fun x => ⟨x, x⟩
/-- all from one to another -/
def spanS (lo hi : Int) : List S57 × Int := if inB lo = true ∧ inB hi = true then (if lo > hi then ([], 0) else ([⟨lo, hi⟩], 0)) else ([], 20)
end Go.Proofs.YtnfdppkbbfdmnaaGreatDoor.PD

namespace Go.Proofs.YtnfdppkbbfdmnaaGreatDoor.PD
open Go.RowKit Go.Proofs.YtnfdppkbbfdmnaaGreatDoorW.PrintWords Go.Proofs.YtnfdppkbbfdmnaaGreatDoorW.PrintLast Go.Proofs.YtnfdppkbbfdmnaaGreatDoorW.PrintMore
set_option linter.unusedVariables false
set_option linter.unusedSimpArgs false
/-! ### the program and the reference make the same -/
theorem rightL_norm : ∀ (l : List S57) (e : Int), rightL e l = true → NormF e l
  | [], _, _ => trivial
  | s :: t, e, h => by
    unfold rightL at h
    split at h
    · cases h
    · split at h
      · cases h
      · split at h
        · cases h
        · exact ⟨by omega, by omega, rightL_norm t _ h⟩
theorem right_norm {l : List S57} (h : rightS l = true) : NormF (-1000002) l := by
  unfold rightS at h
  split at h
  · cases h
  · exact rightL_norm l _ h
/-! Without -/
/-! Within -/
/-! Min, Has -/
theorem next_min {l : List S57} (h : rightS l = true) : nextL l (-1000000) = minL l := by
  have hm := right_mem h
  cases l with
  | nil => rfl
  | cons s t =>
    have := hm s (by simp)
    rw [nextL, if_pos (by omega), show max (-1000000) s.f0 = s.f0 by omega]
    rfl
theorem next_has : ∀ (l : List S57) (e x : Int), NormF e l → ((nextL l x).2 && (nextL l x).1 == x) = hasL l x
  | [], _, _, _ => rfl
  | s :: t, e, x, h => by
    have h2 := h.2.1
    rw [nextL, hasL]
    by_cases c : x ≤ s.f1
    · rw [if_pos c]
      by_cases c2 : s.f0 ≤ x
      · rw [if_pos ⟨c2, c⟩, show max x s.f0 = x by omega]
        simp
      · rw [if_neg (fun h => c2 h.1), show max x s.f0 = s.f0 by omega]
        have hno : hasL t x = false := by
          have hg : ∀ (t : List S57) (e : Int), NormF e t → x ≤ e → hasL t x = false := by
            intro t
            induction t with
            | nil => intro _ _ _; rfl
            | cons q t ih =>
              intro e hq he
              have := hq.1; have := hq.2.1
              rw [hasL, if_neg (by omega)]
              exact ih q.f1 hq.2.2 (by omega)
          exact hg t s.f1 h.2.2 c
        rw [hno]
        simp only [Bool.true_and, beq_eq_false_iff_ne]
        omega
    · rw [if_neg c, if_neg (fun h => c h.2)]
      exact next_has t s.f1 x h.2.2

end Go.Proofs.YtnfdppkbbfdmnaaGreatDoor.PD
