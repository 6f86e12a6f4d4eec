/- Parts of the laws of dom: functions of the program, each with the proof of what it answers; the conditions are those of each theorem. -/
import Derived.Test.YtnfdppkbbfdmnaaGreatDoorC9
import Derived.Deep.Cut
import Derived.Deep.DeepCutAuto
namespace Go.Proofs.YtnfdppkbbfdmnaaGreatDoor.PD
open Go.RowKit Go.Proofs.YtnfdppkbbfdmnaaGreatDoorW.PrintWords Go.Proofs.YtnfdppkbbfdmnaaGreatDoorW.PrintLast Go.Proofs.YtnfdppkbbfdmnaaGreatDoorW.PrintMore
set_option linter.unusedVariables false
set_option linter.unusedSimpArgs false
/-! ### Text of the reference -/
theorem decD_len : ∀ (d m : Nat), m < 10 ^ (d + 1) → (Lib.decDigits m).length ≤ d + 1
  | 0, m, h => by
    rw [Lib.decDigits, dif_pos (by simpa using h)]
    simp
  | d + 1, m, h => by
    rw [Lib.decDigits]
    split
    · simp
    · have := decD_len d (m / 10) (by rw [Nat.div_lt_iff_lt_mul (by decide)]; rw [Nat.pow_succ] at h; exact h)
      rw [List.length_append]
      simp only [List.length_cons, List.length_nil]
      omega
theorem decB_size (n : Int) (h0 : -1000000 ≤ n) (h1 : n ≤ 1000000) : (decB n).size ≤ 8 := by
  have := decD_len 6 n.natAbs (by omega)
  have e : (decB n).size = (Lib.itoa n).length := by
    show (Lib.itoa n).toArray.size = _
    simp
  rw [e]
  unfold Lib.itoa
  split
  · rw [List.length_cons]; omega
  · rename_i h
    rw [show n.toNat = n.natAbs by omega]
    omega
theorem rngT_size (r : S57) (h0 : -1000000 ≤ r.f0) (h : r.f0 ≤ r.f1) (h1 : r.f1 ≤ 1000000) : (rngT r).size ≤ 18 := by
  have q0 := decB_size r.f0 h0 (by omega)
  have q1 := decB_size r.f1 (by omega) h1
  have q2 : (⟨#[46, 46]⟩ : ByteArray).size = 2 := rfl
  unfold rngT
  split
  · rw [ByteArray.size_append, ByteArray.size_append, q2]; omega
  · omega
theorem upT_size : ∀ (l : List S57), (∀ s ∈ l, -1000000 ≤ s.f0 ∧ s.f0 ≤ s.f1 ∧ s.f1 ≤ 1000000) → (upT l).size ≤ 19 * l.length
  | [], _ => by show (⟨#[]⟩ : ByteArray).size ≤ _; exact Nat.zero_le _
  | r :: t, h => by
    have hr := h r (by simp)
    have q := rngT_size r hr.1 hr.2.1 hr.2.2
    have hrest : ∀ (t : List S57), (∀ s ∈ t, -1000000 ≤ s.f0 ∧ s.f0 ≤ s.f1 ∧ s.f1 ≤ 1000000) → (restT t).size ≤ 19 * t.length := by
      intro t
      induction t with
      | nil => intro _; show (⟨#[]⟩ : ByteArray).size ≤ _; exact Nat.zero_le _
      | cons s t ih =>
        intro h
        have hs := h s (by simp)
        have q := rngT_size s hs.1 hs.2.1 hs.2.2
        have q3 := ih (fun x hx => h x (by simp [hx]))
        have q2 : (⟨#[44]⟩ : ByteArray).size = 1 := rfl
        rw [restT, ByteArray.size_append, ByteArray.size_append, q2, List.length_cons]
        omega
    have := hrest t (fun x hx => h x (by simp [hx]))
    rw [upT, ByteArray.size_append, List.length_cons]
    omega
theorem textT_up {l : List S57} (h : 0 < l.length) : textT l = upT l := by
  cases l with
  | nil => simp at h
  | cons s l => rfl
end Go.Proofs.YtnfdppkbbfdmnaaGreatDoor.PD

namespace Go.Proofs.YtnfdppkbbfdmnaaGreatDoor.PD
open Go.RowKit Go.Proofs.YtnfdppkbbfdmnaaGreatDoorW.PrintWords Go.Proofs.YtnfdppkbbfdmnaaGreatDoorW.PrintLast Go.Proofs.YtnfdppkbbfdmnaaGreatDoorW.PrintMore
set_option linter.unusedVariables false
set_option linter.unusedSimpArgs false
/-! ### Text of the program -/
theorem Tryz.info9 : (Tryz.prog.info? 9).map (fun i => (i.zero, i.size, i.bytes)) = some (some (.string ⟨#[]⟩), 1, 16) := by kernel_rfl
def strs (l : List ByteArray) : List Value := l.map Value.string
theorem strs_snoc (l : List ByteArray) (x : ByteArray) : strs (l ++ [x]) = strs l ++ [.string x] := by simp [strs]
/-- a row of texts of the call's own -/
def RowS (w : World) (base : Nat) (v : Value) (l : List ByteArray) : Prop := w.ownsRow base 9 1 v l.length (strs l)
theorem RowS.nil (w : World) (base : Nat) : RowS w base (.slice none 0 0) [] := World.ownsRow_nil _ _ _ _
theorem RowS.below {w w' : World} {base : Nat} {v : Value} {l : List ByteArray} (h : RowS w base v l) (hb : Below w.heap.size w w') : RowS w' base v l := pw_own_below h hb
theorem RowS.own {w : World} {base : Nat} {v : Value} {l : List ByteArray} (h : RowS w base v l) : w.ownsRow base 9 1 v l.length (strs l) := h
def partsT (l : List S57) : List ByteArray := l.map rngT
theorem partsT_take {l : List S57} {k : Nat} (h : k < l.length) : partsT (l.take (k + 1)) = partsT (l.take k) ++ [rngT l[k]] := by
  rw [take_at h]
  unfold partsT
  rw [List.map_append]
  rfl
theorem restT_list : ∀ (t : List S57), (restT t).data.toList = Lib.joinTail [44] ((partsT t).map (·.data.toList))
  | [] => rfl
  | r :: t => by
    have ih := restT_list t
    have e : Lib.joinTail [44] ((partsT (r :: t)).map (·.data.toList)) = 44 :: (rngT r).data.toList ++ Lib.joinTail [44] ((partsT t).map (·.data.toList)) := by
      simp [Lib.joinTail, partsT]
    rw [e, ← ih, restT, ByteArray.data_append, ByteArray.data_append, Array.toList_append, Array.toList_append]
    rfl
theorem join_text {t : List S57} (h : 0 < t.length) : (⟨(Lib.join ((partsT t).map (·.data.toList)) (⟨#[44]⟩ : ByteArray).data.toList).toArray⟩ : ByteArray) = textT t := by
  cases t with
  | nil => simp at h
  | cons r t =>
    have e : (partsT (r :: t)).map (·.data.toList) = (rngT r).data.toList :: (partsT t).map (·.data.toList) := rfl
    have e2 : (⟨#[44]⟩ : ByteArray).data.toList = [44] := rfl
    rw [e, e2, Lib.join_cons, ← restT_list t]
    have e3 : textT (r :: t) = rngT r ++ restT t := rfl
    have e4 : ((rngT r).data.toList ++ (restT t).data.toList).toArray = (rngT r ++ restT t).data := by rw [ByteArray.data_append]; simp
    rw [e3, e4]
theorem partsT_len (l : List S57) : (partsT l).length = l.length := by unfold partsT; rw [List.length_map]
set_option maxRecDepth 100000 in
set_option maxHeartbeats 8000000 in
theorem Text_calls {v : Value} (l : List S57) (w : World) (h : Lst w v l) (hd : DomLaid w) :
    Calls Tryz.prog 23 #[v] w fun e w' => e = .returned (.string (textT (takenL l))) ∧ Below w.heap.size w w' := by
  have HT := Lib.hid (taken_calls l w h)
  have hR := takenL_right l
  have hlen := right_le hR
  have hmem := right_mem hR
  have HD := Lib.hid hd
  obtain ⟨i0, hi0, hz0, hz1, hz2⟩ := info_parts Tryz.info9
  obtain ⟨A, c, rfl, _, _⟩ := h
  generalize takenL l = t at *
  have HM := Lib.hid hmem
  clear hR hmem hd
  obtain ⟨res, hres⟩ : ∃ res, textT t = res := ⟨_, rfl⟩
  rw [hres]
  have HRES := Lib.hid hres
  clear hres
  go_enter Tryz.func23, Tryz.ntmps23
  go_wp2_with fail
  refine HT.out.mono ?_
  rintro e w1 ⟨v1, rfl, ⟨A1, c1, rfl, hC, hc1⟩, hb, _⟩
  have HC := Lib.hid hC; have HB := Lib.hid hb
  have HD1 := Lib.hid (HD.out.below hb)
  clear hC hb HT
  generalize hm : t.length = m at *
  have HL := Lib.hid hm
  clear hm
  go_wp2_with fail
  go_loopw [3, 10] (fun o i wr => ∃ (k : Nat) (out : List ByteArray), i = .int .i64 k ∧ k ≤ m ∧ out.length ≤ k ∧ Hid (partsT (t.take k) = out) ∧ Hid (RowS wr w1.heap.size o out) ∧ Hid (Below w1.heap.size w1 wr))
    (fun _ i _ => m - (intOf i).toNat)
  case atStart => exact ⟨0, [], rfl, Nat.zero_le _, Nat.zero_le _, Lib.hid rfl, Lib.hid (RowS.nil _ _), Lib.hid (Below.refl _ _)⟩
  case round =>
    obtain ⟨k, out, rfl, hk, hol, hN, hO, hB⟩ := hrel
    obtain ⟨A0, c0, rfl⟩ := row_form hO.out
    by_cases hkm : k < m
    · have hkt : k < t.length := by rw [HL.out]; exact hkm
      obtain ⟨ad, hA, x0, x1⟩ := rng_at (Kd.C_below HC.out hB.out) k hkt
      subst hA
      have hs := HM.out _ (List.getElem_mem hkt)
      have hst := (partsT_take hkt).trans (by rw [hN.out])
      have hxs := decB_size t[k].f0 (by omega) (by omega)
      have hys := decB_size t[k].f1 (by omega) (by omega)
      unfold rngT at hst
      have HST := Lib.hid hst
      clear hst
      generalize t[k].f0 = x at *
      generalize t[k].f1 = y at *
      have HX := Lib.hid (fun W (h : DomLaid W) => dec_calls x (by omega) (by omega) W h)
      have HY := Lib.hid (fun W (h : DomLaid W) => dec_calls y (by omega) (by omega) W h)
      generalize decB x = bx at *
      generalize decB y = bb at *
      have hix := fun W => index_at ad m c1 (k : Nat) (by omega) W
      simp only [Int.toNat_natCast] at hix
      have hsz := hB.out.size
      have hb0 := (Below.refl wr.heap.size wr).alloc (Nat.le_refl _) (.cells #[.int .i64 x, .int .i64 y] 57)
      have hO1 := Lib.hid (hO.out.below hb0)
      have hB1 := Lib.hid (below_step hB.out hb0)
      have HDW := Lib.hid (HD1.out.below hB1.out)
      have hc1' : (9223372036854775807 < 2 + bb.size) = False := eq_false (by omega)
      have hc2' : (9223372036854775807 < bx.size + (2 + bb.size)) = False := eq_false (by omega)
      clear hb0
      go_wp2_with fail
      refine (HX.out _ HDW.out).mono ?_
      rintro e w2 ⟨rfl, hb2⟩
      have hnw := (hb2.block wr.heap.size (by simp)).trans (World.alloc_heap_new wr (.cells #[.int .i64 x, .int .i64 y] 57))
      have d0 : w2.cell? ⟨wr.heap.size, 0, none⟩ = some (.int .i64 x) := (blk_cell hnw 0).trans rfl
      have d1 : w2.cell? ⟨wr.heap.size, 1, none⟩ = some (.int .i64 y) := (blk_cell hnw 1).trans rfl
      have hO2 := Lib.hid (hO1.out.below hb2); have hB2 := Lib.hid (below_step hB1.out hb2)
      have HDW2 := Lib.hid (HDW.out.below hb2)
      have hsz2 := hB2.out.size
      clear hnw hb2
      by_cases hxy : x < y
      · have hxb : decide (x < y) = true := decide_eq_true hxy
        go_wp2_with fail
        refine (HY.out _ HDW2.out).mono ?_
        rintro e w3 ⟨rfl, hb3⟩
        have hO3 := Lib.hid (hO2.out.below hb3); have hB3 := Lib.hid (below_step hB2.out hb3)
        have hsz3 := hB3.out.size
        clear hb3 d0 d1
        obtain ⟨bt, hbt⟩ : ∃ bt, bx ++ ((⟨#[46, 46]⟩ : ByteArray) ++ bb) = bt := ⟨_, rfl⟩
        have HBT := Lib.hid hbt
        go_wp2_with ((with_reducible refine gate_dst (N := 31) rfl ?_); refine wpList_append_own _ rfl _ _ 62 rfl w1.heap.size 9 i0 _ 1 16 Tryz.underlying62 hi0 hz0 hz1 hz2 rfl (by decide) _ _ _ rfl ((RowS.own hO3.out).alloc _) ⟨_, 0, none⟩ 1 1 [.string bt] rfl rfl (cell_one_at _ _ (by simp) _ _) (by simp [Value.oneCell']) (by simp only [maxLen]; omega) (by omega) (by first | omega | (simp; omega)) ?_; intro v' w4 hown' hgrow _; have hQ1 : Hid (RowS w4 w1.heap.size v' (out ++ [bt])) := Lib.hid (by unfold RowS; rw [List.length_append, List.length_singleton, strs_snoc]; exact hown'); have hQ2 : Hid (Below w1.heap.size w1 w4) := Lib.hid ((hB3.out.alloc hB3.out.size _).grown hgrow (by first | omega | (simp; omega)) (fun j e => own_base (RowS.own hO3.out) j e)); clear hown' hgrow)
        refine ⟨⟨k + 1, out ++ [bt], by rw [Int.natCast_add]; rfl, by omega, by rw [List.length_append, List.length_singleton]; omega, Lib.hid (by rw [HST.out, if_pos hxy, HBT.out]), hQ1, hQ2⟩, by simp [intOf]; omega⟩
      · have hxb : decide (x < y) = false := decide_eq_false hxy
        have HXY := Lib.hid hxy
        go_wp2_with ((with_reducible refine gate_dst (N := 31) rfl ?_); refine wpList_append_own _ rfl _ _ 62 rfl w1.heap.size 9 i0 _ 1 16 Tryz.underlying62 hi0 hz0 hz1 hz2 rfl (by decide) _ _ _ rfl ((RowS.own hO2.out).alloc _) ⟨_, 0, none⟩ 1 1 [.string bx] rfl rfl (cell_one_at _ _ (by simp) _ _) (by simp [Value.oneCell']) (by simp only [maxLen]; omega) (by omega) (by first | omega | (simp; omega)) ?_; intro v' w4 hown' hgrow _; have hQ1 : Hid (RowS w4 w1.heap.size v' (out ++ [bx])) := Lib.hid (by unfold RowS; rw [List.length_append, List.length_singleton, strs_snoc]; exact hown'); have hQ2 : Hid (Below w1.heap.size w1 w4) := Lib.hid ((hB2.out.alloc hB2.out.size _).grown hgrow (by first | omega | (simp; omega)) (fun j e => own_base (RowS.own hO2.out) j e)); clear hown' hgrow)
        refine ⟨⟨k + 1, out ++ [bx], by rw [Int.natCast_add]; rfl, by omega, by rw [List.length_append, List.length_singleton]; omega, Lib.hid (by rw [HST.out, if_neg (by have := HXY.out; omega)]), hQ1, hQ2⟩, by simp [intOf]; omega⟩
    · obtain rfl : k = m := by omega
      have hall : t.take k = t := List.take_of_length_le (by rw [HL.out]; exact Nat.le_refl _)
      rw [hall] at hN
      by_cases h0 : k = 0
      · have ht : t = [] := List.length_eq_zero_iff.1 (by rw [HL.out]; exact h0)
        have ho : out = [] := by rw [← hN.out, ht]; rfl
        have hr : res = ⟨#[123, 125]⟩ := by rw [← HRES.out, ht]; rfl
        subst ho hr
        have HB2 := Lib.hid (below_step HB.out hB.out)
        clear HRES HL hc1 ht hN hall
        go_wp2_with fail
        go_ret
        exact ⟨rfl, HB2.out⟩
      · have hol2 : out.length = k := by rw [← hN.out, partsT_len, HL.out]
        have hg1 : ((out.length : Int) == 0) = false := by rw [beq_eq_false_iff_ne]; omega
        have hg2 : ((out.length : Nat) == 0) = false := by rw [beq_eq_false_iff_ne]; omega
        have hrow := hO.out
        rcases hrow.2 with ⟨hv, hn⟩ | ⟨g, cap, cur, hv, hbg, hg, hnc, hcm, hcs, hcur⟩
        · omega
        injection hv with hv1 _ hv2
        subst hv1 hv2
        have hcells : ∀ (j : Nat) (x : ByteArray), out[j]? = some x → wr.cell? ⟨g, 0 + j, none⟩ = some (.string x) := by
          intro j x hj
          rw [Nat.zero_add]
          refine (blk_cell hg j).trans ?_
          have hjl : j < out.length := (List.getElem?_eq_some_iff.1 hj).1
          have e9 : (cur.toList.take (out.length * 1))[j]? = (strs out)[j]? := by rw [hcur]
          rw [List.getElem?_take, if_pos (by omega), Array.getElem?_toList] at e9
          rw [e9]
          unfold strs
          rw [List.getElem?_map, hj]
          rfl
        have hjo := join_text (t := t) (by rw [HL.out]; omega)
        rw [hN.out] at hjo
        have hsize := upT_size t HM.out
        rw [HL.out] at hsize
        have hjs : (Lib.join (out.map (·.data.toList)) (⟨#[44]⟩ : ByteArray).data.toList).length ≤ 140737488355328 := by
          have e : (Lib.join (out.map (·.data.toList)) (⟨#[44]⟩ : ByteArray).data.toList).length = (upT t).size := by
            rw [← textT_up (by rw [HL.out]; omega), ← hjo]
            show _ = (Lib.join _ _).toArray.size
            simp
          rw [e]
          omega
        have HJ := Lib.hid (Tryz.strings_Join g 0 c0 out ⟨#[44]⟩ wr hcells (blk_lt hg) (by omega) hnc hjs)
        rw [hjo, HRES.out] at HJ
        have HB2 := Lib.hid (below_step HB.out hB.out)
        clear hcells hg hcur hcs hjo hjs hol2 hrow
        go_wp2_with fail
        refine HJ.out.mono ?_
        rintro e w5 ⟨rfl, hb5⟩
        go_wp2_with fail
        go_ret
        exact ⟨rfl, below_step HB2.out hb5⟩

end Go.Proofs.YtnfdppkbbfdmnaaGreatDoor.PD

namespace Go.Proofs.YtnfdppkbbfdmnaaGreatDoor.PD
open Go.RowKit Go.Proofs.YtnfdppkbbfdmnaaGreatDoorW.PrintWords Go.Proofs.YtnfdppkbbfdmnaaGreatDoorW.PrintLast Go.Proofs.YtnfdppkbbfdmnaaGreatDoorW.PrintMore
set_option linter.unusedVariables false
set_option linter.unusedSimpArgs false
/-! ### Each -/
set_option maxRecDepth 100000 in
set_option maxHeartbeats 4000000 in
theorem Each_calls {v : Value} (l : List S57) (w : World) (h : Lst w v l) :
    Calls Tryz.prog 38 #[v] w fun e w' => ∃ B v', e = .returned (.func (.func 73) #[] #[.pointer (some ⟨B, 0, none⟩)]) ∧ w.heap.size ≤ B ∧ Boxed w' B 23 v' ∧ Row w' w.heap.size v' (takenL l) ∧ Below w.heap.size w w' := by
  have hmf : ∀ (fn : Fn) (first cap : Array Value) (w : World), (Instr.makeFunc fn first cap).run Tryz.prog w = .ok (.func fn first cap) w := fun _ _ _ _ => rfl
  have HT := Lib.hid (taken_calls l w h)
  have hlen := right_le (takenL_right l)
  obtain ⟨A, c, rfl, _, _⟩ := h
  generalize takenL l = t at *
  go_enter Tryz.func38, Tryz.ntmps38
  go_wp2_with fail
  refine HT.out.mono ?_
  rintro e w1 ⟨v1, rfl, hL, hb, _⟩
  have HC := Lib.hid (clone_calls t w1 hL (by omega)); have HB := Lib.hid hb
  clear hL hb
  go_wp2_with fail
  refine HC.out.mono ?_
  rintro e w2 ⟨v2, rfl, hO, hb2⟩
  have HO := Lib.hid hO; have HB2 := Lib.hid (below_step HB.out hb2)
  have hle := HB.out.size
  obtain ⟨A2, c2, rfl⟩ := row_form hO
  clear hO hb2 HC
  go_wp2_with fail
  go_ret
  refine ⟨w2.heap.size, _, rfl, HB2.out.size, Boxed.new _ _ _, (HO.out.lower hle).below ((Below.refl _ _).alloc (Nat.le_refl _) _), HB2.out.alloc HB2.out.size _⟩

end Go.Proofs.YtnfdppkbbfdmnaaGreatDoor.PD
