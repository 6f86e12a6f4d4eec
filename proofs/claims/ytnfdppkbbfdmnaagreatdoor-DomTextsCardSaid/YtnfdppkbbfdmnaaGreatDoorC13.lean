/- Parts of the laws of dom: functions of the program, each with the proof of what it answers; the conditions are those of each theorem. -/
import Derived.Test.YtnfdppkbbfdmnaaGreatDoorC12
import Derived.Lib.ParseIntBCases
import Derived.Lib.ParseIntBTie
import Derived.Test.YtnfdppkbbfdmnaaGreatDoorC1
namespace Go.Proofs.YtnfdppkbbfdmnaaGreatDoor.PD
open Go.RowKit Go.Proofs.YtnfdppkbbfdmnaaGreatDoorW.PrintWords Go.Proofs.YtnfdppkbbfdmnaaGreatDoorW.PrintLast Go.Proofs.YtnfdppkbbfdmnaaGreatDoorW.PrintMore
set_option linter.unusedVariables false
set_option linter.unusedSimpArgs false
/-! ### numbers, read back -/
def digitB (c : UInt8) : Bool := 48 ≤ c && c ≤ 57
def decV (l : List UInt8) : Nat := l.foldl (fun n c => 10 * n + (c.toNat - 48)) 0
theorem decV_go (l : List UInt8) : ∀ acc, l.foldl (fun n c => 10 * n + (c.toNat - 48)) acc ≥ acc := by
  induction l with
  | nil => intro acc; exact Nat.le_refl _
  | cons c t ih => intro acc; rw [List.foldl_cons]; have := ih (10 * acc + (c.toNat - 48)); omega
theorem digitB_nat {c : UInt8} (h : digitB c = true) : 48 ≤ c.toNat ∧ c.toNat ≤ 57 := by
  unfold digitB at h
  rw [Bool.and_eq_true, decide_eq_true_iff, decide_eq_true_iff, UInt8.le_iff_toNat_le, UInt8.le_iff_toNat_le] at h
  exact h
theorem uintM_digits : ∀ (l : List UInt8) (acc : Nat), (∀ c ∈ l, digitB c = true) →
    Lib.parseUintM 18446744073709551615 acc l = .ok (l.foldl (fun n c => 10 * n + (c.toNat - 48)) acc) ∨ (Lib.parseUintM 18446744073709551615 acc l = .range ∧ 18446744073709551615 < l.foldl (fun n c => 10 * n + (c.toNat - 48)) acc)
  | [], acc, _ => .inl rfl
  | c :: t, acc, h => by
    have hc := digitB_nat (h c (by simp))
    rw [Lib.parseUintM, if_pos hc, List.foldl_cons]
    have hg := decV_go t (10 * acc + (c.toNat - 48))
    split
    · exact .inr ⟨rfl, by omega⟩
    · split
      · exact .inr ⟨rfl, by omega⟩
      · rw [Nat.mul_comm acc 10]
        exact uintM_digits t _ (fun x hx => h x (by simp [hx]))
/-- what strconv.ParseInt says of digits behind a '-', or none -/
theorem parse_digits (b : Bool) (ds : List UInt8) (h : ∀ c ∈ ds, digitB c = true) :
    (ds = [] ∨ 1000000000 < decV ds) ∧ (Lib.parseIntB 64 (if b then 45 :: ds else ds) = Lib.parseIntB 64 [] ∨ Lib.parseIntB 64 (if b then 45 :: ds else ds) = .range) ∨
    ds ≠ [] ∧ Lib.parseIntB 64 (if b then 45 :: ds else ds) = .ok (if b then -(decV ds : Int) else decV ds) := by
  cases ds with
  | nil => exact .inl ⟨.inl rfl, .inl (by cases b <;> rfl)⟩
  | cons c t =>
    have hc := digitB_nat (h c (by simp))
    have hu : Lib.parseUintB 64 (c :: t) = Lib.parseUintM 18446744073709551615 0 (c :: t) := by
      unfold Lib.parseUintB
      rw [if_neg (by simp)]
    have hm := uintM_digits (c :: t) 0 h
    have hv : decV (c :: t) = (c :: t).foldl (fun n c => 10 * n + (c.toNat - 48)) 0 := rfl
    rw [← hv, ← hu] at hm
    have e63 : 2 ^ (64 - 1) = 9223372036854775808 := by decide
    cases b with
    | false =>
      rw [if_neg (by decide), if_neg (by decide), Lib.parseIntB_plain 64 c t (by omega) (by omega), e63]
      rcases hm with hm | ⟨hm, hx⟩
      · rw [hm]
        unfold Lib.signlessC
        by_cases hb : 9223372036854775808 ≤ decV (c :: t)
        · exact .inl ⟨.inr (by omega), .inr (by dsimp only; rw [if_pos hb])⟩
        · exact .inr ⟨by simp, by dsimp only; rw [if_neg hb]⟩
      · rw [hm]
        exact .inl ⟨.inr (by omega), .inr rfl⟩
    | true =>
      rw [if_pos rfl, if_pos rfl, Lib.parseIntB_minus, e63]
      rcases hm with hm | ⟨hm, hx⟩
      · rw [hm]
        unfold Lib.signedC
        by_cases hb : 9223372036854775808 < decV (c :: t)
        · exact .inl ⟨.inr (by omega), .inr (by dsimp only; rw [if_pos hb])⟩
        · exact .inr ⟨by simp, by dsimp only; rw [if_neg hb]⟩
      · rw [hm]
        exact .inl ⟨.inr (by omega), .inr rfl⟩
theorem decD_all (n : Nat) : (∀ c ∈ Lib.decDigits n, digitB c = true) ∧ Lib.decDigits n ≠ [] ∧ decV (Lib.decDigits n) = n := by
  induction n using Nat.strongRecOn with
  | ind n ih =>
    have hd : ∀ m, m < 10 → digitB (UInt8.ofNat (48 + m)) = true ∧ (UInt8.ofNat (48 + m)).toNat - 48 = m := by
      intro m hm
      have e : (UInt8.ofNat (48 + m)).toNat = 48 + m := by rw [UInt8.toNat_ofNat']; omega
      refine ⟨?_, by omega⟩
      unfold digitB
      rw [Bool.and_eq_true, decide_eq_true_iff, decide_eq_true_iff, UInt8.le_iff_toNat_le, UInt8.le_iff_toNat_le, e]
      exact ⟨by show 48 ≤ _; omega, by show _ ≤ 57; omega⟩
    unfold Lib.decDigits
    split
    · rename_i h
      obtain ⟨h1, h2⟩ := hd n h
      refine ⟨fun c hc => by rw [List.mem_singleton] at hc; subst hc; exact h1, by simp, ?_⟩
      show 10 * 0 + _ = n
      rw [h2]; omega
    · rename_i h
      obtain ⟨q1, q2, q3⟩ := ih (n / 10) (by omega)
      obtain ⟨h1, h2⟩ := hd (n % 10) (by omega)
      refine ⟨fun c hc => ?_, by simp, ?_⟩
      · rw [List.mem_append, List.mem_singleton] at hc
        rcases hc with hc | rfl
        · exact q1 c hc
        · exact h1
      · unfold decV at q3 ⊢
        rw [List.foldl_append, q3]
        show 10 * (n / 10) + _ = n
        rw [h2]; omega
theorem parse_itoa (n : Int) (h0 : -1000000 ≤ n) (h1 : n ≤ 1000000) : Lib.parseIntB 64 (Lib.itoa n) = .ok n := by
  obtain ⟨d1, d2, d3⟩ := decD_all n.natAbs
  unfold Lib.itoa
  split
  · rename_i h
    rcases parse_digits true (Lib.decDigits n.natAbs) d1 with ⟨h1, _⟩ | ⟨_, h2⟩
    · rcases h1 with h1 | h1
      · exact absurd h1 d2
      · rw [d3] at h1; omega
    · rw [if_pos rfl, if_pos rfl, d3] at h2
      rw [h2]
      congr 1
      omega
  · rename_i h
    rw [show n.toNat = n.natAbs by omega]
    rcases parse_digits false (Lib.decDigits n.natAbs) d1 with ⟨h1, _⟩ | ⟨_, h2⟩
    · rcases h1 with h1 | h1
      · exact absurd h1 d2
      · rw [d3] at h1; omega
    · rw [if_neg (by decide), if_neg (by decide), d3] at h2
      rw [h2]
      congr 1
      omega

end Go.Proofs.YtnfdppkbbfdmnaaGreatDoor.PD

namespace Go.Proofs.YtnfdppkbbfdmnaaGreatDoor.PD
open Go.RowKit Go.Proofs.YtnfdppkbbfdmnaaGreatDoorW.PrintWords Go.Proofs.YtnfdppkbbfdmnaaGreatDoorW.PrintLast Go.Proofs.YtnfdppkbbfdmnaaGreatDoorW.PrintMore
set_option linter.unusedVariables false
set_option linter.unusedSimpArgs false
/-! ### a part, cut at its two dots -/
theorem dots_none : ∀ (p : List UInt8) (c : UInt8), c ∉ p → Lib.index p [c, c] = -1
  | [], _, _ => rfl
  | b :: p, c, h => by
    have hb : b ≠ c := fun e => h (by simp [e])
    have hp : c ∉ p := fun e => h (by simp [e])
    rw [Lib.index, if_neg (by simp [List.isPrefixOf, Ne.symm hb]), dots_none p c hp]
    rfl
theorem dots_first : ∀ (p r : List UInt8) (c : UInt8), c ∉ p → Lib.index (p ++ c :: c :: r) [c, c] = p.length
  | [], r, c, _ => by
    rw [List.nil_append, Lib.index, if_pos (by simp [List.isPrefixOf])]
    rfl
  | b :: p, r, c, h => by
    have hb : b ≠ c := fun e => h (by simp [e])
    have hp : c ∉ p := fun e => h (by simp [e])
    have ih := dots_first p r c hp
    rw [List.cons_append, Lib.index, if_neg (by simp [List.isPrefixOf, Ne.symm hb]), ih, if_neg (by simp), List.length_cons]
    omega
theorem decB_dot (n : Int) : (46 : UInt8) ∉ Lib.itoa n := by
  intro h
  rcases decB_ok n 46 h with h | h
  · exact absurd h (by decide)
  · exact absurd h.1 (by decide)
theorem cut_one (n : Int) : Lib.cut (Lib.itoa n) [46, 46] = (Lib.itoa n, [], false) := by
  unfold Lib.cut
  rw [dots_none _ _ (decB_dot n), if_neg (by decide)]
theorem cut_two (a b : Int) : Lib.cut (Lib.itoa a ++ 46 :: 46 :: Lib.itoa b) [46, 46] = (Lib.itoa a, Lib.itoa b, true) := by
  unfold Lib.cut
  rw [dots_first _ _ _ (decB_dot a), if_pos (by omega), Int.toNat_natCast, List.take_left' rfl]
  congr 2
  rw [show Lib.itoa a ++ 46 :: 46 :: Lib.itoa b = (Lib.itoa a ++ [46, 46]) ++ Lib.itoa b by simp, List.drop_left' (by simp)]

end Go.Proofs.YtnfdppkbbfdmnaaGreatDoor.PD

namespace Go.Proofs.YtnfdppkbbfdmnaaGreatDoor.PD
open Go.RowKit Go.Proofs.YtnfdppkbbfdmnaaGreatDoorW.PrintWords Go.Proofs.YtnfdppkbbfdmnaaGreatDoorW.PrintLast Go.Proofs.YtnfdppkbbfdmnaaGreatDoorW.PrintMore
set_option linter.unusedVariables false
set_option linter.unusedSimpArgs false
/-! ### a part, read -/
def twoB (x : List UInt8) : List UInt8 := if (Lib.cut x [46, 46]).2.2 = true then (Lib.cut x [46, 46]).2.1 else (Lib.cut x [46, 46]).1
def parsePart (x : List UInt8) : Option S57 :=
  match Lib.parseIntB 64 (Lib.cut x [46, 46]).1, Lib.parseIntB 64 (twoB x) with
  | .ok lo, .ok hi => some ⟨lo, hi⟩
  | _, _ => none
theorem part_ok (r : S57) (h0 : -1000000 ≤ r.f0) (h : r.f0 ≤ r.f1) (h1 : r.f1 ≤ 1000000) : parsePart (rngT r).data.toList = some r := by
  have p0 := parse_itoa r.f0 h0 (by omega)
  have p1 := parse_itoa r.f1 (by omega) h1
  unfold rngT
  by_cases hc : r.f0 < r.f1
  · rw [if_pos hc]
    have e : (decB r.f0 ++ (⟨#[46, 46]⟩ ++ decB r.f1)).data.toList = Lib.itoa r.f0 ++ 46 :: 46 :: Lib.itoa r.f1 := by
      rw [ByteArray.data_append, ByteArray.data_append, Array.toList_append, Array.toList_append]
      rfl
    rw [e]
    unfold parsePart twoB
    rw [cut_two, if_pos rfl, p0, p1]
  · rw [if_neg hc]
    have e : (decB r.f0).data.toList = Lib.itoa r.f0 := rfl
    rw [e]
    unfold parsePart twoB
    rw [cut_one, if_neg (by simp), p0]
    simp only
    congr 1
    exact S57_eta rfl (by show r.f0 = r.f1; omega)

end Go.Proofs.YtnfdppkbbfdmnaaGreatDoor.PD

namespace Go.Proofs.YtnfdppkbbfdmnaaGreatDoor.PD
open Go.RowKit Go.Proofs.YtnfdppkbbfdmnaaGreatDoorW.PrintWords Go.Proofs.YtnfdppkbbfdmnaaGreatDoorW.PrintLast Go.Proofs.YtnfdppkbbfdmnaaGreatDoorW.PrintMore
set_option linter.unusedVariables false
set_option linter.unusedSimpArgs false
/-! ### all parts, read -/
def parseAll : List ByteArray → List S57 → Option (List S57)
  | [], acc => some acc
  | x :: xs, acc => match parsePart x.data.toList with
    | some r => parseAll xs (acc ++ [r])
    | none => none
theorem parseAll_ok : ∀ (t acc : List S57), (∀ s ∈ t, -1000000 ≤ s.f0 ∧ s.f0 ≤ s.f1 ∧ s.f1 ≤ 1000000) → parseAll (partsT t) acc = some (acc ++ t)
  | [], acc, _ => by
    show some acc = _
    rw [List.append_nil]
  | r :: t, acc, h => by
    have hr := h r (by simp)
    have e : partsT (r :: t) = rngT r :: partsT t := rfl
    rw [e, parseAll, part_ok r hr.1 hr.2.1 hr.2.2]
    simp only
    rw [parseAll_ok t _ (fun x hx => h x (by simp [hx])), List.append_assoc]
    rfl
end Go.Proofs.YtnfdppkbbfdmnaaGreatDoor.PD

namespace Go.Proofs.YtnfdppkbbfdmnaaGreatDoor.PD
open Go.RowKit Go.Proofs.YtnfdppkbbfdmnaaGreatDoorW.PrintWords Go.Proofs.YtnfdppkbbfdmnaaGreatDoorW.PrintLast Go.Proofs.YtnfdppkbbfdmnaaGreatDoorW.PrintMore
set_option linter.unusedVariables false
set_option linter.unusedSimpArgs false
/-! ### ParseInt -/
def PInt (x : List UInt8) (e : Ending) : Prop :=
  (∃ v, Lib.parseIntB 64 x = .ok v ∧ e = .returned (.tuple #[.int .i64 v, .nilIface])) ∨
  ((∀ v, Lib.parseIntB 64 x ≠ .ok v) ∧ ∃ n a, e = .returned (.tuple #[.int .i64 n, .iface 109 (.pointer (some a))]))
theorem pint_calls (s : ByteArray) (hz : s.size ≤ 140737488351232) (w : World) (hl : DomLaid w) :
    Calls Tryz.prog 68 #[.string s, .int .i64 10, .int .i64 64] w fun e w' => PInt s.data.toList e ∧ Below w.heap.size w w' := by
  obtain ⟨tp, p, hv⟩ := hl.syn
  obtain ⟨tq, q, hq⟩ := hl.rng
  rcases hp : Lib.parseIntB 64 s.data.toList with v | _ | _
  · refine (Tryz.strconv_ParseInt_10_at64_ok s (by omega) v hp w).mono ?_
    rintro e w' ⟨rfl, hw⟩
    refine ⟨.inl ⟨v, hp, rfl⟩, ?_⟩
    rcases hw with rfl | ⟨t, rfl⟩
    · exact Below.refl _ _
    · exact Go.Joins.below_bytesWorld _ _ _ _ (Nat.le_refl _)
  · refine (Tryz.strconv_ParseInt_10_at64_syntax_var s (by omega) hp tp p w hv).mono ?_
    rintro e w' ⟨N, rfl, _, _, hb⟩
    exact ⟨.inr ⟨fun v h => (by rw [hp] at h; cases h), _, _, rfl⟩, hb⟩
  · refine (Tryz.strconv_ParseInt_10_at64_range_var s (by omega) hp tq q w hq).mono ?_
    rintro e w' ⟨N, rfl, _, _, hb⟩
    exact ⟨.inr ⟨fun v h => (by rw [hp] at h; cases h), _, _, rfl⟩, hb⟩

end Go.Proofs.YtnfdppkbbfdmnaaGreatDoor.PD

namespace Go.Proofs.YtnfdppkbbfdmnaaGreatDoor.PD
open Go.RowKit Go.Proofs.YtnfdppkbbfdmnaaGreatDoorW.PrintWords Go.Proofs.YtnfdppkbbfdmnaaGreatDoorW.PrintLast Go.Proofs.YtnfdppkbbfdmnaaGreatDoorW.PrintMore
set_option linter.unusedVariables false
set_option linter.unusedSimpArgs false
/-! ### Parse of the program (begun) -/
def parseO (s : ByteArray) : Option (List S57) → List S57 × Int
  | none => ([], 20)
  | some l => if rightS l = true ∧ textT l = s then (l, 0) else ([], 20)
def partsOf (s : ByteArray) : List ByteArray := Lib.splitB ⟨#[44]⟩ 0 (Lib.countB s ⟨#[44]⟩) s
def parseS (s : ByteArray) : List S57 × Int := if 65536 < s.size then ([], 3) else if s = ⟨#[123, 125]⟩ then ([], 0) else parseO s (parseAll (partsOf s) [])
/-- the text of right ranges is read as they are -/
theorem parse_text {l : List S57} (h : rightS l = true) (hl : 0 < l.length) (hz : (textT l).size ≤ 65536) : parseS (textT l) = (l, 0) := by
  obtain ⟨r, t, rfl⟩ : ∃ r t, l = r :: t := by cases l with | nil => simp at hl | cons r t => exact ⟨r, t, rfl⟩
  unfold parseS
  have hne : textT (r :: t) ≠ ⟨#[123, 125]⟩ := by
    intro e
    have e2 := textT_list (r := r) (t := t)
    rw [e] at e2
    have hr := right_mem h r (by simp)
    have q := part_ok r hr.1 hr.2.1 hr.2.2
    rcases hcs : (rngT r).data.toList with _ | ⟨c, cs⟩
    · rw [hcs] at q
      have q2 : parsePart [] = none := rfl
      rw [q2] at q
      cases q
    · rw [hcs] at e2
      have hc : c = 123 := by
        have := congrArg List.head? e2
        simpa using this.symm
      have := rngT_ok r c (by rw [hcs]; simp)
      rw [hc] at this
      rcases this with h | h | h
      · exact absurd h (by decide)
      · exact absurd h (by decide)
      · exact absurd h.2 (by decide)
  rw [if_neg (by omega), if_neg hne]
  have hp : partsOf (textT (r :: t)) = partsT (r :: t) := split_text r t
  rw [hp, parseAll_ok _ _ (right_mem h)]
  unfold parseO
  rw [List.nil_append]
  simp only [h, and_self, if_true]

end Go.Proofs.YtnfdppkbbfdmnaaGreatDoor.PD

namespace Go.Proofs.YtnfdppkbbfdmnaaGreatDoor.PD
open Go.RowKit Go.Proofs.YtnfdppkbbfdmnaaGreatDoorW.PrintWords Go.Proofs.YtnfdppkbbfdmnaaGreatDoorW.PrintLast Go.Proofs.YtnfdppkbbfdmnaaGreatDoorW.PrintMore
set_option linter.unusedVariables false
set_option linter.unusedSimpArgs false
/-! ### Parse of the program -/
theorem indexT_at (b : Nat) (m c : Nat) (i : Int) (h : 0 ≤ i ∧ i < m) (W : World) : (Instr.indexAt 62 (.slice (some ⟨b, 0, none⟩) m c) (.int .i64 i)).run Tryz.prog W = .ok (.pointer (some ⟨b, i.toNat, none⟩)) W := by
  obtain ⟨h1, h2⟩ := h
  rw [run_indexAt_slice (k := .i64) (h := by kernel_rfl)]
  simp [go_sem, h1, h2, add_zero_off]
theorem parseAll_drop {xs : List ByteArray} {k : Nat} (h : k < xs.length) (acc : List S57) : parseAll (xs.drop k) acc = match parsePart xs[k].data.toList with
    | some r => parseAll (xs.drop (k + 1)) (acc ++ [r])
    | none => none := by
  rw [List.drop_eq_getElem_cons h]
  rfl
theorem parsePart_bad {x : List UInt8} (h : (∀ v, Lib.parseIntB 64 (Lib.cut x [46, 46]).1 ≠ .ok v) ∨ (∀ v, Lib.parseIntB 64 (twoB x) ≠ .ok v)) : parsePart x = none := by
  unfold parsePart
  split
  · rename_i lo hi e1 e2
    rcases h with h | h
    · exact absurd e1 (h _)
    · exact absurd e2 (h _)
  · rfl
theorem parsePart_good {x : List UInt8} {lo hi : Int} (h1 : Lib.parseIntB 64 (Lib.cut x [46, 46]).1 = .ok lo) (h2 : Lib.parseIntB 64 (twoB x) = .ok hi) : parsePart x = some ⟨lo, hi⟩ := by
  unfold parsePart
  rw [h1, h2]

end Go.Proofs.YtnfdppkbbfdmnaaGreatDoor.PD

namespace Go.Proofs.YtnfdppkbbfdmnaaGreatDoor.PD
open Go.RowKit Go.Proofs.YtnfdppkbbfdmnaaGreatDoorW.PrintWords Go.Proofs.YtnfdppkbbfdmnaaGreatDoorW.PrintLast Go.Proofs.YtnfdppkbbfdmnaaGreatDoorW.PrintMore
attribute [local go_sem] max2_int min2_int max_two min_two max_three min_three max_four min_four   -- for this text's walks alone
set_option linter.unusedVariables false
set_option linter.unusedSimpArgs false

/-! ### jigsawref02_number: function 69 -/
mutual
def jigsawref02_number.j0 : Nat → ByteArray → Int → Int → Bool → Option (Int × Int × Bool)
  | 0, _, _, _, _ => none
  | k + 1, x0, x1, x7, x20 => if x20 = true then (jigsawref02_number.j1 k x0 x1 (wrap64 (x7 + 1))) else (jigsawref02_number.j1 k x0 x1 x7)
def jigsawref02_number.j1 : Nat → ByteArray → Int → Int → Option (Int × Int × Bool)
  | 0, _, _, _ => none
  | k + 1, x0, x1, x7 => jigsawref02_number.l0 k x0 x1 x7 x7 0
def jigsawref02_number.l0 : Nat → ByteArray → Int → Int → Int → Int → Option (Int × Int × Bool)
  | 0, _, _, _, _, _ => none
  | k + 1, x0, x1, x7, x8, x9 => if x7 < (x0.size : Int) then (if (wrap64 (x7 - x8)) < 9 then (if 0 ≤ x7 then (if (bt x0 x7) ≥ 48 then (if (bt x0 x7) ≤ 57 then (jigsawref02_number.l0 k x0 x1 (wrap64 (x7 + 1)) x8 (wrap64 ((wrap64 (10 * x9)) + (((bt x0 x7) - 48) % 256)))) else (if x8 > x1 then (some (wrap64 (-x9), x7, decide (x7 > x8))) else (some (x9, x7, decide (x7 > x8))))) else (if x8 > x1 then (some (wrap64 (-x9), x7, decide (x7 > x8))) else (some (x9, x7, decide (x7 > x8))))) else (none)) else (if x8 > x1 then (some (wrap64 (-x9), x7, decide (x7 > x8))) else (some (x9, x7, decide (x7 > x8))))) else (if x8 > x1 then (some (wrap64 (-x9), x7, decide (x7 > x8))) else (some (x9, x7, decide (x7 > x8))))
end
def jigsawref02_number.f (k : Nat) (a0 : ByteArray) (a1 : Int) : Option (Int × Int × Bool) := if a1 < (a0.size : Int) then (if 0 ≤ a1 then (jigsawref02_number.j0 k a0 a1 a1 ((bt a0 a1) == 45)) else (none)) else (jigsawref02_number.j0 k a0 a1 a1 false)
theorem jigsawref02_number.mono_l : ∀ k, (∀ y0 y1 y2 y3, LeO (jigsawref02_number.j0 k y0 y1 y2 y3) (jigsawref02_number.j0 (k + 1) y0 y1 y2 y3)) ∧ (∀ y0 y1 y2, LeO (jigsawref02_number.j1 k y0 y1 y2) (jigsawref02_number.j1 (k + 1) y0 y1 y2)) ∧ (∀ y0 y1 y2 y3 y4, LeO (jigsawref02_number.l0 k y0 y1 y2 y3 y4) (jigsawref02_number.l0 (k + 1) y0 y1 y2 y3 y4))
  | 0 => ⟨fun _ _ _ _ r h => by simp [jigsawref02_number.j0] at h, fun _ _ _ r h => by simp [jigsawref02_number.j1] at h, fun _ _ _ _ _ r h => by simp [jigsawref02_number.l0] at h⟩
  | k + 1 => by
    obtain ⟨ih0, ih1, ih2⟩ := jigsawref02_number.mono_l k
    refine ⟨?_, ?_, ?_⟩
    · intro y0 y1 y2 y3
      unfold jigsawref02_number.j0
      repeat' first
      | (with_reducible exact ih0 _ _ _ _)
      | (with_reducible exact ih1 _ _ _)
      | (with_reducible exact ih2 _ _ _ _ _)
      | (with_reducible exact LeO.refl _)
      | (with_reducible exact LeO.none _)
      | (with_reducible refine LeO.ite ?_ ?_)
      | (with_reducible refine LeO.bind ?_ (fun _ => ?_))
      | exact ih0 _ _ _ _
      | exact ih1 _ _ _
      | exact ih2 _ _ _ _ _
      | exact LeO.none _
      | refine LeO.ite ?_ ?_
      | refine LeO.bind ?_ (fun _ => ?_)
    · intro y0 y1 y2
      unfold jigsawref02_number.j1
      repeat' first
      | (with_reducible exact ih0 _ _ _ _)
      | (with_reducible exact ih1 _ _ _)
      | (with_reducible exact ih2 _ _ _ _ _)
      | (with_reducible exact LeO.refl _)
      | (with_reducible exact LeO.none _)
      | (with_reducible refine LeO.ite ?_ ?_)
      | (with_reducible refine LeO.bind ?_ (fun _ => ?_))
      | exact ih0 _ _ _ _
      | exact ih1 _ _ _
      | exact ih2 _ _ _ _ _
      | exact LeO.none _
      | refine LeO.ite ?_ ?_
      | refine LeO.bind ?_ (fun _ => ?_)
    · intro y0 y1 y2 y3 y4
      unfold jigsawref02_number.l0
      repeat' first
      | (with_reducible exact ih0 _ _ _ _)
      | (with_reducible exact ih1 _ _ _)
      | (with_reducible exact ih2 _ _ _ _ _)
      | (with_reducible exact LeO.refl _)
      | (with_reducible exact LeO.none _)
      | (with_reducible refine LeO.ite ?_ ?_)
      | (with_reducible refine LeO.bind ?_ (fun _ => ?_))
      | exact ih0 _ _ _ _
      | exact ih1 _ _ _
      | exact ih2 _ _ _ _ _
      | exact LeO.none _
      | refine LeO.ite ?_ ?_
      | refine LeO.bind ?_ (fun _ => ?_)
theorem jigsawref02_number.mono : ∀ a0 a1 k, LeO (jigsawref02_number.f k a0 a1) (jigsawref02_number.f (k + 1) a0 a1) := by
  intro a0 a1 k
  obtain ⟨ih0, ih1, ih2⟩ := jigsawref02_number.mono_l k
  unfold jigsawref02_number.f
  repeat' first
      | (with_reducible exact ih0 _ _ _ _)
      | (with_reducible exact ih1 _ _ _)
      | (with_reducible exact ih2 _ _ _ _ _)
      | (with_reducible exact LeO.refl _)
      | (with_reducible exact LeO.none _)
      | (with_reducible refine LeO.ite ?_ ?_)
      | (with_reducible refine LeO.bind ?_ (fun _ => ?_))
      | exact ih0 _ _ _ _
      | exact ih1 _ _ _
      | exact ih2 _ _ _ _ _
      | exact LeO.none _
      | refine LeO.ite ?_ ?_
      | refine LeO.bind ?_ (fun _ => ?_)
set_option maxHeartbeats 8000000 in
set_option maxRecDepth 100000 in
theorem jigsawref02_number.calls (k : Nat) (a0 : ByteArray) (a1 : Int) (r1 : Int) (r2 : Int) (r3 : Bool) (w : World) (h : jigsawref02_number.f k a0 a1 = some (r1, r2, r3)) :
    Calls Tryz.prog 69 #[.string a0, .int .i64 a1] w fun e w' => e = .returned (.tuple #[.int .i64 r1, .int .i64 r2, .bool r3]) ∧ Drawn0 w w' := by
  have H : (if a1 < (a0.size : Int) then (if 0 ≤ a1 then (jigsawref02_number.j0 k a0 a1 a1 ((bt a0 a1) == 45)) else (none)) else (jigsawref02_number.j0 k a0 a1 a1 false)) = some (r1, r2, r3) := h
  clear h
  have HC3 := Aside0.mk H
  clear H
  go_enter Tryz.func69, Tryz.ntmps69
  go_upto_region 2 with (fail)
  go_cut [20] (fun v20 wc => ∃ (kq : Nat) (x20_2 : Bool), v20 = .bool x20_2 ∧ Aside0 (jigsawref02_number.j0 kq a0 a1 a1 x20_2 = some (r1, r2, r3)) ∧ Aside0 (kq ≤ k) ∧ Drawn0 w wc)
  case first =>
    have H := HC3.out
    clear HC3
    by_cases c4 : a1 < (a0.size : Int)
    · rw [if_pos c4] at H
      have c4b0 : decide (a1 < (a0.size : Int)) = true := decide_eq_true c4
      clear c4
      (first | rw [c4b0] | (simp only [i64_w, i32_w]; rw [c4b0]) | skip)
      by_cases c5 : 0 ≤ a1
      · rw [if_pos c5] at H
        have c5b0 : decide (0 ≤ a1) = true := decide_eq_true c5
        clear c5
        have H' := Aside0.mk H
        clear H
        have p6 : 0 ≤ (a1 : Int) := of_decide_eq_true (by first | (with_reducible assumption) | assumption)
        have q6 : a1 < (a0.size : Int) := of_decide_eq_true (by first | (with_reducible assumption) | assumption)
        have hx6 := bt_at a0 a1
        replace p6 := eq_true p6
        replace q6 := eq_true q6
        go_wp2
        go_meet
        case rel => exact ⟨_, (((bt a0 a1) == 45)), (by first | rfl | (simp; done) | (simp [*]; done)), H', ⟨by first | omega | exact Nat.le_refl _⟩, by repeat (first | exact Drawn0.refl _ | apply Drawn0.step)⟩
      · rw [if_neg c5] at H
        exact absurd H (by simp)
    · rw [if_neg c4] at H
      have c4b0 : decide (a1 < (a0.size : Int)) = false := decide_eq_false c4
      clear c4
      (first | rw [c4b0] | (simp only [i64_w, i32_w]; rw [c4b0]) | skip)
      have H' := Aside0.mk H
      clear H
      go_wp2
      go_meet
      case rel => exact ⟨_, (false), (by first | rfl | (simp; done) | (simp [*]; done)), H', ⟨by first | omega | exact Nat.le_refl _⟩, by repeat (first | exact Drawn0.refl _ | apply Drawn0.step)⟩
  case rest =>
    clear HC3
    try clear p2
    try clear c4
    try clear c4b0
    try clear c5
    try clear c5b0
    try clear c6
    try clear p6
    try clear q6
    try clear hx6
    try clear p6
    try clear q6
    obtain ⟨kq, x20_2, rfl, HA, HJ2, ⟨mc2, rfl⟩⟩ := hcut
    cases kq with
    | zero => exact absurd HA.out (by simp [jigsawref02_number.j0])
    | succ kj2 =>
      have H := HA.out
      clear HA
      simp only [jigsawref02_number.j0] at H
      have HC7 := Aside0.mk H
      clear H
      go_upto_if 20 with (fail)
      go_cut [7] (fun v7 wc => ∃ (kq : Nat) (x7_6 : Int), v7 = .int .i64 x7_6 ∧ Aside0 (jigsawref02_number.j1 kq a0 a1 x7_6 = some (r1, r2, r3)) ∧ Aside0 (kq ≤ kj2) ∧ Drawn0 w wc)
      case first =>
        have H := HC7.out
        clear HC7
        by_cases c8 : x20_2 = true
        · subst c8
          have H1 : (jigsawref02_number.j1 kj2 a0 a1 (wrap64 (a1 + 1))) = some (r1, r2, r3) := by rw [if_pos rfl] at H; exact H
          clear H
          have H := H1
          clear H1
          have H' := Aside0.mk H
          clear H
          go_wp2
          go_meet
          case rel => exact ⟨_, (wrap64 (a1 + 1)), (by first | rfl | (simp; done) | (simp [*]; done)), H', ⟨by have := HJ2.out; first | omega | exact Nat.le_refl _⟩, by repeat (first | exact Drawn0.refl _ | apply Drawn0.step)⟩
        · replace c8 := Bool.eq_false_iff.mpr c8
          subst c8
          have H1 : (jigsawref02_number.j1 kj2 a0 a1 a1) = some (r1, r2, r3) := by rw [if_neg (show ¬ (false = true) by decide)] at H; exact H
          clear H
          have H := H1
          clear H1
          have H' := Aside0.mk H
          clear H
          go_wp2
          go_meet
          case rel => exact ⟨_, (a1), (by first | rfl | (simp; done) | (simp [*]; done)), H', ⟨by have := HJ2.out; first | omega | exact Nat.le_refl _⟩, by repeat (first | exact Drawn0.refl _ | apply Drawn0.step)⟩
      case rest =>
        clear HC7
        try clear c2
        try clear p2
        try clear c4
        try clear c4b0
        try clear c5
        try clear c5b0
        try clear c6
        try clear p6
        try clear q6
        try clear hx6
        try clear c8
        try clear p2
        try clear p6
        try clear q6
        obtain ⟨kq, x7_6, rfl, HA, HJ6, ⟨mc6, rfl⟩⟩ := hcut
        cases kq with
        | zero => exact absurd HA.out (by simp [jigsawref02_number.j1])
        | succ kj6 =>
          have H := HA.out
          clear HA
          simp only [jigsawref02_number.j1] at H
          have H' := Aside0.mk H
          clear H
          go_wp2
          go_loopg [7, 9] kj6 (fun kq v7 v9 w' => ∃ (x7_3 : Int) (x9_3 : Int), v7 = .int .i64 x7_3 ∧ v9 = .int .i64 x9_3 ∧ Aside0 (jigsawref02_number.l0 kq a0 a1 x7_3 x7_6 x9_3 = some (r1, r2, r3)) ∧ Aside0 (kq ≤ kj6) ∧ Drawn0 w w')
          case atStart => exact ⟨(x7_6), (0), (by first | rfl | (simp; done) | (simp [*]; done)), (by first | rfl | (simp; done) | (simp [*]; done)), H', ⟨Nat.le_refl _⟩, by repeat (first | exact Drawn0.refl _ | apply Drawn0.step)⟩
          case round =>
            clear H'
            try clear c2
            try clear p2
            try clear c4
            try clear c4b0
            try clear c5
            try clear c5b0
            try clear c6
            try clear p6
            try clear q6
            try clear hx6
            try clear c8
            try clear p2
            try clear p6
            try clear q6
            obtain ⟨x7_3, x9_3, rfl, rfl, HA, HK3, ⟨m3, rfl⟩⟩ := hrel
            cases gk with
            | zero => exact absurd HA.out (by simp [jigsawref02_number.l0])
            | succ k3 =>
              have H := HA.out
              clear HA
              simp only [jigsawref02_number.l0] at H
              by_cases c9 : x7_3 < (a0.size : Int)
              · rw [if_pos c9] at H
                have c9b0 : decide (x7_3 < (a0.size : Int)) = true := decide_eq_true c9
                clear c9
                by_cases c10 : (wrap64 (x7_3 - x7_6)) < 9
                · rw [if_pos c10] at H
                  have c10b0 : decide ((wrap64 (x7_3 - x7_6)) < 9) = true := decide_eq_true c10
                  clear c10
                  by_cases c11 : 0 ≤ x7_3
                  · rw [if_pos c11] at H
                    have c11b0 : decide (0 ≤ x7_3) = true := decide_eq_true c11
                    clear c11
                    by_cases c13 : (bt a0 x7_3) ≥ 48
                    · rw [if_pos c13] at H
                      have c13b0 : decide (48 ≤ (bt a0 x7_3)) = true := decide_eq_true c13
                      clear c13
                      by_cases c15 : (bt a0 x7_3) ≤ 57
                      · rw [if_pos c15] at H
                        have c15b0 : decide ((bt a0 x7_3) ≤ 57) = true := decide_eq_true c15
                        clear c15
                        have H' := Aside0.mk H
                        clear H
                        have p12 : 0 ≤ (x7_3 : Int) := of_decide_eq_true (by first | (with_reducible assumption) | assumption)
                        have q12 : x7_3 < (a0.size : Int) := of_decide_eq_true (by first | (with_reducible assumption) | assumption)
                        have hx12 := bt_at a0 x7_3
                        replace p12 := eq_true p12
                        replace q12 := eq_true q12
                        have p14 : 0 ≤ (x7_3 : Int) := of_decide_eq_true (by first | (with_reducible assumption) | assumption)
                        have q14 : x7_3 < (a0.size : Int) := of_decide_eq_true (by first | (with_reducible assumption) | assumption)
                        have hx14 := bt_at a0 x7_3
                        replace p14 := eq_true p14
                        replace q14 := eq_true q14
                        have p16 : 0 ≤ (x7_3 : Int) := of_decide_eq_true (by first | (with_reducible assumption) | assumption)
                        have q16 : x7_3 < (a0.size : Int) := of_decide_eq_true (by first | (with_reducible assumption) | assumption)
                        have hx16 := bt_at a0 x7_3
                        replace p16 := eq_true p16
                        replace q16 := eq_true q16
                        go_wp2
                        go_roundg k3
                        case measure => have := HJ2.out; have := HJ6.out; have := HK3.out; omega
                        case rel => exact ⟨(wrap64 (x7_3 + 1)), (wrap64 ((wrap64 (10 * x9_3)) + (((bt a0 x7_3) - 48) % 256))), (by first | rfl | (simp; done) | (simp [*]; done)), (by first | rfl | (simp; done) | (simp [*]; done)), H', ⟨by have := HJ2.out; have := HJ6.out; have := HK3.out; omega⟩, by repeat (first | exact Drawn0.refl _ | apply Drawn0.step)⟩
                      · rw [if_neg c15] at H
                        have c15b0 : decide ((bt a0 x7_3) ≤ 57) = false := decide_eq_false c15
                        clear c15
                        by_cases c17 : x7_6 > a1
                        · rw [if_pos c17] at H
                          have c17b0 : decide (a1 < x7_6) = true := decide_eq_true c17
                          clear c17
                          simp only [Option.some.injEq, Prod.mk.injEq] at H
                          obtain ⟨rfl, rfl, rfl⟩ := H
                          have p12 : 0 ≤ (x7_3 : Int) := of_decide_eq_true (by first | (with_reducible assumption) | assumption)
                          have q12 : x7_3 < (a0.size : Int) := of_decide_eq_true (by first | (with_reducible assumption) | assumption)
                          have hx12 := bt_at a0 x7_3
                          replace p12 := eq_true p12
                          replace q12 := eq_true q12
                          have p14 : 0 ≤ (x7_3 : Int) := of_decide_eq_true (by first | (with_reducible assumption) | assumption)
                          have q14 : x7_3 < (a0.size : Int) := of_decide_eq_true (by first | (with_reducible assumption) | assumption)
                          have hx14 := bt_at a0 x7_3
                          replace p14 := eq_true p14
                          replace q14 := eq_true q14
                          go_wp2
                          go_ret3
                          exact ⟨by first | rfl | (simp; done) | (simp [*]; done), by repeat (first | exact Drawn0.refl _ | apply Drawn0.step)⟩
                        · rw [if_neg c17] at H
                          have c17b0 : decide (a1 < x7_6) = false := decide_eq_false c17
                          clear c17
                          simp only [Option.some.injEq, Prod.mk.injEq] at H
                          obtain ⟨rfl, rfl, rfl⟩ := H
                          have p12 : 0 ≤ (x7_3 : Int) := of_decide_eq_true (by first | (with_reducible assumption) | assumption)
                          have q12 : x7_3 < (a0.size : Int) := of_decide_eq_true (by first | (with_reducible assumption) | assumption)
                          have hx12 := bt_at a0 x7_3
                          replace p12 := eq_true p12
                          replace q12 := eq_true q12
                          have p14 : 0 ≤ (x7_3 : Int) := of_decide_eq_true (by first | (with_reducible assumption) | assumption)
                          have q14 : x7_3 < (a0.size : Int) := of_decide_eq_true (by first | (with_reducible assumption) | assumption)
                          have hx14 := bt_at a0 x7_3
                          replace p14 := eq_true p14
                          replace q14 := eq_true q14
                          go_wp2
                          go_ret3
                          exact ⟨by first | rfl | (simp; done) | (simp [*]; done), by repeat (first | exact Drawn0.refl _ | apply Drawn0.step)⟩
                    · rw [if_neg c13] at H
                      have c13b0 : decide (48 ≤ (bt a0 x7_3)) = false := decide_eq_false c13
                      clear c13
                      by_cases c18 : x7_6 > a1
                      · rw [if_pos c18] at H
                        have c18b0 : decide (a1 < x7_6) = true := decide_eq_true c18
                        clear c18
                        simp only [Option.some.injEq, Prod.mk.injEq] at H
                        obtain ⟨rfl, rfl, rfl⟩ := H
                        have p12 : 0 ≤ (x7_3 : Int) := of_decide_eq_true (by first | (with_reducible assumption) | assumption)
                        have q12 : x7_3 < (a0.size : Int) := of_decide_eq_true (by first | (with_reducible assumption) | assumption)
                        have hx12 := bt_at a0 x7_3
                        replace p12 := eq_true p12
                        replace q12 := eq_true q12
                        go_wp2
                        go_ret3
                        exact ⟨by first | rfl | (simp; done) | (simp [*]; done), by repeat (first | exact Drawn0.refl _ | apply Drawn0.step)⟩
                      · rw [if_neg c18] at H
                        have c18b0 : decide (a1 < x7_6) = false := decide_eq_false c18
                        clear c18
                        simp only [Option.some.injEq, Prod.mk.injEq] at H
                        obtain ⟨rfl, rfl, rfl⟩ := H
                        have p12 : 0 ≤ (x7_3 : Int) := of_decide_eq_true (by first | (with_reducible assumption) | assumption)
                        have q12 : x7_3 < (a0.size : Int) := of_decide_eq_true (by first | (with_reducible assumption) | assumption)
                        have hx12 := bt_at a0 x7_3
                        replace p12 := eq_true p12
                        replace q12 := eq_true q12
                        go_wp2
                        go_ret3
                        exact ⟨by first | rfl | (simp; done) | (simp [*]; done), by repeat (first | exact Drawn0.refl _ | apply Drawn0.step)⟩
                  · rw [if_neg c11] at H
                    exact absurd H (by simp)
                · rw [if_neg c10] at H
                  have c10b0 : decide ((wrap64 (x7_3 - x7_6)) < 9) = false := decide_eq_false c10
                  clear c10
                  by_cases c19 : x7_6 > a1
                  · rw [if_pos c19] at H
                    have c19b0 : decide (a1 < x7_6) = true := decide_eq_true c19
                    clear c19
                    simp only [Option.some.injEq, Prod.mk.injEq] at H
                    obtain ⟨rfl, rfl, rfl⟩ := H
                    go_wp2
                    go_ret3
                    exact ⟨by first | rfl | (simp; done) | (simp [*]; done), by repeat (first | exact Drawn0.refl _ | apply Drawn0.step)⟩
                  · rw [if_neg c19] at H
                    have c19b0 : decide (a1 < x7_6) = false := decide_eq_false c19
                    clear c19
                    simp only [Option.some.injEq, Prod.mk.injEq] at H
                    obtain ⟨rfl, rfl, rfl⟩ := H
                    go_wp2
                    go_ret3
                    exact ⟨by first | rfl | (simp; done) | (simp [*]; done), by repeat (first | exact Drawn0.refl _ | apply Drawn0.step)⟩
              · rw [if_neg c9] at H
                have c9b0 : decide (x7_3 < (a0.size : Int)) = false := decide_eq_false c9
                clear c9
                by_cases c20 : x7_6 > a1
                · rw [if_pos c20] at H
                  have c20b0 : decide (a1 < x7_6) = true := decide_eq_true c20
                  clear c20
                  simp only [Option.some.injEq, Prod.mk.injEq] at H
                  obtain ⟨rfl, rfl, rfl⟩ := H
                  go_wp2
                  go_ret3
                  exact ⟨by first | rfl | (simp; done) | (simp [*]; done), by repeat (first | exact Drawn0.refl _ | apply Drawn0.step)⟩
                · rw [if_neg c20] at H
                  have c20b0 : decide (a1 < x7_6) = false := decide_eq_false c20
                  clear c20
                  simp only [Option.some.injEq, Prod.mk.injEq] at H
                  obtain ⟨rfl, rfl, rfl⟩ := H
                  go_wp2
                  go_ret3
                  exact ⟨by first | rfl | (simp; done) | (simp [*]; done), by repeat (first | exact Drawn0.refl _ | apply Drawn0.step)⟩
end Go.Proofs.YtnfdppkbbfdmnaaGreatDoor.PD

namespace Go.Proofs.YtnfdppkbbfdmnaaGreatDoor.PD
open Go.RowKit Go.Proofs.YtnfdppkbbfdmnaaGreatDoorW.PrintWords Go.Proofs.YtnfdppkbbfdmnaaGreatDoorW.PrintLast Go.Proofs.YtnfdppkbbfdmnaaGreatDoorW.PrintMore
set_option linter.unusedVariables false
set_option linter.unusedSimpArgs false
/-! ### a number at a place -/
def digU (b : UInt8) : Prop := 48 ≤ b.toNat ∧ b.toNat ≤ 57
instance (b : UInt8) : Decidable (digU b) := by unfold digU; infer_instance
def numL : Nat → List UInt8 → Nat → Nat × Nat
  | 0, _, n => (n, 0)
  | _ + 1, [], n => (n, 0)
  | d + 1, b :: t, n => if digU b then ((numL d t (10 * n + (b.toNat - 48))).1, (numL d t (10 * n + (b.toNat - 48))).2 + 1) else (n, 0)
def sgn (neg : Bool) (n : Nat) : Int := if neg then -(n : Int) else n
def numS : List UInt8 → Int × Nat × Bool
  | [] => (0, 0, false)
  | c :: t => if c.toNat = 45 then (sgn true (numL 9 t 0).1, (numL 9 t 0).2 + 1, decide (0 < (numL 9 t 0).2)) else (sgn false (numL 9 (c :: t) 0).1, (numL 9 (c :: t) 0).2, decide (0 < (numL 9 (c :: t) 0).2))
theorem numL_len : ∀ (d : Nat) (l : List UInt8) (n : Nat), (numL d l n).2 ≤ l.length
  | 0, _, _ => Nat.zero_le _
  | _ + 1, [], _ => Nat.le_refl _
  | d + 1, b :: t, n => by
    rw [numL]
    split
    · have := numL_len d t (10 * n + (b.toNat - 48))
      rw [List.length_cons]; dsimp only; omega
    · exact Nat.zero_le _
theorem numL_bound : ∀ (d c : Nat) (l : List UInt8) (n : Nat), d + c = 9 → n < 10 ^ c → (numL d l n).1 < 1000000000
  | 0, c, _, n, h, hn => by
    obtain rfl : c = 9 := by omega
    show n < _
    omega
  | d + 1, c, [], n, h, hn => by
    have : 10 ^ c ≤ 10 ^ 8 := Nat.pow_le_pow_right (by decide) (by omega)
    show n < _
    omega
  | d + 1, c, b :: t, n, h, hn => by
    have h8 : 10 ^ c ≤ 10 ^ 8 := Nat.pow_le_pow_right (by decide) (by omega)
    rw [numL]
    split
    · rename_i hb
      unfold digU at hb
      refine numL_bound d (c + 1) t _ (by omega) ?_
      rw [Nat.pow_succ]
      omega
    · show n < _
      omega
theorem numS_len (l : List UInt8) : (numS l).2.1 ≤ l.length := by
  cases l with
  | nil => exact Nat.le_refl _
  | cons c t =>
    rw [numS]
    split
    · have := numL_len 9 t 0
      rw [List.length_cons]; dsimp only; omega
    · exact numL_len 9 (c :: t) 0
theorem sgn_bound (b : Bool) (n : Nat) (h : n < 1000000000) : -1000000000 < sgn b n ∧ sgn b n < 1000000000 := by
  unfold sgn
  split <;> omega
theorem numS_bound (l : List UInt8) : -1000000000 < (numS l).1 ∧ (numS l).1 < 1000000000 := by
  cases l with
  | nil => exact ⟨by decide, by decide⟩
  | cons c t =>
    rw [numS]
    split
    · dsimp only; exact sgn_bound _ _ (numL_bound 9 0 _ 0 rfl (by decide))
    · dsimp only; exact sgn_bound _ _ (numL_bound 9 0 _ 0 rfl (by decide))
theorem numL_digits : ∀ (ds post : List UInt8) (d n : Nat), (∀ c ∈ ds, digU c) → ds.length ≤ d → (∀ c ∈ post.head?, ¬ digU c) → numL d (ds ++ post) n = (ds.foldl (fun n c => 10 * n + (c.toNat - 48)) n, ds.length)
  | [], post, d, n, _, _, hp => by
    rw [List.nil_append]
    cases d with
    | zero => rfl
    | succ d =>
      cases post with
      | nil => rfl
      | cons c t => rw [numL, if_neg (hp c (by simp))]; rfl
  | b :: ds, post, d, n, h, hl, hp => by
    cases d with
    | zero => rw [List.length_cons] at hl; omega
    | succ d =>
      rw [List.cons_append, numL, if_pos (h b (by simp)), numL_digits ds post d _ (fun c hc => h c (by simp [hc])) (by rw [List.length_cons] at hl; omega) hp]
      rfl
theorem numS_itoa (n : Int) (h0 : -1000000 ≤ n) (h1 : n ≤ 1000000) (post : List UInt8) (hp : ∀ c ∈ post.head?, ¬ digU c) : numS (Lib.itoa n ++ post) = (n, (Lib.itoa n).length, true) := by
  have hd : ∀ m, ∀ c ∈ Lib.decDigits m, digU c := fun m c hc => digits_ok m c hc
  have hv : ∀ m, (Lib.decDigits m).foldl (fun n c => 10 * n + (c.toNat - 48)) 0 = m := fun m => (decD_all m).2.2
  have hne : ∀ m, 0 < (Lib.decDigits m).length := fun m => List.length_pos_iff.2 (decD_all m).2.1
  have hl : ∀ m, m < 10000000 → (Lib.decDigits m).length ≤ 7 := fun m hm => decD_len 6 m (by omega)
  unfold Lib.itoa
  split
  · rename_i hn
    rw [List.cons_append, numS, if_pos (by decide), numL_digits _ _ _ _ (hd _) (by have := hl n.natAbs (by omega); omega) hp, hv]
    dsimp only
    rw [decide_eq_true (hne _), List.length_cons]
    unfold sgn
    rw [if_pos rfl]
    congr 1
    omega
  · rename_i hn
    have q := numL_digits (Lib.decDigits n.toNat) post 9 0 (hd _) (by have := hl n.toNat (by omega); omega) hp
    have hh := hd n.toNat
    have hp0 := hne n.toNat
    rcases e : Lib.decDigits n.toNat with _ | ⟨c, t⟩
    · rw [e] at hp0; simp at hp0
    · have e2 := hv n.toNat
      rw [e] at q hh hp0 e2
      have hc := hh c (by simp)
      unfold digU at hc
      rw [List.cons_append] at q ⊢
      rw [numS, if_neg (by omega), q, e2]
      dsimp only
      rw [decide_eq_true hp0]
      unfold sgn
      rw [if_neg (by decide)]
      congr 1
      omega
/-! ### the printed function -/
theorem bt_get (s : ByteArray) (i : Nat) (c : UInt8) (t : List UInt8) (e : s.data.toList.drop i = c :: t) : i < s.size ∧ bt s (i : Int) = (c.toNat : Int) ∧ s.data.toList.drop (i + 1) = t := by
  have hlen : s.data.toList.length = s.size := by simp
  have h : i < s.data.toList.length := by
    have := congrArg List.length e
    rw [List.length_drop, List.length_cons] at this
    omega
  have e2 := List.drop_eq_getElem_cons h
  rw [e2] at e
  injection e with e3 e4
  refine ⟨by omega, ?_, e4⟩
  unfold bt
  rw [dif_pos (by omega)]
  congr 2
theorem num_fin (neg : Bool) (x1 : Int) (fr q n : Nat) (hneg : neg = decide ((fr : Int) > x1)) (hn : n < 1000000000) (hq : fr ≤ q) (b : Bool) (hb : b = decide (fr < q)) :
    (if (fr : Int) > x1 then some (wrap64 (-(n : Int)), ((q : Nat) : Int), decide ((q : Int) > (fr : Int))) else some ((n : Int), ((q : Nat) : Int), decide ((q : Int) > (fr : Int)))) = some (sgn neg n, ((q : Nat) : Int), b) := by
  have hw : wrap64 (-(n : Int)) = -(n : Int) := IntWalk.wrap64_in _ (by omega)
  have hd : decide ((q : Int) > (fr : Int)) = b := by rw [hb]; congr 1; exact propext ⟨fun h => by omega, fun h => by omega⟩
  rw [hw, hd, hneg]
  unfold sgn
  by_cases h : (fr : Int) > x1
  · rw [if_pos h, if_pos (decide_eq_true h)]
  · rw [if_neg h, if_neg (by simpa using h)]
theorem num_l0 (s : ByteArray) (hz : s.size ≤ 65536) (x1 : Int) (fr : Nat) (neg : Bool) (hneg : neg = decide ((fr : Int) > x1)) : ∀ (d c n : Nat), d + c = 9 → fr + c ≤ s.size → n < 10 ^ c →
    ∃ k, jigsawref02_number.l0 k s x1 ((fr + c : Nat) : Int) (fr : Int) (n : Int) = some (sgn neg (numL d (s.data.toList.drop (fr + c)) n).1, ((fr + c + (numL d (s.data.toList.drop (fr + c)) n).2 : Nat) : Int), decide (0 < c + (numL d (s.data.toList.drop (fr + c)) n).2))
  | 0, c, n, hd, hc, hn => by
    have hb := numL_bound 0 c (s.data.toList.drop (fr + c)) n hd hn
    have hw : wrap64 (((fr + c : Nat) : Int) - (fr : Int)) = (c : Int) := by rw [IntWalk.wrap64_in _ (by omega)]; omega
    refine ⟨1, ?_⟩
    simp only [jigsawref02_number.l0]
    rw [hw, if_neg (by omega : ¬ ((c : Int) < 9)), ite_self]
    exact num_fin neg x1 fr (fr + c) n hneg hb (by omega) _ (by congr 1; exact propext ⟨fun h => by simp only [numL] at h; omega, fun h => by simp only [numL]; omega⟩)
  | d + 1, c, n, hd, hc, hn => by
    have hb := numL_bound (d + 1) c (s.data.toList.drop (fr + c)) n hd hn
    have h8 : 10 ^ c ≤ 10 ^ 8 := Nat.pow_le_pow_right (by decide) (by omega)
    have hw : wrap64 (((fr + c : Nat) : Int) - (fr : Int)) = (c : Int) := by rw [IntWalk.wrap64_in _ (by omega)]; omega
    have hsl : s.data.toList.length = s.size := by simp
    rcases e : s.data.toList.drop (fr + c) with _ | ⟨b, t⟩
    · have hz2 : fr + c = s.size := by
        have := congrArg List.length e
        rw [List.length_drop, List.length_nil] at this
        omega
      rw [e] at hb
      refine ⟨1, ?_⟩
      simp only [jigsawref02_number.l0]
      rw [if_neg (by omega)]
      exact num_fin neg x1 fr (fr + c) n hneg hb (by omega) _ (by congr 1; exact propext ⟨fun h => by simp only [numL] at h; omega, fun h => by simp only [numL]; omega⟩)
    · obtain ⟨q1, q2, q3⟩ := bt_get s (fr + c) b t e
      rw [numL]
      by_cases hdg : digU b
      · rw [if_pos hdg]
        unfold digU at hdg
        obtain ⟨k, hk⟩ := num_l0 s hz x1 fr neg hneg d (c + 1) (10 * n + (b.toNat - 48)) (by omega) (by omega) (by rw [Nat.pow_succ]; omega)
        rw [show fr + (c + 1) = fr + c + 1 by omega, q3] at hk
        refine ⟨k + 1, ?_⟩
        have g1 : ((fr + c : Nat) : Int) < (s.size : Int) := by omega
        have g2 : (c : Int) < 9 := by omega
        have g3 : 0 ≤ ((fr + c : Nat) : Int) := by omega
        have g4 : (b.toNat : Int) ≥ 48 := by omega
        have g5 : (b.toNat : Int) ≤ 57 := by omega
        have hw2 : wrap64 (((fr + c : Nat) : Int) + 1) = ((fr + c + 1 : Nat) : Int) := by rw [IntWalk.wrap64_in _ (by omega)]; omega
        have hw3 : wrap64 (10 * (n : Int)) = 10 * (n : Int) := IntWalk.wrap64_in _ (by omega)
        have hw4 : wrap64 (10 * (n : Int) + ((b.toNat : Int) - 48) % 256) = ((10 * n + (b.toNat - 48) : Nat) : Int) := by rw [IntWalk.wrap64_in _ (by omega)]; omega
        simp only [jigsawref02_number.l0]
        rw [if_pos g1, hw, if_pos g2, if_pos g3, q2, if_pos g4, if_pos g5, hw2, hw3, hw4, hk]
        clear hw2 hw3 hw4 hw
        rw [show fr + c + 1 + (numL d t (10 * n + (b.toNat - 48))).2 = fr + c + ((numL d t (10 * n + (b.toNat - 48))).2 + 1) by omega, show c + 1 + (numL d t (10 * n + (b.toNat - 48))).2 = c + ((numL d t (10 * n + (b.toNat - 48))).2 + 1) by omega]
      · rw [if_neg hdg]
        unfold digU at hdg
        refine ⟨1, ?_⟩
        have hn9 : n < 1000000000 := by omega
        have fin := num_fin neg x1 fr (fr + c) n hneg hn9 (by omega) (decide (0 < c + 0)) (by congr 1; exact propext ⟨fun h => by omega, fun h => by omega⟩)
        simp only [jigsawref02_number.l0]
        rw [if_pos (by omega), hw, if_pos (by omega), if_pos (by omega), q2]
        by_cases hb48 : (b.toNat : Int) ≥ 48
        · rw [if_pos hb48, if_neg (by omega)]
          exact fin
        · rw [if_neg hb48]
          exact fin
theorem number_f (s : ByteArray) (hz : s.size ≤ 65536) (a : Nat) (ha : a ≤ s.size) : ∃ k, jigsawref02_number.f k s (a : Int) = some ((numS (s.data.toList.drop a)).1, ((a + (numS (s.data.toList.drop a)).2.1 : Nat) : Int), (numS (s.data.toList.drop a)).2.2) := by
  have hsl : s.data.toList.length = s.size := by simp
  rcases e : s.data.toList.drop a with _ | ⟨b, t⟩
  · have hz2 : a = s.size := by
      have := congrArg List.length e
      rw [List.length_drop, List.length_nil] at this
      omega
    obtain ⟨k, hk⟩ := num_l0 s hz (a : Int) a false (by simp) 9 0 0 rfl (by omega) (by decide)
    rw [Nat.add_zero, e] at hk
    refine ⟨k + 2, ?_⟩
    unfold jigsawref02_number.f
    rw [if_neg (by omega)]
    simp only [jigsawref02_number.j0, jigsawref02_number.j1]
    rw [if_neg (by decide)]
    exact hk
  · obtain ⟨q1, q2, q3⟩ := bt_get s a b t e
    by_cases hm : b.toNat = 45
    · obtain ⟨k, hk⟩ := num_l0 s hz (a : Int) (a + 1) true (by simp; omega) 9 0 0 rfl (by omega) (by decide)
      rw [Nat.add_zero, q3, Nat.zero_add] at hk
      refine ⟨k + 2, ?_⟩
      have hw2 : wrap64 ((a : Int) + 1) = ((a + 1 : Nat) : Int) := by rw [IntWalk.wrap64_in _ (by omega)]; omega
      unfold jigsawref02_number.f
      rw [if_pos (by omega), if_pos (by omega), q2]
      simp only [jigsawref02_number.j0, jigsawref02_number.j1]
      rw [if_pos (by rw [hm]; rfl), hw2, numS, if_pos hm]
      refine hk.trans ?_
      dsimp only
      rw [show a + 1 + (numL 9 t 0).2 = a + ((numL 9 t 0).2 + 1) by omega]
    · obtain ⟨k, hk⟩ := num_l0 s hz (a : Int) a false (by simp) 9 0 0 rfl (by omega) (by decide)
      rw [Nat.add_zero, e, Nat.zero_add] at hk
      refine ⟨k + 2, ?_⟩
      unfold jigsawref02_number.f
      rw [if_pos (by omega), if_pos (by omega), q2]
      simp only [jigsawref02_number.j0, jigsawref02_number.j1]
      rw [if_neg (by rw [beq_iff_eq]; omega), numS, if_neg hm]
      exact hk
theorem number_ref (s : ByteArray) (hz : s.size ≤ 65536) (a : Nat) (ha : a ≤ s.size) (w : World) :
    Calls Tryz.prog 69 #[.string s, .int .i64 a] w fun e w' => e = .returned (.tuple #[.int .i64 (numS (s.data.toList.drop a)).1, .int .i64 ((a + (numS (s.data.toList.drop a)).2.1 : Nat) : Int), .bool (numS (s.data.toList.drop a)).2.2]) ∧ Below w.heap.size w w' := by
  obtain ⟨k, hk⟩ := number_f s hz a ha
  exact (jigsawref02_number.calls k s a _ _ _ w hk).mono fun e w' ⟨he, hd⟩ => ⟨he, hd.below⟩

end Go.Proofs.YtnfdppkbbfdmnaaGreatDoor.PD

namespace Go.Proofs.YtnfdppkbbfdmnaaGreatDoor.PD
open Go.RowKit Go.Proofs.YtnfdppkbbfdmnaaGreatDoorW.PrintWords Go.Proofs.YtnfdppkbbfdmnaaGreatDoorW.PrintLast Go.Proofs.YtnfdppkbbfdmnaaGreatDoorW.PrintMore
set_option linter.unusedVariables false
set_option linter.unusedSimpArgs false
/-! ### Split and Cut -/
/-- two texts held against each other, as the walk spells it -/
theorem str_eqB (a b : ByteArray) : (a.toList == b.toList) = decide (a = b) := by
  rw [Bool.eq_iff_iff, beq_iff_eq, decide_eq_true_iff, ByteArray.toList_eq, ByteArray.toList_eq]
  constructor
  · intro h
    cases a; cases b
    congr 1
    exact Array.toList_inj.1 h
  · rintro rfl
    rfl
theorem str_neL {a : ByteArray} {l : List UInt8} (h : a ≠ ⟨l.toArray⟩) : (a.toList == l) = false := by
  have := str_eqB a ⟨l.toArray⟩
  rw [decide_eq_false h, ByteArray.toList_eq ⟨l.toArray⟩] at this
  exact this
theorem split_size (sep : ByteArray) : ∀ (k : Nat) (s : ByteArray), ∀ x ∈ Lib.splitB sep 0 k s, x.size ≤ s.size
  | 0, s, x, h => by
    rw [Lib.splitB_zero, List.mem_singleton] at h
    subst h
    exact Nat.le_refl _
  | k + 1, s, x, h => by
    unfold Lib.splitB at h
    split at h
    · rw [List.mem_singleton] at h
      subst h
      exact Nat.le_refl _
    · rw [List.mem_cons] at h
      rcases h with rfl | h
      · rw [ByteArray.size_extract]; omega
      · have := split_size sep k _ x h
        rw [ByteArray.size_extract] at this
        omega
theorem parts_count (s : ByteArray) : (partsOf s).length = Lib.countB s ⟨#[44]⟩ + 1 := Lib.splitB_all ⟨#[44]⟩ (by decide) 0 _ s rfl
theorem split_calls (s : ByteArray) (hz : s.size ≤ 65536) (w : World) (hl : DomLaid w) :
    Calls Tryz.prog 66 #[.string s, .string ⟨#[44]⟩] w fun e w' => e = .returned (.slice (some ⟨w.heap.size, 0, none⟩) (partsOf s).length (partsOf s).length) ∧ (∀ k (h : k < (partsOf s).length), w'.cell? ⟨w.heap.size, k, none⟩ = some (.string (partsOf s)[k])) ∧ w.heap.size < w'.heap.size ∧ Below w.heap.size w w' := by
  obtain ⟨m, hm⟩ := hl.mx
  refine (Tryz.strings_Split s ⟨#[44]⟩ m w (by omega) hm (by decide)).mono ?_
  rintro e w' ⟨rfl, rfl⟩
  refine ⟨by rw [parts_count], fun k h => ?_, by simp, (Below.refl _ _).alloc (Nat.le_refl _) _⟩
  refine (blk_cell (World.alloc_heap_new _ _) k).trans ?_
  show ((List.map Value.string (partsOf s)).toArray)[k]? = _
  rw [List.getElem?_toArray, List.getElem?_map, List.getElem?_eq_getElem h]
  rfl
theorem cutd_calls (x : ByteArray) (hz : x.size ≤ 65536) (w : World) (hl : DomLaid w) :
    Calls Tryz.prog 67 #[.string x, .string ⟨#[46, 46]⟩] w fun e w' => e = .returned (.tuple #[.string ⟨(Lib.cut x.data.toList [46, 46]).1.toArray⟩, .string ⟨(Lib.cut x.data.toList [46, 46]).2.1.toArray⟩, .bool (Lib.cut x.data.toList [46, 46]).2.2]) ∧ Below w.heap.size w w' := by
  obtain ⟨m, hm⟩ := hl.mx
  refine (Tryz.strings_Cut x ⟨#[46, 46]⟩ m w (by omega) hm).mono ?_
  rintro e w' ⟨rfl, k, rfl⟩
  exact ⟨rfl, Drawn0.below ⟨⟨k, rfl⟩⟩⟩
theorem cut_len (l sep : List UInt8) : (Lib.cut l sep).1.length ≤ l.length ∧ (Lib.cut l sep).2.1.length ≤ l.length := by
  unfold Lib.cut
  split
  · exact ⟨by rw [List.length_take]; omega, by rw [List.length_drop]; omega⟩
  · exact ⟨Nat.le_refl _, Nat.zero_le _⟩
theorem parse_bad {s : ByteArray} (hz : s.size ≤ 65536) (hne : s ≠ ⟨#[123, 125]⟩) (h : ∀ l, rightS l = true → 0 < l.length → textT l = s → False) : parseS s = ([], 20) := by
  unfold parseS
  rw [if_neg (by omega), if_neg hne]
  cases parseAll (partsOf s) [] with
  | none => rfl
  | some l =>
    unfold parseO
    dsimp only
    rw [if_neg]
    rintro ⟨h1, h2⟩
    cases l with
    | nil => exact hne h2.symm
    | cons r t => exact h _ h1 (by simp) h2
set_option maxRecDepth 100000 in
set_option maxHeartbeats 8000000 in
theorem Parse_calls (s : ByteArray) (hz : s.size ≤ 140737488351232) (w : World) (hd : DomLaid w) :
    Calls Tryz.prog 24 #[.string s] w fun e w' => ∃ v', e = .returned (.tuple #[v', .int .i64 (parseS s).2]) ∧ Row w' w.heap.size v' (parseS s).1 ∧ Below w.heap.size w w' := by
  by_cases hbig : 65536 < s.size
  · have hp : parseS s = ([], 3) := by unfold parseS; rw [if_pos hbig]
    rw [hp]
    clear hp hd
    go_enter Tryz.func24, Tryz.ntmps24
    go_wp2_with fail
    go_ret2
    exact ⟨_, rfl, Row.nil _ _, Below.refl _ _⟩
  by_cases hbr : s = ⟨#[123, 125]⟩
  · have hp : parseS s = ([], 0) := by unfold parseS; rw [if_neg hbig, if_pos hbr]
    rw [hp]
    clear hp hd
    subst hbr
    go_enter Tryz.func24, Tryz.ntmps24
    go_wp2_with fail
    go_ret2
    exact ⟨_, rfl, Row.nil _ _, Below.refl _ _⟩
  have hp : parseS s = parseO s (parseAll (partsOf s) []) := by unfold parseS; rw [if_neg hbig, if_neg hbr]
  rw [hp]
  have hne : (s.toList == [123, 125]) = false := str_neL hbr
  have hz2 : s.size ≤ 65536 := by omega
  obtain ⟨i0, hi0, hz0, hz1, hzz2⟩ := info_parts info57
  have HSP := Lib.hid (split_calls s hz2 w hd)
  have HSZ := Lib.hid (split_size ⟨#[44]⟩ (Lib.countB s ⟨#[44]⟩) s)
  have HPL := Lib.hid (parts_count s)
  have hcl := Lib.countB_le ⟨#[44]⟩ (by decide) s.size s (Nat.le_refl _)
  have HD := Lib.hid hd
  change Hid (∀ x ∈ partsOf s, x.size ≤ s.size) at HSZ
  obtain ⟨xs, hxs⟩ : ∃ xs, partsOf s = xs := ⟨_, rfl⟩
  rw [hxs] at HSP HSZ HPL ⊢
  obtain ⟨n, hn⟩ : ∃ n, xs.length = n := ⟨_, rfl⟩
  have hnb : n ≤ 65537 := by have := HPL.out; rw [hn] at this; omega
  have HN := Lib.hid hn
  clear hxs hn hd hp HPL hcl
  obtain ⟨res, hres⟩ : ∃ res, parseO s (parseAll xs []) = res := ⟨_, rfl⟩
  rw [hres]
  have HRES := Lib.hid hres
  clear hres
  go_enter Tryz.func24, Tryz.ntmps24
  go_wp2_with fail
  refine HSP.out.mono ?_
  rintro e w1 ⟨rfl, hcells, hlt, hb1⟩
  rw [HN.out]
  have HCE := Lib.hid hcells; have HB1 := Lib.hid hb1
  have HD1 := Lib.hid (HD.out.below hb1)
  obtain ⟨g, hg⟩ : ∃ g, w.heap.size = g := ⟨_, rfl⟩
  rw [hg] at hlt HCE
  simp only [hg]
  have HG := Lib.hid hg
  clear hcells hb1 hg
  go_wp2_with fail
  go_loopw [4, 24] (fun o i wr => ∃ (k : Nat) (acc : List S57), i = .int .i64 k ∧ k ≤ n ∧ acc.length ≤ k ∧ Hid (parseAll xs [] = parseAll (xs.drop k) acc) ∧ Hid (Row wr w1.heap.size o acc) ∧ Hid (Below w1.heap.size w1 wr))
    (fun _ i _ => n - (intOf i).toNat)
  case atStart => exact ⟨0, [], rfl, Nat.zero_le _, Nat.zero_le _, Lib.hid rfl, Lib.hid (Row.nil _ _), Lib.hid (Below.refl _ _)⟩
  case round =>
    obtain ⟨k, acc, rfl, hk, hal, hP, hO, hB⟩ := hrel
    obtain ⟨A0, c0, rfl⟩ := row_form hO.out
    have hgz := hB.out.size
    by_cases hkn : k < n
    · have hkx : k < xs.length := by rw [HN.out]; exact hkn
      have hx0 := (hB.out.cell (p := ⟨g, k, none⟩) hlt).trans (HCE.out k hkx)
      have hxz := HSZ.out _ (List.getElem_mem hkx)
      have hstep := parseAll_drop hkx acc
      have HDW := Lib.hid (HD1.out.below hB.out)
      generalize xs[k] = x at *
      have HST := Lib.hid (hP.out.trans hstep)
      have hix := fun W => indexT_at g n n (k : Nat) (by omega) W
      simp only [Int.toNat_natCast] at hix
      have HC := Lib.hid (fun W hd => cutd_calls x (by omega) W hd)
      obtain ⟨hl1, hl2⟩ := cut_len x.data.toList [46, 46]
      have hxd : x.data.toList.length = x.size := by simp
      obtain ⟨⟨p1, p2, two⟩, hcut⟩ : ∃ q, Lib.cut x.data.toList [46, 46] = q := ⟨_, rfl⟩
      have htw : twoB x.data.toList = if two = true then p2 else p1 := by unfold twoB; rw [hcut]
      rw [hcut] at hl1 hl2 HC
      dsimp only at hl1 hl2 HC
      have KA := Lib.hid (fun W hd => pint_calls ⟨p1.toArray⟩ (by show p1.toArray.size ≤ _; rw [List.size_toArray]; omega) W hd)
      have KB := Lib.hid (fun W hd => pint_calls ⟨p2.toArray⟩ (by show p2.toArray.size ≤ _; rw [List.size_toArray]; omega) W hd)
      change Hid (∀ W (hd : DomLaid W), Calls Tryz.prog 68 #[.string ⟨p1.toArray⟩, .int .i64 10, .int .i64 64] W fun e w' => PInt p1 e ∧ Below W.heap.size W w') at KA
      change Hid (∀ W (hd : DomLaid W), Calls Tryz.prog 68 #[.string ⟨p2.toArray⟩, .int .i64 10, .int .i64 64] W fun e w' => PInt p2 e ∧ Below W.heap.size W w') at KB
      have HCUT := Lib.hid hcut; have HTW := Lib.hid htw
      clear hcut htw hl1 hl2 hxd hstep
      cases two with
      | false =>
        clear KB
        have HK2 := KA
        have HTW2 : Hid (twoB x.data.toList = p1) := HTW
        go_wp2_with fail
        refine (HC.out _ HDW.out).mono ?_
        rintro e w2 ⟨rfl, hb2⟩
        have HB2 := Lib.hid (below_step hB.out hb2); have HDW2 := Lib.hid (HDW.out.below hb2)
        have HO2 := Lib.hid (hO.out.below hb2)
        clear hb2
        go_wp2_with fail
        refine (KA.out _ HDW2.out).mono ?_
        rintro e w3 ⟨hP3, hb3⟩
        have HB3 := Lib.hid (below_step HB2.out hb3); have HDW3 := Lib.hid (HDW2.out.below hb3)
        have HO3 := Lib.hid (HO2.out.below hb3)
        clear hb3
        rcases hP3 with ⟨a, hpa, rfl⟩ | ⟨hpa, n1, a1, rfl⟩
        · have HPA := Lib.hid hpa
          clear hpa
          go_wp2_with fail
          refine (HK2.out _ HDW3.out).mono ?_
          rintro e w4 ⟨hP4, hb4⟩
          have HB4 := Lib.hid (below_step HB3.out hb4)
          have HO4 := Lib.hid (HO3.out.below hb4)
          clear hb4
          rcases hP4 with ⟨b, hpb, rfl⟩ | ⟨hpb, n2, a2, rfl⟩
          · have hgood := parsePart_good (x := x.data.toList) (lo := a) (hi := b) (by rw [HCUT.out]; exact HPA.out) (by rw [HTW2.out]; exact hpb)
            have HST2 : Hid (parseAll xs [] = parseAll (xs.drop (k + 1)) (acc ++ [⟨a, b⟩])) := by have := HST.out; rw [hgood] at this; exact this
            have hgz4 := HB4.out.size
            clear hgood hpb HST
            go_wp2_with ((with_reducible refine gate_dst (N := 58) rfl ?_); refine wpList_append_own _ rfl _ _ 23 rfl w1.heap.size 57 i0 _ 2 16 Tryz.underlying23 hi0 hz0 hz1 hzz2 rfl (by decide) _ _ _ rfl ((Row.own HO4.out).alloc _) ⟨_, 0, none⟩ 1 1 [.int .i64 a, .int .i64 b] rfl rfl (cell_pair_at _ _ (by simp) _ _ _) (by simp [Value.oneCell']) (by simp only [maxLen]; omega) (by omega) (by first | omega | (simp; omega)) ?_; intro v' w6 hown' hgrow _; obtain ⟨q1, q2⟩ := HO4.out.pushed hown' hgrow (by first | omega | (simp; omega)); have hQ1 := Lib.hid q1; have hQ2 := Lib.hid (HB4.out.trans q2); clear hown' hgrow q1 q2)
            refine ⟨⟨k + 1, acc ++ [⟨a, b⟩], by rw [Int.natCast_add]; rfl, by omega, by rw [List.length_append, List.length_singleton]; omega, HST2, hQ1, hQ2⟩, by simp [intOf]; omega⟩
          · have hbad := parsePart_bad (x := x.data.toList) (.inr (by rw [HTW2.out]; exact hpb))
            have hres : res = ([], 20) := by rw [← HRES.out, HST.out, hbad]; rfl
            have HRS := Lib.hid hres
            clear hres hbad hpb
            go_wp2_with fail
            go_ret2
            rw [HRS.out]
            exact ⟨_, rfl, Row.nil _ _, HG.out ▸ below_step HB1.out HB4.out⟩
        · have hbad := parsePart_bad (x := x.data.toList) (.inl (by rw [HCUT.out]; exact hpa))
          have hres : res = ([], 20) := by rw [← HRES.out, HST.out, hbad]; rfl
          have HRS := Lib.hid hres
          clear hres hbad hpa
          go_wp2_with fail
          refine (HK2.out _ HDW3.out).mono ?_
          rintro e w4 ⟨hP4, hb4⟩
          have HB4 := Lib.hid (below_step HB3.out hb4)
          clear hb4
          rcases hP4 with ⟨b, hpb, rfl⟩ | ⟨hpb, n2, a2, rfl⟩
          all_goals
            clear hpb
            go_wp2_with fail
            go_ret2
            rw [HRS.out]
            exact ⟨_, rfl, Row.nil _ _, HG.out ▸ below_step HB1.out HB4.out⟩
      | true =>
        have HK2 := KB
        have HTW2 : Hid (twoB x.data.toList = p2) := HTW
        go_wp2_with fail
        refine (HC.out _ HDW.out).mono ?_
        rintro e w2 ⟨rfl, hb2⟩
        have HB2 := Lib.hid (below_step hB.out hb2); have HDW2 := Lib.hid (HDW.out.below hb2)
        have HO2 := Lib.hid (hO.out.below hb2)
        clear hb2
        go_wp2_with fail
        refine (KA.out _ HDW2.out).mono ?_
        rintro e w3 ⟨hP3, hb3⟩
        have HB3 := Lib.hid (below_step HB2.out hb3); have HDW3 := Lib.hid (HDW2.out.below hb3)
        have HO3 := Lib.hid (HO2.out.below hb3)
        clear hb3
        rcases hP3 with ⟨a, hpa, rfl⟩ | ⟨hpa, n1, a1, rfl⟩
        · have HPA := Lib.hid hpa
          clear hpa
          go_wp2_with fail
          refine (HK2.out _ HDW3.out).mono ?_
          rintro e w4 ⟨hP4, hb4⟩
          have HB4 := Lib.hid (below_step HB3.out hb4)
          have HO4 := Lib.hid (HO3.out.below hb4)
          clear hb4
          rcases hP4 with ⟨b, hpb, rfl⟩ | ⟨hpb, n2, a2, rfl⟩
          · have hgood := parsePart_good (x := x.data.toList) (lo := a) (hi := b) (by rw [HCUT.out]; exact HPA.out) (by rw [HTW2.out]; exact hpb)
            have HST2 : Hid (parseAll xs [] = parseAll (xs.drop (k + 1)) (acc ++ [⟨a, b⟩])) := by have := HST.out; rw [hgood] at this; exact this
            have hgz4 := HB4.out.size
            clear hgood hpb HST
            go_wp2_with ((with_reducible refine gate_dst (N := 58) rfl ?_); refine wpList_append_own _ rfl _ _ 23 rfl w1.heap.size 57 i0 _ 2 16 Tryz.underlying23 hi0 hz0 hz1 hzz2 rfl (by decide) _ _ _ rfl ((Row.own HO4.out).alloc _) ⟨_, 0, none⟩ 1 1 [.int .i64 a, .int .i64 b] rfl rfl (cell_pair_at _ _ (by simp) _ _ _) (by simp [Value.oneCell']) (by simp only [maxLen]; omega) (by omega) (by first | omega | (simp; omega)) ?_; intro v' w6 hown' hgrow _; obtain ⟨q1, q2⟩ := HO4.out.pushed hown' hgrow (by first | omega | (simp; omega)); have hQ1 := Lib.hid q1; have hQ2 := Lib.hid (HB4.out.trans q2); clear hown' hgrow q1 q2)
            refine ⟨⟨k + 1, acc ++ [⟨a, b⟩], by rw [Int.natCast_add]; rfl, by omega, by rw [List.length_append, List.length_singleton]; omega, HST2, hQ1, hQ2⟩, by simp [intOf]; omega⟩
          · have hbad := parsePart_bad (x := x.data.toList) (.inr (by rw [HTW2.out]; exact hpb))
            have hres : res = ([], 20) := by rw [← HRES.out, HST.out, hbad]; rfl
            have HRS := Lib.hid hres
            clear hres hbad hpb
            go_wp2_with fail
            go_ret2
            rw [HRS.out]
            exact ⟨_, rfl, Row.nil _ _, HG.out ▸ below_step HB1.out HB4.out⟩
        · have hbad := parsePart_bad (x := x.data.toList) (.inl (by rw [HCUT.out]; exact hpa))
          have hres : res = ([], 20) := by rw [← HRES.out, HST.out, hbad]; rfl
          have HRS := Lib.hid hres
          clear hres hbad hpa
          go_wp2_with fail
          refine (HK2.out _ HDW3.out).mono ?_
          rintro e w4 ⟨hP4, hb4⟩
          have HB4 := Lib.hid (below_step HB3.out hb4)
          clear hb4
          rcases hP4 with ⟨b, hpb, rfl⟩ | ⟨hpb, n2, a2, rfl⟩
          all_goals
            clear hpb
            go_wp2_with fail
            go_ret2
            rw [HRS.out]
            exact ⟨_, rfl, Row.nil _ _, HG.out ▸ below_step HB1.out HB4.out⟩
    · obtain rfl : k = n := by omega
      have hdr : xs.drop k = [] := List.drop_eq_nil_iff.2 (by rw [HN.out]; exact Nat.le_refl _)
      have hpa : parseO s (some acc) = res := by
        rw [← HRES.out, hP.out, hdr]
        rfl
      have HPA := Lib.hid hpa
      have HDW := Lib.hid (HD1.out.below hB.out)
      have HR := Lib.hid (right_calls (v := .slice A0 acc.length c0) acc wr hO.out.lst)
      have HB2 := Lib.hid (below_step HB1.out hB.out)
      have hle := hB.out.size
      clear hpa hdr
      cases hR : rightS acc with
      | false =>
        rw [hR] at HR
        go_wp2_with fail
        refine HR.out.mono ?_
        rintro e w3 ⟨rfl, hb3⟩
        go_wp2_with fail
        go_ret2
        have : res = ([], 20) := by rw [← HPA.out]; unfold parseO; dsimp only; rw [if_neg (by rw [hR]; simp)]
        rw [this, HG.out]
        exact ⟨_, rfl, Row.nil _ _, HG.out ▸ below_step HB2.out hb3⟩
      | true =>
        rw [hR] at HR
        go_wp2_with fail
        refine HR.out.mono ?_
        rintro e w3 ⟨rfl, hb3⟩
        have HT := Lib.hid (Text_calls (v := .slice A0 acc.length c0) acc w3 (hO.out.lst.below hb3) (HDW.out.below hb3))
        rw [takenL_of hR] at HT
        have HB3 := Lib.hid (below_step HB2.out hb3)
        have HO3 := Lib.hid (hO.out.below hb3)
        clear hb3
        by_cases hT : textT acc = s
        · have hres : res = (acc, 0) := by rw [← HPA.out]; unfold parseO; dsimp only; rw [if_pos ⟨hR, hT⟩]
          have HRS := Lib.hid hres
          rw [hT] at HT
          clear hres hT
          go_wp2_with fail
          refine HT.out.mono ?_
          rintro e w4 ⟨rfl, hb4⟩
          go_wp2_with fail
          go_ret2
          rw [HRS.out]
          exact ⟨_, rfl, (HO3.out.below hb4).lower (by have := HB1.out.size; omega), HG.out ▸ below_step HB3.out hb4⟩
        · have hres : res = ([], 20) := by rw [← HPA.out]; unfold parseO; dsimp only; rw [if_neg (by rintro ⟨_, h⟩; exact hT h)]
          have HRS := Lib.hid hres
          have hT' : ((textT acc).toList == s.toList) = false := by rw [str_eqB, decide_eq_false hT]
          clear hres
          generalize textT acc = T at *
          go_wp2_with fail
          refine HT.out.mono ?_
          rintro e w4 ⟨rfl, hb4⟩
          go_wp2_with fail
          go_ret2
          rw [HRS.out]
          exact ⟨_, rfl, Row.nil _ _, HG.out ▸ below_step HB3.out hb4⟩

end Go.Proofs.YtnfdppkbbfdmnaaGreatDoor.PD

namespace Go.Proofs.YtnfdppkbbfdmnaaGreatDoor.PD
open Go.RowKit Go.Proofs.YtnfdppkbbfdmnaaGreatDoorW.PrintWords Go.Proofs.YtnfdppkbbfdmnaaGreatDoorW.PrintLast Go.Proofs.YtnfdppkbbfdmnaaGreatDoorW.PrintMore
set_option linter.unusedVariables false
set_option linter.unusedSimpArgs false
/-! ### ranges read off a text, one by one -/
def dots : List UInt8 → Bool
  | a :: b :: _ => a == 46 && b == 46
  | _ => false
theorem extract_two (s : ByteArray) (n : Nat) : (s.extract n (n + 2)).data.toList = (s.data.toList.drop n).take 2 := by
  rw [Lib.extract_data, show n + 2 - n = 2 by omega]
theorem dots_at (s : ByteArray) (n : Nat) (hn : n ≤ s.size) : (dots (s.data.toList.drop n) = true → n + 1 < s.size ∧ s.extract n (n + 2) = ⟨#[46, 46]⟩) ∧ (dots (s.data.toList.drop n) = false → s.size ≤ n + 1 ∨ ((s.extract n (n + 2)).toList == [46, 46]) = false) := by
  have hsl : (s.data.toList.drop n).length = s.size - n := by rw [List.length_drop]; simp
  have e := extract_two s n
  rcases h : s.data.toList.drop n with _ | ⟨a, _ | ⟨b, t⟩⟩
  · rw [h] at hsl
    exact ⟨fun q => (by cases q), fun _ => .inl (by rw [List.length_nil] at hsl; omega)⟩
  · rw [h] at hsl
    exact ⟨fun q => (by cases q), fun _ => .inl (by rw [List.length_cons, List.length_nil] at hsl; omega)⟩
  · rw [h] at hsl e
    rw [List.length_cons, List.length_cons] at hsl
    have e' : (s.extract n (n + 2)).data.toList = [a, b] := e
    refine ⟨fun q => ⟨by omega, ?_⟩, fun q => .inr ?_⟩
    · unfold dots at q
      rw [Bool.and_eq_true, beq_iff_eq, beq_iff_eq] at q
      obtain ⟨rfl, rfl⟩ := q
      have : (s.extract n (n + 2)).data = #[46, 46] := Array.toList_inj.1 e'
      cases hx : s.extract n (n + 2) with
      | mk d => rw [hx] at this; congr
    · refine str_neL fun q2 => ?_
      rw [q2] at e'
      have e3 : ([46, 46] : List UInt8) = [a, b] := e'
      injection e3 with e4 e5
      injection e5 with e6
      rw [← e4, ← e6] at q
      have q3 : ((46 : UInt8) == 46 && (46 : UInt8) == 46) = false := q
      exact absurd q3 (by decide)
def postT (t : List S57) : List UInt8 := Lib.joinTail [44] ((partsT t).map (·.data.toList))
theorem postT_nil : postT [] = [] := rfl
theorem postT_cons (r : S57) (t : List S57) : postT (r :: t) = 44 :: (textT (r :: t)).data.toList := by
  rw [textT_list]
  unfold postT
  have e : (partsT (r :: t)).map (·.data.toList) = (rngT r).data.toList :: (partsT t).map (·.data.toList) := rfl
  rw [e]
  simp [Lib.joinTail]
theorem postT_head (t : List S57) : ∀ c ∈ (postT t).head?, ¬ digU c := by
  cases t with
  | nil => intro c hc; simp [postT_nil] at hc
  | cons r t =>
    intro c hc
    rw [postT_cons] at hc
    simp at hc
    subst hc
    decide
theorem itoa_rng (r : S57) : (rngT r).data.toList = if r.f0 < r.f1 then Lib.itoa r.f0 ++ 46 :: 46 :: Lib.itoa r.f1 else Lib.itoa r.f0 := by
  unfold rngT
  split
  · rw [ByteArray.data_append, ByteArray.data_append, Array.toList_append, Array.toList_append]
    rfl
  · rfl
/-- what stands in a text where a range begins -/
structure StepT (D : List UInt8) (r : S57) (t : List S57) : Prop where
  one : numS D = (r.f0, (Lib.itoa r.f0).length, true)
  dot : dots (D.drop (Lib.itoa r.f0).length) = decide (r.f0 < r.f1)
  two : r.f0 < r.f1 → numS (D.drop ((Lib.itoa r.f0).length + 2)) = (r.f1, (Lib.itoa r.f1).length, true) ∧ D.drop ((Lib.itoa r.f0).length + 2 + (Lib.itoa r.f1).length) = postT t
  none : ¬ r.f0 < r.f1 → D.drop (Lib.itoa r.f0).length = postT t
theorem step_text (r : S57) (t : List S57) (h0 : -1000000 ≤ r.f0) (h : r.f0 ≤ r.f1) (h1 : r.f1 ≤ 1000000) : StepT (textT (r :: t)).data.toList r t := by
  have e : (textT (r :: t)).data.toList = (rngT r).data.toList ++ postT t := textT_list
  rw [itoa_rng] at e
  have hp := postT_head t
  by_cases hc : r.f0 < r.f1
  · rw [if_pos hc, List.append_assoc, List.cons_append, List.cons_append] at e
    have d0 : (Lib.itoa r.f0 ++ 46 :: 46 :: (Lib.itoa r.f1 ++ postT t)).drop (Lib.itoa r.f0).length = 46 :: 46 :: (Lib.itoa r.f1 ++ postT t) := List.drop_left' rfl
    have d1 : (Lib.itoa r.f0 ++ 46 :: 46 :: (Lib.itoa r.f1 ++ postT t)).drop ((Lib.itoa r.f0).length + 2) = Lib.itoa r.f1 ++ postT t := by
      rw [← List.drop_drop, d0]; rfl
    rw [e]
    refine ⟨numS_itoa r.f0 h0 (by omega) _ (by intro c hc; simp at hc; subst hc; decide), ?_, fun _ => ⟨?_, ?_⟩, fun h => absurd hc h⟩
    · rw [d0, decide_eq_true hc]; rfl
    · rw [d1]; exact numS_itoa r.f1 (by omega) h1 _ hp
    · rw [← List.drop_drop, d1]; exact List.drop_left' rfl
  · rw [if_neg hc] at e
    rw [e]
    have d0 : (Lib.itoa r.f0 ++ postT t).drop (Lib.itoa r.f0).length = postT t := List.drop_left' rfl
    refine ⟨numS_itoa r.f0 h0 (by omega) _ hp, ?_, fun h => absurd h hc, fun _ => d0⟩
    rw [d0, decide_eq_false hc]
    cases t with
    | nil => rfl
    | cons q t =>
      rw [postT_cons]
      cases hq : (textT (q :: t)).data.toList with
      | nil => rfl
      | cons a u => rfl
/-- so far the text is as it must be -/
def GoodAt (s : ByteArray) (k : Nat) (acc : List S57) : Prop := ∀ l, rightS l = true → 0 < l.length → textT l = s → ∃ j, j < l.length ∧ acc = l.take j ∧ s.data.toList.drop k = (textT (l.drop j)).data.toList
theorem GoodAt.start (s : ByteArray) : GoodAt s 0 [] := fun l _ h e => ⟨0, h, rfl, by rw [← e]; rfl⟩
/-- of a text that is some ranges' -/
theorem GoodAt.next {s : ByteArray} {k : Nat} {acc : List S57} (h : GoodAt s k acc) {l : List S57} (hR : rightS l = true) (hl : 0 < l.length) (e : textT l = s) :
    ∃ r t, StepT (s.data.toList.drop k) r t ∧ (t = [] → acc ++ [r] = l) ∧ (t ≠ [] → ∃ j, j < l.length ∧ acc ++ [r] = l.take j ∧ t = l.drop j) := by
  obtain ⟨j, hj, hacc, hd⟩ := h l hR hl e
  have hr := right_mem hR _ (List.getElem_mem hj)
  rw [List.drop_eq_getElem_cons hj] at hd
  refine ⟨l[j], l.drop (j + 1), by rw [hd]; exact step_text _ _ hr.1 hr.2.1 hr.2.2, fun ht => ?_, fun ht => ?_⟩
  · have hlen : l.length ≤ j + 1 := by rw [List.drop_eq_nil_iff] at ht; exact ht
    rw [hacc, ← List.take_succ_eq_append_getElem hj]
    exact List.take_of_length_le hlen
  · refine ⟨j + 1, ?_, ?_, rfl⟩
    · have hlen : ¬ l.length ≤ j + 1 := fun q => ht (List.drop_eq_nil_iff.2 q)
      omega
    · rw [hacc, ← List.take_succ_eq_append_getElem hj]
/-- what the reference reads at a place -/
def readR (D : List UInt8) : S57 := if dots (D.drop (numS D).2.1) = true then ⟨(numS D).1, (numS (D.drop ((numS D).2.1 + 2))).1⟩ else ⟨(numS D).1, (numS D).1⟩
def readN (D : List UInt8) : Nat := if dots (D.drop (numS D).2.1) = true then (numS D).2.1 + 2 + (numS (D.drop ((numS D).2.1 + 2))).2.1 else (numS D).2.1
theorem StepT.read {D : List UInt8} {r : S57} {t : List S57} (h : StepT D r t) (hr : r.f0 ≤ r.f1) : readR D = r ∧ D.drop (readN D) = postT t := by
  obtain ⟨h1, h2, h3, h4⟩ := h
  have a1 : (numS D).1 = r.f0 := by rw [h1]
  have a2 : (numS D).2.1 = (Lib.itoa r.f0).length := by rw [h1]
  unfold readR readN
  rw [a1, a2, h2]
  by_cases hc : r.f0 < r.f1
  · obtain ⟨q1, q2⟩ := h3 hc
    rw [if_pos (decide_eq_true hc), if_pos (decide_eq_true hc), q1]
    exact ⟨rfl, q2⟩
  · rw [if_neg (by simpa using hc), if_neg (by simpa using hc)]
    exact ⟨S57_eta rfl (by show r.f0 = r.f1; omega), h4 hc⟩
/-- no number stands there: no ranges -/
theorem GoodAt.bad1 {s : ByteArray} {k : Nat} {acc : List S57} (h : GoodAt s k acc) (hz : s.size ≤ 65536) (hne : s ≠ ⟨#[123, 125]⟩) (hn : (numS (s.data.toList.drop k)).2.2 = false) : parseS s = ([], 20) := by
  refine parse_bad hz hne fun l hR hl e => ?_
  obtain ⟨r, t, hs, _⟩ := h.next hR hl e
  rw [hs.one] at hn
  cases hn
theorem GoodAt.bad2 {s : ByteArray} {k : Nat} {acc : List S57} (h : GoodAt s k acc) (hz : s.size ≤ 65536) (hne : s ≠ ⟨#[123, 125]⟩) (hd : dots (s.data.toList.drop (k + (numS (s.data.toList.drop k)).2.1)) = true)
    (hn : (numS (s.data.toList.drop (k + (numS (s.data.toList.drop k)).2.1 + 2))).2.2 = false) : parseS s = ([], 20) := by
  refine parse_bad hz hne fun l hR hl e => ?_
  obtain ⟨r, t, hs, _⟩ := h.next hR hl e
  rw [hs.one] at hd hn
  rw [← List.drop_drop, hs.dot] at hd
  rw [show k + (r.f0, (Lib.itoa r.f0).length, true).2.1 + 2 = k + ((Lib.itoa r.f0).length + 2) from Nat.add_assoc _ _ _, ← List.drop_drop, (hs.two (of_decide_eq_true hd)).1] at hn
  cases hn
/-- behind a range: the end, a comma, or no ranges -/
theorem GoodAt.after {s : ByteArray} {k : Nat} {acc : List S57} (h : GoodAt s k acc) (hk : k ≤ s.size) :
    (k + readN (s.data.toList.drop k) = s.size → ∀ l, rightS l = true → 0 < l.length → textT l = s → acc ++ [readR (s.data.toList.drop k)] = l) ∧
    (∀ c u, s.data.toList.drop (k + readN (s.data.toList.drop k)) = c :: u → c = 44 → GoodAt s (k + readN (s.data.toList.drop k) + 1) (acc ++ [readR (s.data.toList.drop k)])) ∧
    (∀ c u, s.data.toList.drop (k + readN (s.data.toList.drop k)) = c :: u → c ≠ 44 → ∀ l, rightS l = true → 0 < l.length → textT l = s → False) := by
  have key : ∀ l, rightS l = true → 0 < l.length → textT l = s → ∃ t, s.data.toList.drop (k + readN (s.data.toList.drop k)) = postT t ∧ (t = [] → acc ++ [readR (s.data.toList.drop k)] = l) ∧ (t ≠ [] → ∃ j, j < l.length ∧ acc ++ [readR (s.data.toList.drop k)] = l.take j ∧ t = l.drop j) := by
    intro l hR hl e
    obtain ⟨j, hj, hacc, hd⟩ := h l hR hl e
    have hr := right_mem hR _ (List.getElem_mem hj)
    have hs := step_text l[j] (l.drop (j + 1)) hr.1 hr.2.1 hr.2.2
    rw [← List.drop_eq_getElem_cons hj, ← hd] at hs
    obtain ⟨q1, q2⟩ := hs.read hr.2.1
    refine ⟨l.drop (j + 1), by rw [← List.drop_drop, q2], fun ht => ?_, fun ht => ?_⟩
    · have hlen : l.length ≤ j + 1 := by rw [List.drop_eq_nil_iff] at ht; exact ht
      rw [q1, hacc, ← List.take_succ_eq_append_getElem hj]
      exact List.take_of_length_le hlen
    · refine ⟨j + 1, ?_, ?_, rfl⟩
      · have hlen : ¬ l.length ≤ j + 1 := fun q => ht (List.drop_eq_nil_iff.2 q)
        omega
      · rw [q1, hacc, ← List.take_succ_eq_append_getElem hj]
  refine ⟨fun hend l hR hl e => ?_, fun c u hc hc44 l hR hl e => ?_, fun c u hc hc44 l hR hl e => ?_⟩
  · obtain ⟨t, q1, q2, q3⟩ := key l hR hl e
    rw [hend, List.drop_eq_nil_iff.2 (by simp)] at q1
    cases t with
    | nil => exact q2 rfl
    | cons r t => rw [postT_cons] at q1; cases q1
  · obtain ⟨t, q1, q2, q3⟩ := key l hR hl e
    cases t with
    | nil => rw [hc, postT_nil] at q1; cases q1
    | cons r t =>
      obtain ⟨j, hj, ha, ht⟩ := q3 (by simp)
      refine ⟨j, hj, ha, ?_⟩
      rw [← List.drop_drop, q1, postT_cons, ← ht]
      rfl
  · obtain ⟨t, q1, q2, q3⟩ := key l hR hl e
    cases t with
    | nil => rw [hc, postT_nil] at q1; cases q1
    | cons r t =>
      rw [hc, postT_cons] at q1
      injection q1 with q1
      exact hc44 q1
/-- at the end -/
theorem parse_end {s : ByteArray} {acc : List S57} (hz : s.size ≤ 65536) (hne : s ≠ ⟨#[123, 125]⟩) (hl0 : 0 < acc.length) (h : ∀ l, rightS l = true → 0 < l.length → textT l = s → acc = l) : parseS s = if rightS acc = true ∧ textT acc = s then (acc, 0) else ([], 20) := by
  split
  · rename_i hc
    have := parse_text hc.1 hl0 (by rw [hc.2]; exact hz)
    rw [hc.2] at this
    exact this
  · rename_i hc
    refine parse_bad hz hne fun l hR hl e => hc ?_
    rw [h l hR hl e]
    exact ⟨hR, e⟩

end Go.Proofs.YtnfdppkbbfdmnaaGreatDoor.PD

namespace Go.Proofs.YtnfdppkbbfdmnaaGreatDoor.PD
open Go.RowKit Go.Proofs.YtnfdppkbbfdmnaaGreatDoorW.PrintWords Go.Proofs.YtnfdppkbbfdmnaaGreatDoorW.PrintLast Go.Proofs.YtnfdppkbbfdmnaaGreatDoorW.PrintMore
set_option linter.unusedVariables false
set_option linter.unusedSimpArgs false
/-! ### Parse of the reference -/
theorem number_at (s : ByteArray) (hz : s.size ≤ 65536) (p : Nat) (hp : p + 2 ≤ s.size) (w : World) :
    Calls Tryz.prog 69 #[.string s, .int .i64 ((p : Int) + 2)] w fun e w' => e = .returned (.tuple #[.int .i64 (numS (s.data.toList.drop (p + 2))).1, .int .i64 ((p + 2 + (numS (s.data.toList.drop (p + 2))).2.1 : Nat) : Int), .bool (numS (s.data.toList.drop (p + 2))).2.2]) ∧ Below w.heap.size w w' := by
  have h := number_ref s hz (p + 2) hp w
  rw [Int.natCast_add] at h
  exact h
theorem slice_two (s : ByteArray) (i : Nat) (h : i + 2 ≤ s.size) (W : World) : (Instr.slice 9 (.string s) (some (.int .i64 (i : Nat))) (some (.int .i64 ((i : Int) + 2))) none).run Tryz.prog W = .ok (.string (s.extract i (i + 2))) W := by
  have := run_slice_string (P := Tryz.prog) 9 s .i64 .i64 (i : Int) ((i : Int) + 2) Tryz.underlying9 (by omega) (by omega) (by omega) (w := W)
  rw [show ((i : Int) + 2).toNat = i + 2 by omega, Int.toNat_natCast] at this
  exact this
set_option maxRecDepth 100000 in
set_option maxHeartbeats 16000000 in
theorem Parse_ref (s : ByteArray) (hz : s.size ≤ 140737488351232) (w : World) (hd : DomLaid w) :
    Calls Tryz.prog 25 #[.string s] w fun e w' => ∃ v', e = .returned (.tuple #[v', .int .i64 (parseS s).2]) ∧ Row w' w.heap.size v' (parseS s).1 ∧ Below w.heap.size w w' := by
  by_cases hbig : 65536 < s.size
  · have hp : parseS s = ([], 3) := by unfold parseS; rw [if_pos hbig]
    rw [hp]
    clear hp hd
    go_enter Tryz.func25, Tryz.ntmps25
    go_wp2_with fail
    go_ret2
    exact ⟨_, rfl, Row.nil _ _, Below.refl _ _⟩
  by_cases hbr : s = ⟨#[123, 125]⟩
  · have hp : parseS s = ([], 0) := by unfold parseS; rw [if_neg hbig, if_pos hbr]
    rw [hp]
    clear hp hd
    subst hbr
    go_enter Tryz.func25, Tryz.ntmps25
    go_wp2_with fail
    go_ret2
    exact ⟨_, rfl, Row.nil _ _, Below.refl _ _⟩
  have hne : (s.toList == [123, 125]) = false := str_neL hbr
  have hz2 : s.size ≤ 65536 := by omega
  obtain ⟨i0, hi0, hz0, hz1, hzz2⟩ := info_parts info57
  have HD := Lib.hid hd
  clear hd hz
  go_enter Tryz.func25, Tryz.ntmps25
  go_wp2_with fail
  go_loopw [4, 5] (fun o i wr => ∃ (k : Nat) (acc : List S57), i = .int .i64 k ∧ k ≤ s.size ∧ acc.length ≤ k ∧ Hid (GoodAt s k acc) ∧ Hid (Row wr w.heap.size o acc) ∧ Hid (Below w.heap.size w wr))
    (fun _ i _ => s.size + 1 - (intOf i).toNat)
  case atStart => exact ⟨0, [], rfl, Nat.zero_le _, Nat.zero_le _, Lib.hid (GoodAt.start s), Lib.hid (Row.nil _ _), Lib.hid (Below.refl _ _)⟩
  case round =>
    obtain ⟨k, acc, rfl, hk, hal, hG, hO, hB⟩ := hrel
    obtain ⟨A0, c0, rfl⟩ := row_form hO.out
    have hsz := hB.out.size
    have hD : (s.data.toList.drop k).length = s.size - k := by rw [List.length_drop]; simp
    have hlen := numS_len (s.data.toList.drop k)
    have hbd := numS_bound (s.data.toList.drop k)
    have HN := number_ref s hz2 k hk wr
    obtain ⟨⟨x, c, b⟩, hq⟩ : ∃ q, numS (s.data.toList.drop k) = q := ⟨_, rfl⟩
    rw [hq] at hlen hbd HN
    rw [hD] at hlen
    dsimp only at hlen hbd HN
    obtain ⟨p, hp⟩ : ∃ p, k + c = p := ⟨_, rfl⟩
    rw [hp] at HN
    have hpz : p ≤ s.size := by omega
    have HN := Lib.hid HN; have HQ := Lib.hid hq; have HP := Lib.hid hp
    clear hq hp hD hlen
    cases b with
    | false =>
      have HPB := Lib.hid (hG.out.bad1 hz2 hbr (by rw [HQ.out]))
      go_wp2_with fail
      refine HN.out.mono ?_
      rintro e w2 ⟨rfl, hb2⟩
      go_wp2_with fail
      go_ret2
      rw [HPB.out]
      exact ⟨_, rfl, Row.nil _ _, below_step hB.out hb2⟩
    | true =>
      go_wp2_with fail
      refine HN.out.mono ?_
      rintro e w2 ⟨rfl, hb2⟩
      have hb4 : Below wr.heap.size wr (w2.alloc (.cells #[.int .i64 x, .int .i64 x] 57)) := (hb2.alloc hb2.size _)
      have hnw := World.alloc_heap_new w2 (.cells #[.int .i64 x, .int .i64 x] 57)
      have hs2 := hb2.size
      have hw2 : IntKind.i64.wrap ((p : Int) + 1) = (p : Int) + 1 := IntWalk.i64_in _ (by omega)
      have hw3 : IntKind.i64.wrap ((p : Int) + 2) = (p : Int) + 2 := IntWalk.i64_in _ (by omega)
      have HB4 := Lib.hid hb4; have HNW := Lib.hid hnw
      clear hb2 hb4 hnw HN
      cases hdt : dots (s.data.toList.drop p) with
      | true =>
        obtain ⟨hlt, hex⟩ := (dots_at s p hpz).1 hdt
        have hsl := fun W => slice_two s p (by omega) W
        rw [hex] at hsl
        have hlt' : decide ((p : Int) + 1 < (s.size : Int)) = true := decide_eq_true (by omega)
        have hlen2 := numS_len (s.data.toList.drop (p + 2))
        rw [List.length_drop, show s.data.toList.length = s.size by simp] at hlen2
        have HN2 := Lib.hid (fun W => number_at s hz2 p (by omega) W)
        obtain ⟨⟨y, c2, b2⟩, hq2⟩ : ∃ q, numS (s.data.toList.drop (p + 2)) = q := ⟨_, rfl⟩
        rw [hq2] at hlen2 HN2
        dsimp only at hlen2 HN2
        have HQ2 := Lib.hid hq2; have HDT := Lib.hid hdt
        clear hq2 hex hdt
        cases b2 with
        | false =>
          have HPB := Lib.hid (hG.out.bad2 hz2 hbr (by rw [HQ.out]; dsimp only; rw [HP.out]; exact HDT.out) (by rw [HQ.out]; dsimp only; rw [HP.out, HQ2.out]))
          have x0 := blk_cell HNW.out 0; have x1 := blk_cell HNW.out 1
          go_wp2_with fail
          refine (HN2.out _).mono ?_
          rintro e w3 ⟨rfl, hb3⟩
          go_wp2_with fail
          go_ret2
          rw [HPB.out]
          exact ⟨_, rfl, Row.nil _ _, below_step hB.out (below_step HB4.out hb3)⟩
        | true =>
          obtain ⟨q, hqq⟩ : ∃ q, p + 2 + c2 = q := ⟨_, rfl⟩
          have hqs : q ≤ s.size := by omega
          have hRD : readR (s.data.toList.drop k) = ⟨x, y⟩ := by
            unfold readR
            rw [HQ.out]
            dsimp only
            rw [List.drop_drop, List.drop_drop, ← Nat.add_assoc, HP.out, if_pos HDT.out, HQ2.out]
          have hRN : k + readN (s.data.toList.drop k) = q := by
            unfold readN
            rw [HQ.out]
            dsimp only
            rw [List.drop_drop, List.drop_drop, ← Nat.add_assoc k c 2, HP.out, if_pos HDT.out, HQ2.out]
            dsimp only
            have := HP.out
            omega
          rw [hqq] at HN2
          go_wp2_with fail
          refine (HN2.out _).mono ?_
          rintro e w3 ⟨rfl, hb3⟩
          have hn3 : w3.heap[w2.heap.size]? = some (.cells #[.int .i64 x, .int .i64 x] 57 (0, 0)) := (hb3.block w2.heap.size (by simp)).trans HNW.out
          have x0 := blk_cell hn3 0; have x1 := blk_cell hn3 1; have f0 := blk_frozen hn3 0; have f1 := blk_frozen hn3 1
          have hn5 := blk_put hn3 1 (.int .i64 y) rfl
          have y0 := blk_cell hn5 0; have y1 := blk_cell hn5 1
          have HBR := Lib.hid ((below_step HB4.out hb3).setCell (p := ⟨w2.heap.size, 1, none⟩) hs2 (.int .i64 y))
          have hs3 : w.heap.size ≤ w3.heap.size := by have := hb3.size; rw [World.size_alloc] at this; omega
          have hO5 := Lib.hid (hO.out.below HBR.out); have hB5 := Lib.hid (below_step hB.out HBR.out)
          clear hb3 hn3 hn5 HN2 hsl
          have haft := hG.out.after hk
          rw [hRD, hRN] at haft
          obtain ⟨a1, a2, a3⟩ := haft
          rcases hdq : s.data.toList.drop q with _ | ⟨cc, u⟩
          · have hqe : q = s.size := by
              have := congrArg List.length hdq
              rw [List.length_drop, List.length_nil] at this
              have e2 : s.data.toList.length = s.size := by simp
              omega
            have hpe := parse_end hz2 hbr (acc := acc ++ [⟨x, y⟩]) (by simp) (a1 hqe)
            have HPE := Lib.hid hpe
            have hbe1 : ((q : Int) == (s.size : Int)) = true := by rw [beq_iff_eq]; omega
            have hbe2 : (q == s.size) = true := by rw [beq_iff_eq]; exact hqe
            clear a1 a2 a3 hdq hpe hqe
            skip
            go_wp2_with ((with_reducible refine gate_dst (N := 63) rfl ?_); refine wpList_append_own _ rfl _ _ 23 rfl w.heap.size 57 i0 _ 2 16 Tryz.underlying23 hi0 hz0 hz1 hzz2 rfl (by decide) _ _ _ rfl ((Row.own hO5.out).alloc _) ⟨_, 0, none⟩ 1 1 [.int .i64 x, .int .i64 y] rfl rfl (cell_pair_at _ _ (by simp) _ _ _) (by simp [Value.oneCell']) (by simp only [maxLen]; omega) (by omega) (by first | omega | (simp; omega)) ?_; intro v' w6 hown' hgrow _; obtain ⟨q1, q2⟩ := hO5.out.pushed hown' hgrow (by first | omega | (simp; omega)); have hQ1 := Lib.hid q1; have hQ2 := Lib.hid (hB5.out.trans q2); clear hown' hgrow q1 q2)
            have HR6 := Lib.hid (Right_ref (v := v') (acc ++ [⟨x, y⟩]) w6 hQ1.out.lst)
            cases hR : rightS (acc ++ [⟨x, y⟩]) with
            | false =>
              rw [hR] at HR6
              refine HR6.out.mono ?_
              rintro e w7 ⟨rfl, hb7⟩
              go_wp2_with fail
              go_ret2
              rw [HPE.out, if_neg (by rw [hR]; simp)]
              exact ⟨_, rfl, Row.nil _ _, below_step hQ2.out hb7⟩
            | true =>
              rw [hR] at HR6
              refine HR6.out.mono ?_
              rintro e w7 ⟨rfl, hb7⟩
              have HB7 := Lib.hid (below_step hQ2.out hb7)
              have HT7 := Lib.hid (Text_ref (v := v') (acc ++ [⟨x, y⟩]) w7 (hQ1.out.lst.below hb7) (HD.out.below HB7.out))
              rw [takenL_of hR] at HT7
              have HQ7 := Lib.hid (hQ1.out.below hb7)
              clear hb7
              by_cases hT : textT (acc ++ [⟨x, y⟩]) = s
              · rw [hT] at HT7
                go_wp2_with fail
                refine HT7.out.mono ?_
                rintro e w8 ⟨rfl, hb8⟩
                go_wp2_with fail
                go_ret2
                rw [HPE.out, if_pos ⟨hR, hT⟩]
                exact ⟨_, rfl, HQ7.out.below hb8, below_step HB7.out hb8⟩
              · have hT' : ((textT (acc ++ [⟨x, y⟩])).toList == s.toList) = false := by rw [str_eqB, decide_eq_false hT]
                generalize hTT : textT (acc ++ [⟨x, y⟩]) = T at HT7 hT'
                have HTT := Lib.hid hTT
                clear hTT
                go_wp2_with fail
                refine HT7.out.mono ?_
                rintro e w8 ⟨rfl, hb8⟩
                go_wp2_with fail
                go_ret2
                rw [HPE.out, if_neg (by rintro ⟨_, h⟩; exact hT h)]
                exact ⟨_, rfl, Row.nil _ _, below_step HB7.out hb8⟩
          · have e2 : s.data.toList.length = s.size := by simp
            have hql : q < s.size := by
              have := congrArg List.length hdq
              rw [List.length_drop, List.length_cons] at this
              omega
            have hcc : s[q] = cc := by
              rw [List.drop_eq_getElem_cons (by omega)] at hdq
              exact (List.cons.inj hdq).1
            have hbe1 : ((q : Int) == (s.size : Int)) = false := by rw [beq_eq_false_iff_ne]; omega
            have hbe2 : (q == s.size) = false := by rw [beq_eq_false_iff_ne]; omega
            clear e2
            by_cases hc : cc = 44
            · have HG6 := Lib.hid (a2 cc u hdq hc)
              have hs44 : ((s[q].toNat : Int) == 44) = true := by rw [hcc, hc]; rfl
              have hs44' : ((s[q].toNat : Int) != 44) = false := by rw [hcc, hc]; rfl
              have hs44n : (s[q].toNat == 44) = true := by rw [hcc, hc]; rfl
              have hw1 : IntKind.i64.wrap ((q : Int) + 1) = (q : Int) + 1 := IntWalk.i64_in _ (by omega)
              clear a1 a2 a3 hdq hcc
              skip
              go_wp2_with ((with_reducible refine gate_dst (N := 63) rfl ?_); refine wpList_append_own _ rfl _ _ 23 rfl w.heap.size 57 i0 _ 2 16 Tryz.underlying23 hi0 hz0 hz1 hzz2 rfl (by decide) _ _ _ rfl ((Row.own hO5.out).alloc _) ⟨_, 0, none⟩ 1 1 [.int .i64 x, .int .i64 y] rfl rfl (cell_pair_at _ _ (by simp) _ _ _) (by simp [Value.oneCell']) (by simp only [maxLen]; omega) (by omega) (by first | omega | (simp; omega)) ?_; intro v' w6 hown' hgrow _; obtain ⟨q1, q2⟩ := hO5.out.pushed hown' hgrow (by first | omega | (simp; omega)); have hQ1 := Lib.hid q1; have hQ2 := Lib.hid (hB5.out.trans q2); clear hown' hgrow q1 q2)
              refine ⟨⟨q + 1, acc ++ [⟨x, y⟩], by rw [Int.natCast_add]; rfl, by omega, by rw [List.length_append, List.length_singleton]; omega, HG6, hQ1, hQ2⟩, by simp [intOf]; omega⟩
            · have HPB := Lib.hid (parse_bad hz2 hbr (a3 cc u hdq hc))
              have hn44 : cc.toNat ≠ 44 := fun h => hc (UInt8.toNat_inj.1 h)
              have hs44 : ((s[q].toNat : Int) == 44) = false := by rw [hcc, beq_eq_false_iff_ne]; omega
              have hs44' : ((s[q].toNat : Int) != 44) = true := by rw [hcc, bne_iff_ne]; omega
              have hs44n : (s[q].toNat == 44) = false := by rw [hcc, beq_eq_false_iff_ne]; exact hn44
              clear a1 a2 a3 hdq hcc
              skip
              go_wp2_with ((with_reducible refine gate_dst (N := 63) rfl ?_); refine wpList_append_own _ rfl _ _ 23 rfl w.heap.size 57 i0 _ 2 16 Tryz.underlying23 hi0 hz0 hz1 hzz2 rfl (by decide) _ _ _ rfl ((Row.own hO5.out).alloc _) ⟨_, 0, none⟩ 1 1 [.int .i64 x, .int .i64 y] rfl rfl (cell_pair_at _ _ (by simp) _ _ _) (by simp [Value.oneCell']) (by simp only [maxLen]; omega) (by omega) (by first | omega | (simp; omega)) ?_; intro v' w6 hown' hgrow _; obtain ⟨q1, q2⟩ := hO5.out.pushed hown' hgrow (by first | omega | (simp; omega)); have hQ1 := Lib.hid q1; have hQ2 := Lib.hid (hB5.out.trans q2); clear hown' hgrow q1 q2)
              go_ret2
              rw [HPB.out]
              exact ⟨_, rfl, Row.nil _ _, hQ2.out⟩
      | false =>
        have hRD : readR (s.data.toList.drop k) = ⟨x, x⟩ := by
          unfold readR
          rw [HQ.out]
          dsimp only
          rw [List.drop_drop, HP.out, if_neg (by rw [hdt]; decide)]
        have hRN : k + readN (s.data.toList.drop k) = p := by
          unfold readN
          rw [HQ.out]
          dsimp only
          rw [List.drop_drop, HP.out, if_neg (by rw [hdt]; decide)]
          exact HP.out
        have hO5 := Lib.hid (hO.out.below HB4.out); have hB5 := Lib.hid (below_step hB.out HB4.out)
        have y0 := blk_cell HNW.out 0; have y1 := blk_cell HNW.out 1
        have hqs := hpz
        obtain ⟨q, hqq⟩ : ∃ q, p = q := ⟨_, rfl⟩
        subst hqq
        rcases (dots_at s p hpz).2 hdt with hlt | hex
        · have hlt' : decide ((p : Int) + 1 < (s.size : Int)) = false := decide_eq_false (by omega)
          clear hdt
          have haft := hG.out.after hk
          rw [hRD, hRN] at haft
          obtain ⟨a1, a2, a3⟩ := haft
          rcases hdq : s.data.toList.drop p with _ | ⟨cc, u⟩
          · have hqe : p = s.size := by
              have := congrArg List.length hdq
              rw [List.length_drop, List.length_nil] at this
              have e2 : s.data.toList.length = s.size := by simp
              omega
            have hpe := parse_end hz2 hbr (acc := acc ++ [⟨x, x⟩]) (by simp) (a1 hqe)
            have HPE := Lib.hid hpe
            have hbe1 : ((p : Int) == (s.size : Int)) = true := by rw [beq_iff_eq]; omega
            have hbe2 : (p == s.size) = true := by rw [beq_iff_eq]; exact hqe
            clear a1 a2 a3 hdq hpe hqe
            skip
            go_wp2_with ((with_reducible refine gate_dst (N := 63) rfl ?_); refine wpList_append_own _ rfl _ _ 23 rfl w.heap.size 57 i0 _ 2 16 Tryz.underlying23 hi0 hz0 hz1 hzz2 rfl (by decide) _ _ _ rfl ((Row.own hO5.out).alloc _) ⟨_, 0, none⟩ 1 1 [.int .i64 x, .int .i64 x] rfl rfl (cell_pair_at _ _ (by simp) _ _ _) (by simp [Value.oneCell']) (by simp only [maxLen]; omega) (by omega) (by first | omega | (simp; omega)) ?_; intro v' w6 hown' hgrow _; obtain ⟨q1, q2⟩ := hO5.out.pushed hown' hgrow (by first | omega | (simp; omega)); have hQ1 := Lib.hid q1; have hQ2 := Lib.hid (hB5.out.trans q2); clear hown' hgrow q1 q2)
            have HR6 := Lib.hid (Right_ref (v := v') (acc ++ [⟨x, x⟩]) w6 hQ1.out.lst)
            cases hR : rightS (acc ++ [⟨x, x⟩]) with
            | false =>
              rw [hR] at HR6
              refine HR6.out.mono ?_
              rintro e w7 ⟨rfl, hb7⟩
              go_wp2_with fail
              go_ret2
              rw [HPE.out, if_neg (by rw [hR]; simp)]
              exact ⟨_, rfl, Row.nil _ _, below_step hQ2.out hb7⟩
            | true =>
              rw [hR] at HR6
              refine HR6.out.mono ?_
              rintro e w7 ⟨rfl, hb7⟩
              have HB7 := Lib.hid (below_step hQ2.out hb7)
              have HT7 := Lib.hid (Text_ref (v := v') (acc ++ [⟨x, x⟩]) w7 (hQ1.out.lst.below hb7) (HD.out.below HB7.out))
              rw [takenL_of hR] at HT7
              have HQ7 := Lib.hid (hQ1.out.below hb7)
              clear hb7
              by_cases hT : textT (acc ++ [⟨x, x⟩]) = s
              · rw [hT] at HT7
                go_wp2_with fail
                refine HT7.out.mono ?_
                rintro e w8 ⟨rfl, hb8⟩
                go_wp2_with fail
                go_ret2
                rw [HPE.out, if_pos ⟨hR, hT⟩]
                exact ⟨_, rfl, HQ7.out.below hb8, below_step HB7.out hb8⟩
              · have hT' : ((textT (acc ++ [⟨x, x⟩])).toList == s.toList) = false := by rw [str_eqB, decide_eq_false hT]
                generalize hTT : textT (acc ++ [⟨x, x⟩]) = T at HT7 hT'
                have HTT := Lib.hid hTT
                clear hTT
                go_wp2_with fail
                refine HT7.out.mono ?_
                rintro e w8 ⟨rfl, hb8⟩
                go_wp2_with fail
                go_ret2
                rw [HPE.out, if_neg (by rintro ⟨_, h⟩; exact hT h)]
                exact ⟨_, rfl, Row.nil _ _, below_step HB7.out hb8⟩
          · have e2 : s.data.toList.length = s.size := by simp
            have hql : p < s.size := by
              have := congrArg List.length hdq
              rw [List.length_drop, List.length_cons] at this
              omega
            have hcc : s[p] = cc := by
              rw [List.drop_eq_getElem_cons (by omega)] at hdq
              exact (List.cons.inj hdq).1
            have hbe1 : ((p : Int) == (s.size : Int)) = false := by rw [beq_eq_false_iff_ne]; omega
            have hbe2 : (p == s.size) = false := by rw [beq_eq_false_iff_ne]; omega
            clear e2
            by_cases hc : cc = 44
            · have HG6 := Lib.hid (a2 cc u hdq hc)
              have hs44 : ((s[p].toNat : Int) == 44) = true := by rw [hcc, hc]; rfl
              have hs44' : ((s[p].toNat : Int) != 44) = false := by rw [hcc, hc]; rfl
              have hs44n : (s[p].toNat == 44) = true := by rw [hcc, hc]; rfl
              have hw1 : IntKind.i64.wrap ((p : Int) + 1) = (p : Int) + 1 := IntWalk.i64_in _ (by omega)
              clear a1 a2 a3 hdq hcc
              skip
              go_wp2_with ((with_reducible refine gate_dst (N := 63) rfl ?_); refine wpList_append_own _ rfl _ _ 23 rfl w.heap.size 57 i0 _ 2 16 Tryz.underlying23 hi0 hz0 hz1 hzz2 rfl (by decide) _ _ _ rfl ((Row.own hO5.out).alloc _) ⟨_, 0, none⟩ 1 1 [.int .i64 x, .int .i64 x] rfl rfl (cell_pair_at _ _ (by simp) _ _ _) (by simp [Value.oneCell']) (by simp only [maxLen]; omega) (by omega) (by first | omega | (simp; omega)) ?_; intro v' w6 hown' hgrow _; obtain ⟨q1, q2⟩ := hO5.out.pushed hown' hgrow (by first | omega | (simp; omega)); have hQ1 := Lib.hid q1; have hQ2 := Lib.hid (hB5.out.trans q2); clear hown' hgrow q1 q2)
              refine ⟨⟨p + 1, acc ++ [⟨x, x⟩], by rw [Int.natCast_add]; rfl, by omega, by rw [List.length_append, List.length_singleton]; omega, HG6, hQ1, hQ2⟩, by simp [intOf]; omega⟩
            · have HPB := Lib.hid (parse_bad hz2 hbr (a3 cc u hdq hc))
              have hn44 : cc.toNat ≠ 44 := fun h => hc (UInt8.toNat_inj.1 h)
              have hs44 : ((s[p].toNat : Int) == 44) = false := by rw [hcc, beq_eq_false_iff_ne]; omega
              have hs44' : ((s[p].toNat : Int) != 44) = true := by rw [hcc, bne_iff_ne]; omega
              have hs44n : (s[p].toNat == 44) = false := by rw [hcc, beq_eq_false_iff_ne]; exact hn44
              clear a1 a2 a3 hdq hcc
              skip
              go_wp2_with ((with_reducible refine gate_dst (N := 63) rfl ?_); refine wpList_append_own _ rfl _ _ 23 rfl w.heap.size 57 i0 _ 2 16 Tryz.underlying23 hi0 hz0 hz1 hzz2 rfl (by decide) _ _ _ rfl ((Row.own hO5.out).alloc _) ⟨_, 0, none⟩ 1 1 [.int .i64 x, .int .i64 x] rfl rfl (cell_pair_at _ _ (by simp) _ _ _) (by simp [Value.oneCell']) (by simp only [maxLen]; omega) (by omega) (by first | omega | (simp; omega)) ?_; intro v' w6 hown' hgrow _; obtain ⟨q1, q2⟩ := hO5.out.pushed hown' hgrow (by first | omega | (simp; omega)); have hQ1 := Lib.hid q1; have hQ2 := Lib.hid (hB5.out.trans q2); clear hown' hgrow q1 q2)
              go_ret2
              rw [HPB.out]
              exact ⟨_, rfl, Row.nil _ _, hQ2.out⟩
        · by_cases hlt : s.size ≤ p + 1
          · have hlt' : decide ((p : Int) + 1 < (s.size : Int)) = false := decide_eq_false (by omega)
            clear hdt
            have haft := hG.out.after hk
            rw [hRD, hRN] at haft
            obtain ⟨a1, a2, a3⟩ := haft
            rcases hdq : s.data.toList.drop p with _ | ⟨cc, u⟩
            · have hqe : p = s.size := by
                have := congrArg List.length hdq
                rw [List.length_drop, List.length_nil] at this
                have e2 : s.data.toList.length = s.size := by simp
                omega
              have hpe := parse_end hz2 hbr (acc := acc ++ [⟨x, x⟩]) (by simp) (a1 hqe)
              have HPE := Lib.hid hpe
              have hbe1 : ((p : Int) == (s.size : Int)) = true := by rw [beq_iff_eq]; omega
              have hbe2 : (p == s.size) = true := by rw [beq_iff_eq]; exact hqe
              clear a1 a2 a3 hdq hpe hqe
              skip
              go_wp2_with ((with_reducible refine gate_dst (N := 63) rfl ?_); refine wpList_append_own _ rfl _ _ 23 rfl w.heap.size 57 i0 _ 2 16 Tryz.underlying23 hi0 hz0 hz1 hzz2 rfl (by decide) _ _ _ rfl ((Row.own hO5.out).alloc _) ⟨_, 0, none⟩ 1 1 [.int .i64 x, .int .i64 x] rfl rfl (cell_pair_at _ _ (by simp) _ _ _) (by simp [Value.oneCell']) (by simp only [maxLen]; omega) (by omega) (by first | omega | (simp; omega)) ?_; intro v' w6 hown' hgrow _; obtain ⟨q1, q2⟩ := hO5.out.pushed hown' hgrow (by first | omega | (simp; omega)); have hQ1 := Lib.hid q1; have hQ2 := Lib.hid (hB5.out.trans q2); clear hown' hgrow q1 q2)
              have HR6 := Lib.hid (Right_ref (v := v') (acc ++ [⟨x, x⟩]) w6 hQ1.out.lst)
              cases hR : rightS (acc ++ [⟨x, x⟩]) with
              | false =>
                rw [hR] at HR6
                refine HR6.out.mono ?_
                rintro e w7 ⟨rfl, hb7⟩
                go_wp2_with fail
                go_ret2
                rw [HPE.out, if_neg (by rw [hR]; simp)]
                exact ⟨_, rfl, Row.nil _ _, below_step hQ2.out hb7⟩
              | true =>
                rw [hR] at HR6
                refine HR6.out.mono ?_
                rintro e w7 ⟨rfl, hb7⟩
                have HB7 := Lib.hid (below_step hQ2.out hb7)
                have HT7 := Lib.hid (Text_ref (v := v') (acc ++ [⟨x, x⟩]) w7 (hQ1.out.lst.below hb7) (HD.out.below HB7.out))
                rw [takenL_of hR] at HT7
                have HQ7 := Lib.hid (hQ1.out.below hb7)
                clear hb7
                by_cases hT : textT (acc ++ [⟨x, x⟩]) = s
                · rw [hT] at HT7
                  go_wp2_with fail
                  refine HT7.out.mono ?_
                  rintro e w8 ⟨rfl, hb8⟩
                  go_wp2_with fail
                  go_ret2
                  rw [HPE.out, if_pos ⟨hR, hT⟩]
                  exact ⟨_, rfl, HQ7.out.below hb8, below_step HB7.out hb8⟩
                · have hT' : ((textT (acc ++ [⟨x, x⟩])).toList == s.toList) = false := by rw [str_eqB, decide_eq_false hT]
                  generalize hTT : textT (acc ++ [⟨x, x⟩]) = T at HT7 hT'
                  have HTT := Lib.hid hTT
                  clear hTT
                  go_wp2_with fail
                  refine HT7.out.mono ?_
                  rintro e w8 ⟨rfl, hb8⟩
                  go_wp2_with fail
                  go_ret2
                  rw [HPE.out, if_neg (by rintro ⟨_, h⟩; exact hT h)]
                  exact ⟨_, rfl, Row.nil _ _, below_step HB7.out hb8⟩
            · have e2 : s.data.toList.length = s.size := by simp
              have hql : p < s.size := by
                have := congrArg List.length hdq
                rw [List.length_drop, List.length_cons] at this
                omega
              have hcc : s[p] = cc := by
                rw [List.drop_eq_getElem_cons (by omega)] at hdq
                exact (List.cons.inj hdq).1
              have hbe1 : ((p : Int) == (s.size : Int)) = false := by rw [beq_eq_false_iff_ne]; omega
              have hbe2 : (p == s.size) = false := by rw [beq_eq_false_iff_ne]; omega
              clear e2
              by_cases hc : cc = 44
              · have HG6 := Lib.hid (a2 cc u hdq hc)
                have hs44 : ((s[p].toNat : Int) == 44) = true := by rw [hcc, hc]; rfl
                have hs44' : ((s[p].toNat : Int) != 44) = false := by rw [hcc, hc]; rfl
                have hs44n : (s[p].toNat == 44) = true := by rw [hcc, hc]; rfl
                have hw1 : IntKind.i64.wrap ((p : Int) + 1) = (p : Int) + 1 := IntWalk.i64_in _ (by omega)
                clear a1 a2 a3 hdq hcc
                skip
                go_wp2_with ((with_reducible refine gate_dst (N := 63) rfl ?_); refine wpList_append_own _ rfl _ _ 23 rfl w.heap.size 57 i0 _ 2 16 Tryz.underlying23 hi0 hz0 hz1 hzz2 rfl (by decide) _ _ _ rfl ((Row.own hO5.out).alloc _) ⟨_, 0, none⟩ 1 1 [.int .i64 x, .int .i64 x] rfl rfl (cell_pair_at _ _ (by simp) _ _ _) (by simp [Value.oneCell']) (by simp only [maxLen]; omega) (by omega) (by first | omega | (simp; omega)) ?_; intro v' w6 hown' hgrow _; obtain ⟨q1, q2⟩ := hO5.out.pushed hown' hgrow (by first | omega | (simp; omega)); have hQ1 := Lib.hid q1; have hQ2 := Lib.hid (hB5.out.trans q2); clear hown' hgrow q1 q2)
                refine ⟨⟨p + 1, acc ++ [⟨x, x⟩], by rw [Int.natCast_add]; rfl, by omega, by rw [List.length_append, List.length_singleton]; omega, HG6, hQ1, hQ2⟩, by simp [intOf]; omega⟩
              · have HPB := Lib.hid (parse_bad hz2 hbr (a3 cc u hdq hc))
                have hn44 : cc.toNat ≠ 44 := fun h => hc (UInt8.toNat_inj.1 h)
                have hs44 : ((s[p].toNat : Int) == 44) = false := by rw [hcc, beq_eq_false_iff_ne]; omega
                have hs44' : ((s[p].toNat : Int) != 44) = true := by rw [hcc, bne_iff_ne]; omega
                have hs44n : (s[p].toNat == 44) = false := by rw [hcc, beq_eq_false_iff_ne]; exact hn44
                clear a1 a2 a3 hdq hcc
                skip
                go_wp2_with ((with_reducible refine gate_dst (N := 63) rfl ?_); refine wpList_append_own _ rfl _ _ 23 rfl w.heap.size 57 i0 _ 2 16 Tryz.underlying23 hi0 hz0 hz1 hzz2 rfl (by decide) _ _ _ rfl ((Row.own hO5.out).alloc _) ⟨_, 0, none⟩ 1 1 [.int .i64 x, .int .i64 x] rfl rfl (cell_pair_at _ _ (by simp) _ _ _) (by simp [Value.oneCell']) (by simp only [maxLen]; omega) (by omega) (by first | omega | (simp; omega)) ?_; intro v' w6 hown' hgrow _; obtain ⟨q1, q2⟩ := hO5.out.pushed hown' hgrow (by first | omega | (simp; omega)); have hQ1 := Lib.hid q1; have hQ2 := Lib.hid (hB5.out.trans q2); clear hown' hgrow q1 q2)
                go_ret2
                rw [HPB.out]
                exact ⟨_, rfl, Row.nil _ _, hQ2.out⟩
          · have hlt' : decide ((p : Int) + 1 < (s.size : Int)) = true := decide_eq_true (by omega)
            have hsl := fun W => slice_two s p (by omega) W
            generalize s.extract p (p + 2) = ss at *
            clear hdt
            have haft := hG.out.after hk
            rw [hRD, hRN] at haft
            obtain ⟨a1, a2, a3⟩ := haft
            rcases hdq : s.data.toList.drop p with _ | ⟨cc, u⟩
            · have hqe : p = s.size := by
                have := congrArg List.length hdq
                rw [List.length_drop, List.length_nil] at this
                have e2 : s.data.toList.length = s.size := by simp
                omega
              have hpe := parse_end hz2 hbr (acc := acc ++ [⟨x, x⟩]) (by simp) (a1 hqe)
              have HPE := Lib.hid hpe
              have hbe1 : ((p : Int) == (s.size : Int)) = true := by rw [beq_iff_eq]; omega
              have hbe2 : (p == s.size) = true := by rw [beq_iff_eq]; exact hqe
              clear a1 a2 a3 hdq hpe hqe
              skip
              go_wp2_with ((with_reducible refine gate_dst (N := 63) rfl ?_); refine wpList_append_own _ rfl _ _ 23 rfl w.heap.size 57 i0 _ 2 16 Tryz.underlying23 hi0 hz0 hz1 hzz2 rfl (by decide) _ _ _ rfl ((Row.own hO5.out).alloc _) ⟨_, 0, none⟩ 1 1 [.int .i64 x, .int .i64 x] rfl rfl (cell_pair_at _ _ (by simp) _ _ _) (by simp [Value.oneCell']) (by simp only [maxLen]; omega) (by omega) (by first | omega | (simp; omega)) ?_; intro v' w6 hown' hgrow _; obtain ⟨q1, q2⟩ := hO5.out.pushed hown' hgrow (by first | omega | (simp; omega)); have hQ1 := Lib.hid q1; have hQ2 := Lib.hid (hB5.out.trans q2); clear hown' hgrow q1 q2)
              have HR6 := Lib.hid (Right_ref (v := v') (acc ++ [⟨x, x⟩]) w6 hQ1.out.lst)
              cases hR : rightS (acc ++ [⟨x, x⟩]) with
              | false =>
                rw [hR] at HR6
                refine HR6.out.mono ?_
                rintro e w7 ⟨rfl, hb7⟩
                go_wp2_with fail
                go_ret2
                rw [HPE.out, if_neg (by rw [hR]; simp)]
                exact ⟨_, rfl, Row.nil _ _, below_step hQ2.out hb7⟩
              | true =>
                rw [hR] at HR6
                refine HR6.out.mono ?_
                rintro e w7 ⟨rfl, hb7⟩
                have HB7 := Lib.hid (below_step hQ2.out hb7)
                have HT7 := Lib.hid (Text_ref (v := v') (acc ++ [⟨x, x⟩]) w7 (hQ1.out.lst.below hb7) (HD.out.below HB7.out))
                rw [takenL_of hR] at HT7
                have HQ7 := Lib.hid (hQ1.out.below hb7)
                clear hb7
                by_cases hT : textT (acc ++ [⟨x, x⟩]) = s
                · rw [hT] at HT7
                  go_wp2_with fail
                  refine HT7.out.mono ?_
                  rintro e w8 ⟨rfl, hb8⟩
                  go_wp2_with fail
                  go_ret2
                  rw [HPE.out, if_pos ⟨hR, hT⟩]
                  exact ⟨_, rfl, HQ7.out.below hb8, below_step HB7.out hb8⟩
                · have hT' : ((textT (acc ++ [⟨x, x⟩])).toList == s.toList) = false := by rw [str_eqB, decide_eq_false hT]
                  generalize hTT : textT (acc ++ [⟨x, x⟩]) = T at HT7 hT'
                  have HTT := Lib.hid hTT
                  clear hTT
                  go_wp2_with fail
                  refine HT7.out.mono ?_
                  rintro e w8 ⟨rfl, hb8⟩
                  go_wp2_with fail
                  go_ret2
                  rw [HPE.out, if_neg (by rintro ⟨_, h⟩; exact hT h)]
                  exact ⟨_, rfl, Row.nil _ _, below_step HB7.out hb8⟩
            · have e2 : s.data.toList.length = s.size := by simp
              have hql : p < s.size := by
                have := congrArg List.length hdq
                rw [List.length_drop, List.length_cons] at this
                omega
              have hcc : s[p] = cc := by
                rw [List.drop_eq_getElem_cons (by omega)] at hdq
                exact (List.cons.inj hdq).1
              have hbe1 : ((p : Int) == (s.size : Int)) = false := by rw [beq_eq_false_iff_ne]; omega
              have hbe2 : (p == s.size) = false := by rw [beq_eq_false_iff_ne]; omega
              clear e2
              by_cases hc : cc = 44
              · have HG6 := Lib.hid (a2 cc u hdq hc)
                have hs44 : ((s[p].toNat : Int) == 44) = true := by rw [hcc, hc]; rfl
                have hs44' : ((s[p].toNat : Int) != 44) = false := by rw [hcc, hc]; rfl
                have hs44n : (s[p].toNat == 44) = true := by rw [hcc, hc]; rfl
                have hw1 : IntKind.i64.wrap ((p : Int) + 1) = (p : Int) + 1 := IntWalk.i64_in _ (by omega)
                clear a1 a2 a3 hdq hcc
                skip
                go_wp2_with ((with_reducible refine gate_dst (N := 63) rfl ?_); refine wpList_append_own _ rfl _ _ 23 rfl w.heap.size 57 i0 _ 2 16 Tryz.underlying23 hi0 hz0 hz1 hzz2 rfl (by decide) _ _ _ rfl ((Row.own hO5.out).alloc _) ⟨_, 0, none⟩ 1 1 [.int .i64 x, .int .i64 x] rfl rfl (cell_pair_at _ _ (by simp) _ _ _) (by simp [Value.oneCell']) (by simp only [maxLen]; omega) (by omega) (by first | omega | (simp; omega)) ?_; intro v' w6 hown' hgrow _; obtain ⟨q1, q2⟩ := hO5.out.pushed hown' hgrow (by first | omega | (simp; omega)); have hQ1 := Lib.hid q1; have hQ2 := Lib.hid (hB5.out.trans q2); clear hown' hgrow q1 q2)
                refine ⟨⟨p + 1, acc ++ [⟨x, x⟩], by rw [Int.natCast_add]; rfl, by omega, by rw [List.length_append, List.length_singleton]; omega, HG6, hQ1, hQ2⟩, by simp [intOf]; omega⟩
              · have HPB := Lib.hid (parse_bad hz2 hbr (a3 cc u hdq hc))
                have hn44 : cc.toNat ≠ 44 := fun h => hc (UInt8.toNat_inj.1 h)
                have hs44 : ((s[p].toNat : Int) == 44) = false := by rw [hcc, beq_eq_false_iff_ne]; omega
                have hs44' : ((s[p].toNat : Int) != 44) = true := by rw [hcc, bne_iff_ne]; omega
                have hs44n : (s[p].toNat == 44) = false := by rw [hcc, beq_eq_false_iff_ne]; exact hn44
                clear a1 a2 a3 hdq hcc
                skip
                go_wp2_with ((with_reducible refine gate_dst (N := 63) rfl ?_); refine wpList_append_own _ rfl _ _ 23 rfl w.heap.size 57 i0 _ 2 16 Tryz.underlying23 hi0 hz0 hz1 hzz2 rfl (by decide) _ _ _ rfl ((Row.own hO5.out).alloc _) ⟨_, 0, none⟩ 1 1 [.int .i64 x, .int .i64 x] rfl rfl (cell_pair_at _ _ (by simp) _ _ _) (by simp [Value.oneCell']) (by simp only [maxLen]; omega) (by omega) (by first | omega | (simp; omega)) ?_; intro v' w6 hown' hgrow _; obtain ⟨q1, q2⟩ := hO5.out.pushed hown' hgrow (by first | omega | (simp; omega)); have hQ1 := Lib.hid q1; have hQ2 := Lib.hid (hB5.out.trans q2); clear hown' hgrow q1 q2)
                go_ret2
                rw [HPB.out]
                exact ⟨_, rfl, Row.nil _ _, hQ2.out⟩

end Go.Proofs.YtnfdppkbbfdmnaaGreatDoor.PD

namespace Go.Proofs.YtnfdppkbbfdmnaaGreatDoor.PD
open Go.RowKit Go.Proofs.YtnfdppkbbfdmnaaGreatDoorW.PrintWords Go.Proofs.YtnfdppkbbfdmnaaGreatDoorW.PrintLast Go.Proofs.YtnfdppkbbfdmnaaGreatDoorW.PrintMore
set_option linter.unusedVariables false
set_option linter.unusedSimpArgs false
/-! ### known -/
theorem ints_reps (w : World) (xs : List Int) : Reps ((Kd.int .i64).K w) 1 xs (ints64 xs) := by
  obtain ⟨r, rfl⟩ : ∃ r, xs = r.reverse := ⟨xs.reverse, by simp⟩
  induction r with
  | nil => exact Reps.none _ _
  | cons s r ih =>
    rw [List.reverse_cons, ints64_snoc]
    exact ih.snoc rfl rfl
theorem RowI.lst {w : World} {base : Nat} {v : Value} {l : List Int} (h : RowI w base v l) : LstI w v l := by
  obtain ⟨A, c, e, hC⟩ := own_reads_row h (ints_reps w l) rfl
  refine ⟨A, c, e, hC, ?_⟩
  subst e
  exact row_cap h
theorem four_ints (w : World) (a b c d : Int) : LstI (w.alloc (.cells #[.int .i64 a, .int .i64 b, .int .i64 c, .int .i64 d] 2)) (.slice (some ⟨w.heap.size, 0, none⟩) 4 4) [a, b, c, d] :=
  RowI.lst (base := w.heap.size) ⟨rfl, .inr ⟨w.heap.size, 4, _, rfl, Nat.le_refl _, World.alloc_heap_new _ _, Nat.le_refl _, by decide, rfl, rfl⟩⟩
theorem two_lst (w : World) (x y x' y' : Int) : Lst (w.alloc (.cells #[.int .i64 x, .int .i64 y, .int .i64 x', .int .i64 y'] 57)) (.slice (some ⟨w.heap.size, 0, none⟩) 2 2) [⟨x, y⟩, ⟨x', y'⟩] :=
  Row.lst (base := w.heap.size) ⟨rfl, .inr ⟨w.heap.size, 2, _, rfl, Nat.le_refl _, World.alloc_heap_new _ _, Nat.le_refl _, by decide, rfl, rfl⟩⟩
theorem kn9 : parseS ⟨#[49, 44, 50]⟩ = ([], 20) := by rfl
theorem kn10 : fitL [⟨1, 2⟩, ⟨6, 9⟩] = ([⟨1, 2⟩, ⟨6, 9⟩], 0) := by rfl
theorem kn11 : takenL [⟨1, 2⟩, ⟨5, 5⟩] = ([⟨1, 2⟩, ⟨5, 5⟩] : List S57) := by rfl
theorem kn12 : takenL [⟨1, 2⟩, ⟨6, 9⟩] = ([⟨1, 2⟩, ⟨6, 9⟩] : List S57) := by rfl
theorem known_of (w : World) : Calls Tryz.prog 10 #[.slice (some ⟨w.heap.size, 0, none⟩) 4 4] (w.alloc (.cells #[.int .i64 5, .int .i64 1, .int .i64 2, .int .i64 2] 2)) fun e w' => ∃ v', e = .returned (.tuple #[v', .int .i64 0]) ∧ Lst w' v' [⟨1, 2⟩, ⟨5, 5⟩] ∧ Below w.heap.size w w' := by
  have h := Of_calls [5, 1, 2, 2] _ (four_ints w 5 1 2 2) (by decide)
  rw [kn1] at h
  refine h.mono ?_
  rintro e w' ⟨v', rfl, hr, hb⟩
  exact ⟨v', rfl, hr.lst, below_step ((Below.refl _ _).alloc (Nat.le_refl _) _) hb⟩
theorem known_span (w : World) : Calls Tryz.prog 14 #[.int .i64 1, .int .i64 9] w fun e w' => ∃ v', e = .returned (.tuple #[v', .int .i64 0]) ∧ Lst w' v' [⟨1, 9⟩] ∧ Below w.heap.size w w' := by
  have h := Span_calls 1 9 w
  rw [kn2] at h
  refine h.mono ?_
  rintro e w' ⟨v', rfl, hr, hb⟩
  exact ⟨v', rfl, hr.lst, hb⟩
theorem known_less {v : Value} (w : World) (hv : Lst w v [⟨1, 9⟩]) : Calls Tryz.prog 44 #[v, .slice (some ⟨w.heap.size, 0, none⟩) 1 1] (w.alloc (.cells #[.int .i64 3, .int .i64 5] 57)) fun e w' => ∃ v', e = .returned (.tuple #[v', .int .i64 0]) ∧ Lst w' v' [⟨1, 2⟩, ⟨6, 9⟩] ∧ Below w.heap.size w w' := by
  have hb0 : Below w.heap.size w (w.alloc (.cells #[.int .i64 3, .int .i64 5] 57)) := (Below.refl _ _).alloc (Nat.le_refl _) _
  have h := less_calls _ _ _ (hv.below hb0) (one_lst w 3 5)
  rw [kn4, kn5, kn10] at h
  refine h.mono ?_
  rintro e w' ⟨v', e', rfl, ⟨hr, rfl⟩, hb⟩
  exact ⟨v', rfl, hr.lst, below_step hb0 hb⟩
theorem known_next (w : World) : Calls Tryz.prog 31 #[.slice (some ⟨w.heap.size, 0, none⟩) 2 2, .int .i64 3] (w.alloc (.cells #[.int .i64 1, .int .i64 2, .int .i64 7, .int .i64 9] 57)) fun e w' => e = .returned (.tuple #[.int .i64 7, .bool true]) ∧ Below w.heap.size w w' := by
  have h := next_calls _ 3 _ (two_lst w 1 2 7 9)
  rw [kn6] at h
  refine h.mono ?_
  rintro e w' ⟨rfl, hb⟩
  exact ⟨rfl, below_step ((Below.refl _ _).alloc (Nat.le_refl _) _) hb⟩
theorem known_parse (w : World) (hd : DomLaid w) : Calls Tryz.prog 24 #[.string ⟨#[49, 44, 50]⟩] w fun e w' => ∃ v', e = .returned (.tuple #[v', .int .i64 20]) ∧ Below w.heap.size w w' := by
  have h := Parse_calls ⟨#[49, 44, 50]⟩ (by decide) w hd
  rw [kn9] at h
  refine h.mono ?_
  rintro e w' ⟨v', rfl, _, hb⟩
  exact ⟨v', rfl, hb⟩
theorem known_text1 {v : Value} (w : World) (hd : DomLaid w) (h : Lst w v [⟨1, 2⟩, ⟨5, 5⟩]) : Calls Tryz.prog 23 #[v] w fun e w' => e = .returned (.string ⟨#[49, 46, 46, 50, 44, 53]⟩) ∧ Below w.heap.size w w' := by
  have h := Text_calls _ w h hd
  rw [kn11, kn7] at h
  exact h
theorem known_text2 {v : Value} (w : World) (hd : DomLaid w) (h : Lst w v [⟨1, 2⟩, ⟨6, 9⟩]) : Calls Tryz.prog 23 #[v] w fun e w' => e = .returned (.string ⟨#[49, 46, 46, 50, 44, 54, 46, 46, 57]⟩) ∧ Below w.heap.size w w' := by
  have h := Text_calls _ w h hd
  rw [kn12, kn8] at h
  exact h
set_option maxRecDepth 100000 in
set_option maxHeartbeats 8000000 in
theorem known_calls (w : World) (hd : DomLaid w) : Calls Tryz.prog 22 #[] w fun e w' => e = .returned (.bool true) ∧ Below w.heap.size w w' := by
  have HD := Lib.hid hd
  clear hd
  go_enter Tryz.func22, Tryz.ntmps22
  go_wp2_with fail
  refine (known_of w).mono ?_
  rintro e w1 ⟨v1, rfl, hL1, hb1⟩
  have HL1 := Lib.hid hL1; have HB1 := Lib.hid hb1
  clear hL1 hb1
  go_wp2_with fail
  refine (known_span w1).mono ?_
  rintro e w2 ⟨v2, rfl, hL2, hb2⟩
  have HK := Lib.hid (known_less w2 hL2); have HL1 := Lib.hid (HL1.out.below hb2); have HB2 := Lib.hid (below_step HB1.out hb2)
  clear hL2 hb2
  go_wp2_with fail
  refine HK.out.mono ?_
  rintro e w3 ⟨v3, rfl, hL3, hb3⟩
  have HL3 := Lib.hid hL3; have HL1 := Lib.hid (HL1.out.below hb3); have HB3 := Lib.hid (below_step HB2.out hb3)
  clear hL3 hb3 HK
  go_wp2_with fail
  refine (known_next w3).mono ?_
  rintro e w4 ⟨rfl, hb4⟩
  have HL3 := Lib.hid (HL3.out.below hb4); have HL1 := Lib.hid (HL1.out.below hb4); have HB4 := Lib.hid (below_step HB3.out hb4)
  clear hb4
  go_wp2_with fail
  refine (known_parse w4 (HD.out.below HB4.out)).mono ?_
  rintro e w5 ⟨v5, rfl, hb5⟩
  have HL3 := Lib.hid (HL3.out.below hb5); have HL1 := Lib.hid (HL1.out.below hb5); have HB5 := Lib.hid (below_step HB4.out hb5)
  clear hb5
  go_wp2_with fail
  refine (known_text1 _ (HD.out.below HB5.out) HL1.out).mono ?_
  rintro e w6 ⟨rfl, hb6⟩
  have HL3 := Lib.hid (HL3.out.below hb6); have HB6 := Lib.hid (below_step HB5.out hb6)
  clear hb6
  go_wp2_with fail
  refine (known_text2 _ (HD.out.below HB6.out) HL3.out).mono ?_
  rintro e w7 ⟨rfl, hb7⟩
  have HB7 := Lib.hid (below_step HB6.out hb7)
  clear hb7
  go_wp2_with fail
  go_ret
  exact ⟨rfl, HB7.out⟩

end Go.Proofs.YtnfdppkbbfdmnaaGreatDoor.PD

namespace Go.Proofs.YtnfdppkbbfdmnaaGreatDoor.PD
open Go.RowKit Go.Proofs.YtnfdppkbbfdmnaaGreatDoorW.PrintWords Go.Proofs.YtnfdppkbbfdmnaaGreatDoorW.PrintLast Go.Proofs.YtnfdppkbbfdmnaaGreatDoorW.PrintMore
set_option linter.unusedVariables false
set_option linter.unusedSimpArgs false
/-! ### DomMakes -/
theorem alike_eq {v1 v2 : Value} (l : List S57) (w : World) (h1 : Lst w v1 l) (h2 : Lst w v2 l) (hm : l.length ≤ 4096) :
    Calls Tryz.prog 16 #[v1, v2] w fun e w' => e = .returned (.bool true) ∧ Below w.heap.size w w' := by
  refine (Alike_ref l l w h1 h2 (by omega)).mono ?_
  rintro e w' ⟨r, rfl, hr, hb⟩
  rw [hr.2 rfl]
  exact ⟨rfl, hb⟩
end Go.Proofs.YtnfdppkbbfdmnaaGreatDoor.PD

namespace Go.Proofs.YtnfdppkbbfdmnaaGreatDoor.PD
open Go.RowKit Go.Proofs.YtnfdppkbbfdmnaaGreatDoorW.PrintWords Go.Proofs.YtnfdppkbbfdmnaaGreatDoorW.PrintLast Go.Proofs.YtnfdppkbbfdmnaaGreatDoorW.PrintMore
set_option linter.unusedVariables false
set_option linter.unusedSimpArgs false
/-! ### DomTexts -/
theorem parseS_le (s : ByteArray) : (parseS s).1.length ≤ 4096 := by
  unfold parseS
  split
  · exact Nat.zero_le _
  · split
    · exact Nat.zero_le _
    · cases parseAll (partsOf s) [] with
      | none => exact Nat.zero_le _
      | some l =>
        unfold parseO
        dsimp only
        split
        · rename_i h
          exact right_le h.1
        · exact Nat.zero_le _
theorem parse_back {l : List S57} (h : rightS l = true) (hz : (textT l).size ≤ 65536) : parseS (textT l) = (l, 0) := by
  cases l with
  | nil => rfl
  | cons r t => exact parse_text h (by simp) hz
set_option maxRecDepth 100000 in
set_option maxHeartbeats 16000000 in
theorem texts_wrong {v : Value} (l : List S57) (s : ByteArray) (w : World) (hd : DomLaid w) (h1 : Lst w v l) (hz : s.size ≤ 140737488351232) (hR : rightS l = false) :
    Calls Tryz.prog 4 #[v, .string s] w fun e w' => e = .returned (.bool true) ∧ Below w.heap.size w w' := by
  have HD := Lib.hid hd; have H1 := Lib.hid h1
  have KT := Lib.hid (fun v W h hd => Text_calls (v := v) l W h hd); have KTR := Lib.hid (fun v W h hd => Text_ref (v := v) l W h hd)
  have KP := Lib.hid (fun W hd => Parse_calls s hz W hd); have KPR := Lib.hid (fun W hd => Parse_ref s hz W hd)
  have KR := Lib.hid (fun v W h => Right_ref (v := v) l W h)
  have hp0 := parseS_le s
  obtain ⟨⟨p1, p2⟩, hp⟩ : ∃ p, parseS s = p := ⟨_, rfl⟩
  rw [hp] at KP KPR hp0
  clear hd h1 hp
  rw [hR] at KR
  clear hR
  generalize textT (takenL l) = T at *
  go_enter Tryz.func4, Tryz.ntmps4
  go_wp2_with fail
  refine (KT.out _ _ H1.out HD.out).mono ?_
  rintro e w1 ⟨rfl, hb1⟩
  replace HD := Lib.hid (HD.out.below hb1)
  replace H1 := Lib.hid (H1.out.below hb1)
  have HB1 := Lib.hid hb1
  clear hb1
  go_wp2_with fail
  refine (KP.out _ HD.out).mono ?_
  rintro e w2 ⟨x2, rfl, hA, hb2⟩
  replace HD := Lib.hid (HD.out.below hb2)
  replace H1 := Lib.hid (H1.out.below hb2)
  have HB2 := Lib.hid (below_step HB1.out hb2)
  have HA := Lib.hid hA
  clear hb2 hA
  go_wp2_with fail
  refine (KPR.out _ HD.out).mono ?_
  rintro e w3 ⟨x3, rfl, hA2, hb3⟩
  replace HD := Lib.hid (HD.out.below hb3)
  replace H1 := Lib.hid (H1.out.below hb3)
  replace HA := Lib.hid (HA.out.below hb3)
  have HB3 := Lib.hid (below_step HB2.out hb3)
  have HA2 := Lib.hid hA2
  clear hb3 hA2
  go_wp2_with fail
  refine (KTR.out _ _ H1.out HD.out).mono ?_
  rintro e w4 ⟨rfl, hb4⟩
  replace HD := Lib.hid (HD.out.below hb4)
  replace H1 := Lib.hid (H1.out.below hb4)
  replace HA := Lib.hid (HA.out.below hb4)
  replace HA2 := Lib.hid (HA2.out.below hb4)
  have HB4 := Lib.hid (below_step HB3.out hb4)
  clear hb4
  go_wp2_with fail
  refine (alike_eq _ _ HA.out.lst HA2.out.lst hp0).mono ?_
  rintro e w5 ⟨rfl, hb5⟩
  replace HD := Lib.hid (HD.out.below hb5)
  replace H1 := Lib.hid (H1.out.below hb5)
  replace HA := Lib.hid (HA.out.below hb5)
  replace HA2 := Lib.hid (HA2.out.below hb5)
  have HB5 := Lib.hid (below_step HB4.out hb5)
  clear hb5
  go_wp2_with fail
  refine (KR.out _ _ H1.out).mono ?_
  rintro e w6 ⟨rfl, hb6⟩
  replace HD := Lib.hid (HD.out.below hb6)
  replace H1 := Lib.hid (H1.out.below hb6)
  replace HA := Lib.hid (HA.out.below hb6)
  replace HA2 := Lib.hid (HA2.out.below hb6)
  have HB6 := Lib.hid (below_step HB5.out hb6)
  clear hb6
  go_wp2_with fail
  refine (known_calls _ HD.out).mono ?_
  rintro e w7 ⟨rfl, hb7⟩
  replace HD := Lib.hid (HD.out.below hb7)
  replace H1 := Lib.hid (H1.out.below hb7)
  replace HA := Lib.hid (HA.out.below hb7)
  replace HA2 := Lib.hid (HA2.out.below hb7)
  have HB7 := Lib.hid (below_step HB6.out hb7)
  clear hb7
  go_wp2_with fail
  go_ret
  exact ⟨rfl, HB7.out⟩
set_option maxRecDepth 100000 in
set_option maxHeartbeats 16000000 in
theorem texts_long {v : Value} (l : List S57) (s : ByteArray) (w : World) (hd : DomLaid w) (h1 : Lst w v l) (hz : s.size ≤ 140737488351232) (hR : rightS l = true) (hT : 65536 < (textT l).size) :
    Calls Tryz.prog 4 #[v, .string s] w fun e w' => e = .returned (.bool true) ∧ Below w.heap.size w w' := by
  have HD := Lib.hid hd; have H1 := Lib.hid h1
  have KT := Lib.hid (fun v W h hd => Text_calls (v := v) l W h hd); have KTR := Lib.hid (fun v W h hd => Text_ref (v := v) l W h hd)
  have KP := Lib.hid (fun W hd => Parse_calls s hz W hd); have KPR := Lib.hid (fun W hd => Parse_ref s hz W hd)
  have KR := Lib.hid (fun v W h => Right_ref (v := v) l W h)
  have hp0 := parseS_le s
  obtain ⟨⟨p1, p2⟩, hp⟩ : ∃ p, parseS s = p := ⟨_, rfl⟩
  rw [hp] at KP KPR hp0
  clear hd h1 hp
  rw [hR] at KR
  rw [takenL_of hR] at KT KTR
  clear hR
  generalize textT l = T at *
  go_enter Tryz.func4, Tryz.ntmps4
  go_wp2_with fail
  refine (KT.out _ _ H1.out HD.out).mono ?_
  rintro e w1 ⟨rfl, hb1⟩
  replace HD := Lib.hid (HD.out.below hb1)
  replace H1 := Lib.hid (H1.out.below hb1)
  have HB1 := Lib.hid hb1
  clear hb1
  go_wp2_with fail
  refine (KP.out _ HD.out).mono ?_
  rintro e w2 ⟨x2, rfl, hA, hb2⟩
  replace HD := Lib.hid (HD.out.below hb2)
  replace H1 := Lib.hid (H1.out.below hb2)
  have HB2 := Lib.hid (below_step HB1.out hb2)
  have HA := Lib.hid hA
  clear hb2 hA
  go_wp2_with fail
  refine (KPR.out _ HD.out).mono ?_
  rintro e w3 ⟨x3, rfl, hA2, hb3⟩
  replace HD := Lib.hid (HD.out.below hb3)
  replace H1 := Lib.hid (H1.out.below hb3)
  replace HA := Lib.hid (HA.out.below hb3)
  have HB3 := Lib.hid (below_step HB2.out hb3)
  have HA2 := Lib.hid hA2
  clear hb3 hA2
  go_wp2_with fail
  refine (KTR.out _ _ H1.out HD.out).mono ?_
  rintro e w4 ⟨rfl, hb4⟩
  replace HD := Lib.hid (HD.out.below hb4)
  replace H1 := Lib.hid (H1.out.below hb4)
  replace HA := Lib.hid (HA.out.below hb4)
  replace HA2 := Lib.hid (HA2.out.below hb4)
  have HB4 := Lib.hid (below_step HB3.out hb4)
  clear hb4
  go_wp2_with fail
  refine (alike_eq _ _ HA.out.lst HA2.out.lst hp0).mono ?_
  rintro e w5 ⟨rfl, hb5⟩
  replace HD := Lib.hid (HD.out.below hb5)
  replace H1 := Lib.hid (H1.out.below hb5)
  replace HA := Lib.hid (HA.out.below hb5)
  replace HA2 := Lib.hid (HA2.out.below hb5)
  have HB5 := Lib.hid (below_step HB4.out hb5)
  clear hb5
  go_wp2_with fail
  refine (KR.out _ _ H1.out).mono ?_
  rintro e w6 ⟨rfl, hb6⟩
  replace HD := Lib.hid (HD.out.below hb6)
  replace H1 := Lib.hid (H1.out.below hb6)
  replace HA := Lib.hid (HA.out.below hb6)
  replace HA2 := Lib.hid (HA2.out.below hb6)
  have HB6 := Lib.hid (below_step HB5.out hb6)
  clear hb6
  go_wp2_with fail
  refine (known_calls _ HD.out).mono ?_
  rintro e w7 ⟨rfl, hb7⟩
  replace HD := Lib.hid (HD.out.below hb7)
  replace H1 := Lib.hid (H1.out.below hb7)
  replace HA := Lib.hid (HA.out.below hb7)
  replace HA2 := Lib.hid (HA2.out.below hb7)
  have HB7 := Lib.hid (below_step HB6.out hb7)
  clear hb7
  go_wp2_with fail
  go_ret
  exact ⟨rfl, HB7.out⟩
set_option maxRecDepth 100000 in
set_option maxHeartbeats 16000000 in
theorem texts_back {v : Value} (l : List S57) (s : ByteArray) (w : World) (hd : DomLaid w) (h1 : Lst w v l) (hz : s.size ≤ 140737488351232) (hR : rightS l = true) (hT : (textT l).size ≤ 65536) :
    Calls Tryz.prog 4 #[v, .string s] w fun e w' => e = .returned (.bool true) ∧ Below w.heap.size w w' := by
  have HD := Lib.hid hd; have H1 := Lib.hid h1
  have KT := Lib.hid (fun v W h hd => Text_calls (v := v) l W h hd); have KTR := Lib.hid (fun v W h hd => Text_ref (v := v) l W h hd)
  have KP := Lib.hid (fun W hd => Parse_calls s hz W hd); have KPR := Lib.hid (fun W hd => Parse_ref s hz W hd)
  have KR := Lib.hid (fun v W h => Right_ref (v := v) l W h)
  have hp0 := parseS_le s
  obtain ⟨⟨p1, p2⟩, hp⟩ : ∃ p, parseS s = p := ⟨_, rfl⟩
  rw [hp] at KP KPR hp0
  clear hd h1 hp
  have KPT := Lib.hid (fun W hd => Parse_calls (textT l) (by omega) W hd)
  rw [parse_back hR hT] at KPT
  have hl0 := right_le hR
  rw [hR] at KR
  rw [takenL_of hR] at KT KTR
  clear hR
  generalize textT l = T at *
  go_enter Tryz.func4, Tryz.ntmps4
  go_wp2_with fail
  refine (KT.out _ _ H1.out HD.out).mono ?_
  rintro e w1 ⟨rfl, hb1⟩
  replace HD := Lib.hid (HD.out.below hb1)
  replace H1 := Lib.hid (H1.out.below hb1)
  have HB1 := Lib.hid hb1
  clear hb1
  go_wp2_with fail
  refine (KP.out _ HD.out).mono ?_
  rintro e w2 ⟨x2, rfl, hA, hb2⟩
  replace HD := Lib.hid (HD.out.below hb2)
  replace H1 := Lib.hid (H1.out.below hb2)
  have HB2 := Lib.hid (below_step HB1.out hb2)
  have HA := Lib.hid hA
  clear hb2 hA
  go_wp2_with fail
  refine (KPR.out _ HD.out).mono ?_
  rintro e w3 ⟨x3, rfl, hA2, hb3⟩
  replace HD := Lib.hid (HD.out.below hb3)
  replace H1 := Lib.hid (H1.out.below hb3)
  replace HA := Lib.hid (HA.out.below hb3)
  have HB3 := Lib.hid (below_step HB2.out hb3)
  have HA2 := Lib.hid hA2
  clear hb3 hA2
  go_wp2_with fail
  refine (KTR.out _ _ H1.out HD.out).mono ?_
  rintro e w4 ⟨rfl, hb4⟩
  replace HD := Lib.hid (HD.out.below hb4)
  replace H1 := Lib.hid (H1.out.below hb4)
  replace HA := Lib.hid (HA.out.below hb4)
  replace HA2 := Lib.hid (HA2.out.below hb4)
  have HB4 := Lib.hid (below_step HB3.out hb4)
  clear hb4
  go_wp2_with fail
  refine (alike_eq _ _ HA.out.lst HA2.out.lst hp0).mono ?_
  rintro e w5 ⟨rfl, hb5⟩
  replace HD := Lib.hid (HD.out.below hb5)
  replace H1 := Lib.hid (H1.out.below hb5)
  replace HA := Lib.hid (HA.out.below hb5)
  replace HA2 := Lib.hid (HA2.out.below hb5)
  have HB5 := Lib.hid (below_step HB4.out hb5)
  clear hb5
  go_wp2_with fail
  refine (KR.out _ _ H1.out).mono ?_
  rintro e w6 ⟨rfl, hb6⟩
  replace HD := Lib.hid (HD.out.below hb6)
  replace H1 := Lib.hid (H1.out.below hb6)
  replace HA := Lib.hid (HA.out.below hb6)
  replace HA2 := Lib.hid (HA2.out.below hb6)
  have HB6 := Lib.hid (below_step HB5.out hb6)
  clear hb6
  go_wp2_with fail
  refine (KPT.out _ HD.out).mono ?_
  rintro e w7 ⟨x7, rfl, hC, hb7⟩
  replace HD := Lib.hid (HD.out.below hb7)
  replace H1 := Lib.hid (H1.out.below hb7)
  replace HA := Lib.hid (HA.out.below hb7)
  replace HA2 := Lib.hid (HA2.out.below hb7)
  have HB7 := Lib.hid (below_step HB6.out hb7)
  have HC := Lib.hid hC
  clear hb7 hC
  go_wp2_with fail
  refine (alike_eq _ _ HC.out.lst H1.out hl0).mono ?_
  rintro e w8 ⟨rfl, hb8⟩
  replace HD := Lib.hid (HD.out.below hb8)
  replace H1 := Lib.hid (H1.out.below hb8)
  replace HA := Lib.hid (HA.out.below hb8)
  replace HA2 := Lib.hid (HA2.out.below hb8)
  replace HC := Lib.hid (HC.out.below hb8)
  have HB8 := Lib.hid (below_step HB7.out hb8)
  clear hb8
  go_wp2_with fail
  refine (known_calls _ HD.out).mono ?_
  rintro e w9 ⟨rfl, hb9⟩
  replace HD := Lib.hid (HD.out.below hb9)
  replace H1 := Lib.hid (H1.out.below hb9)
  replace HA := Lib.hid (HA.out.below hb9)
  replace HA2 := Lib.hid (HA2.out.below hb9)
  replace HC := Lib.hid (HC.out.below hb9)
  have HB9 := Lib.hid (below_step HB8.out hb9)
  clear hb9
  go_wp2_with fail
  go_ret
  exact ⟨rfl, HB9.out⟩
theorem texts_calls {v : Value} (l : List S57) (s : ByteArray) (w : World) (hd : DomLaid w) (h1 : Lst w v l) (hz : s.size ≤ 140737488351232) :
    Calls Tryz.prog 4 #[v, .string s] w fun e w' => e = .returned (.bool true) ∧ Below w.heap.size w w' := by
  cases hR : rightS l with
  | false => exact texts_wrong l s w hd h1 hz hR
  | true =>
    by_cases hT : (textT l).size ≤ 65536
    · exact texts_back l s w hd h1 hz hR hT
    · exact texts_long l s w hd h1 hz hR (by omega)

end Go.Proofs.YtnfdppkbbfdmnaaGreatDoor.PD
