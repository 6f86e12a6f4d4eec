/- Parts of the laws of sets and branch: functions of the program, each with the proof of what it answers; the conditions are those of each theorem. -/
import Derived.Test.YtjeomiooheoegaaGreatDoorC10
import Derived.Lib.ParseIntBCases
import Derived.Lib.ParseIntBTie
import Derived.Test.YtjeomiooheoegaaGreatDoorC3
import Derived.Test.YtjeomiooheoegaaGreatDoorC8
import Derived.Test.YtjeomiooheoegaaGreatDoorC6
namespace Go.Proofs.YtjeomiooheoegaaGreatDoor.PD
open Go.RowKit Go.Proofs.YtjeomiooheoegaaGreatDoorW.PrintWords Go.Proofs.YtjeomiooheoegaaGreatDoorW.PrintLast Go.Proofs.YtjeomiooheoegaaGreatDoorW.PrintMore
set_option linter.unusedVariables false
set_option linter.unusedSimpArgs false
/-! ### numbers, read back -/
def digitB (c : UInt8) : Bool := 48 ≤ c && c ≤ 57
def decV (l : List UInt8) : Nat := l.foldl (fun n c => 10 * n + (c.toNat - 48)) 0
theorem decV_go (l : List UInt8) : ∀ acc, l.foldl (fun n c => 10 * n + (c.toNat - 48)) acc ≥ acc := by
  induction l with
  | nil => intro acc; exact Nat.le_refl _
  | cons c t ih => intro acc; rw [List.foldl_cons]; have := ih (10 * acc + (c.toNat - 48)); omega
theorem digitB_nat {c : UInt8} (h : digitB c = true) : 48 ≤ c.toNat ∧ c.toNat ≤ 57 := by
  unfold digitB at h
  rw [Bool.and_eq_true, decide_eq_true_iff, decide_eq_true_iff, UInt8.le_iff_toNat_le, UInt8.le_iff_toNat_le] at h
  exact h
theorem uintM_digits : ∀ (l : List UInt8) (acc : Nat), (∀ c ∈ l, digitB c = true) →
    Lib.parseUintM 18446744073709551615 acc l = .ok (l.foldl (fun n c => 10 * n + (c.toNat - 48)) acc) ∨ (Lib.parseUintM 18446744073709551615 acc l = .range ∧ 18446744073709551615 < l.foldl (fun n c => 10 * n + (c.toNat - 48)) acc)
  | [], acc, _ => .inl rfl
  | c :: t, acc, h => by
    have hc := digitB_nat (h c (by simp))
    rw [Lib.parseUintM, if_pos hc, List.foldl_cons]
    have hg := decV_go t (10 * acc + (c.toNat - 48))
    split
    · exact .inr ⟨rfl, by omega⟩
    · split
      · exact .inr ⟨rfl, by omega⟩
      · rw [Nat.mul_comm acc 10]
        exact uintM_digits t _ (fun x hx => h x (by simp [hx]))
/-- what strconv.ParseInt says of digits behind a '-', or none -/
theorem parse_digits (b : Bool) (ds : List UInt8) (h : ∀ c ∈ ds, digitB c = true) :
    (ds = [] ∨ 1000000000 < decV ds) ∧ (Lib.parseIntB 64 (if b then 45 :: ds else ds) = Lib.parseIntB 64 [] ∨ Lib.parseIntB 64 (if b then 45 :: ds else ds) = .range) ∨
    ds ≠ [] ∧ Lib.parseIntB 64 (if b then 45 :: ds else ds) = .ok (if b then -(decV ds : Int) else decV ds) := by
  cases ds with
  | nil => exact .inl ⟨.inl rfl, .inl (by cases b <;> rfl)⟩
  | cons c t =>
    have hc := digitB_nat (h c (by simp))
    have hu : Lib.parseUintB 64 (c :: t) = Lib.parseUintM 18446744073709551615 0 (c :: t) := by
      unfold Lib.parseUintB
      rw [if_neg (by simp)]
    have hm := uintM_digits (c :: t) 0 h
    have hv : decV (c :: t) = (c :: t).foldl (fun n c => 10 * n + (c.toNat - 48)) 0 := rfl
    rw [← hv, ← hu] at hm
    have e63 : 2 ^ (64 - 1) = 9223372036854775808 := by decide
    cases b with
    | false =>
      rw [if_neg (by decide), if_neg (by decide), Lib.parseIntB_plain 64 c t (by omega) (by omega), e63]
      rcases hm with hm | ⟨hm, hx⟩
      · rw [hm]
        unfold Lib.signlessC
        by_cases hb : 9223372036854775808 ≤ decV (c :: t)
        · exact .inl ⟨.inr (by omega), .inr (by dsimp only; rw [if_pos hb])⟩
        · exact .inr ⟨by simp, by dsimp only; rw [if_neg hb]⟩
      · rw [hm]
        exact .inl ⟨.inr (by omega), .inr rfl⟩
    | true =>
      rw [if_pos rfl, if_pos rfl, Lib.parseIntB_minus, e63]
      rcases hm with hm | ⟨hm, hx⟩
      · rw [hm]
        unfold Lib.signedC
        by_cases hb : 9223372036854775808 < decV (c :: t)
        · exact .inl ⟨.inr (by omega), .inr (by dsimp only; rw [if_pos hb])⟩
        · exact .inr ⟨by simp, by dsimp only; rw [if_neg hb]⟩
      · rw [hm]
        exact .inl ⟨.inr (by omega), .inr rfl⟩
theorem decD_all (n : Nat) : (∀ c ∈ Lib.decDigits n, digitB c = true) ∧ Lib.decDigits n ≠ [] ∧ decV (Lib.decDigits n) = n := by
  induction n using Nat.strongRecOn with
  | ind n ih =>
    have hd : ∀ m, m < 10 → digitB (UInt8.ofNat (48 + m)) = true ∧ (UInt8.ofNat (48 + m)).toNat - 48 = m := by
      intro m hm
      have e : (UInt8.ofNat (48 + m)).toNat = 48 + m := by rw [UInt8.toNat_ofNat']; omega
      refine ⟨?_, by omega⟩
      unfold digitB
      rw [Bool.and_eq_true, decide_eq_true_iff, decide_eq_true_iff, UInt8.le_iff_toNat_le, UInt8.le_iff_toNat_le, e]
      exact ⟨by show 48 ≤ _; omega, by show _ ≤ 57; omega⟩
    unfold Lib.decDigits
    split
    · rename_i h
      obtain ⟨h1, h2⟩ := hd n h
      refine ⟨fun c hc => by rw [List.mem_singleton] at hc; subst hc; exact h1, by simp, ?_⟩
      show 10 * 0 + _ = n
      rw [h2]; omega
    · rename_i h
      obtain ⟨q1, q2, q3⟩ := ih (n / 10) (by omega)
      obtain ⟨h1, h2⟩ := hd (n % 10) (by omega)
      refine ⟨fun c hc => ?_, by simp, ?_⟩
      · rw [List.mem_append, List.mem_singleton] at hc
        rcases hc with hc | rfl
        · exact q1 c hc
        · exact h1
      · unfold decV at q3 ⊢
        rw [List.foldl_append, q3]
        show 10 * (n / 10) + _ = n
        rw [h2]; omega
theorem parse_itoa (n : Int) (h0 : -1000000 ≤ n) (h1 : n ≤ 1000000) : Lib.parseIntB 64 (Lib.itoa n) = .ok n := by
  obtain ⟨d1, d2, d3⟩ := decD_all n.natAbs
  unfold Lib.itoa
  split
  · rename_i h
    rcases parse_digits true (Lib.decDigits n.natAbs) d1 with ⟨h1, _⟩ | ⟨_, h2⟩
    · rcases h1 with h1 | h1
      · exact absurd h1 d2
      · rw [d3] at h1; omega
    · rw [if_pos rfl, if_pos rfl, d3] at h2
      rw [h2]
      congr 1
      omega
  · rename_i h
    rw [show n.toNat = n.natAbs by omega]
    rcases parse_digits false (Lib.decDigits n.natAbs) d1 with ⟨h1, _⟩ | ⟨_, h2⟩
    · rcases h1 with h1 | h1
      · exact absurd h1 d2
      · rw [d3] at h1; omega
    · rw [if_neg (by decide), if_neg (by decide), d3] at h2
      rw [h2]
      congr 1
      omega

end Go.Proofs.YtjeomiooheoegaaGreatDoor.PD

namespace Go.Proofs.YtjeomiooheoegaaGreatDoor.PD
open Go.RowKit Go.Proofs.YtjeomiooheoegaaGreatDoorW.PrintWords Go.Proofs.YtjeomiooheoegaaGreatDoorW.PrintLast Go.Proofs.YtjeomiooheoegaaGreatDoorW.PrintMore
set_option linter.unusedVariables false
set_option linter.unusedSimpArgs false
/-- single values as ranges -/
def points (v : List Int) : List S119 := v.map fun x => ⟨x, x⟩
/-! ### ParseInt -/
def PInt (x : List UInt8) (e : Ending) : Prop :=
  (∃ v, Lib.parseIntB 64 x = .ok v ∧ e = .returned (.tuple #[.int .i64 v, .nilIface])) ∨
  ((∀ v, Lib.parseIntB 64 x ≠ .ok v) ∧ ∃ n a, e = .returned (.tuple #[.int .i64 n, .iface 212 (.pointer (some a))]))
theorem pint_calls (s : ByteArray) (hz : s.size ≤ 140737488351232) (w : World) (hl : DomLaid w) :
    Calls Tryz.prog 134 #[.string s, .int .i64 10, .int .i64 64] w fun e w' => PInt s.data.toList e ∧ Below w.heap.size w w' := by
  obtain ⟨tp, p, hv⟩ := hl.syn
  obtain ⟨tq, q, hq⟩ := hl.rng
  rcases hp : Lib.parseIntB 64 s.data.toList with v | _ | _
  · refine (Tryz.strconv_ParseInt_10_at64_ok s (by omega) v hp w).mono ?_
    rintro e w' ⟨rfl, hw⟩
    refine ⟨.inl ⟨v, hp, rfl⟩, ?_⟩
    rcases hw with rfl | ⟨t, rfl⟩
    · exact Below.refl _ _
    · exact Go.Joins.below_bytesWorld _ _ _ _ (Nat.le_refl _)
  · refine (Tryz.strconv_ParseInt_10_at64_syntax_var s (by omega) hp tp p w hv).mono ?_
    rintro e w' ⟨N, rfl, _, _, hb⟩
    exact ⟨.inr ⟨fun v h => (by rw [hp] at h; cases h), _, _, rfl⟩, hb⟩
  · refine (Tryz.strconv_ParseInt_10_at64_range_var s (by omega) hp tq q w hq).mono ?_
    rintro e w' ⟨N, rfl, _, _, hb⟩
    exact ⟨.inr ⟨fun v h => (by rw [hp] at h; cases h), _, _, rfl⟩, hb⟩
theorem indexT_at (b : Nat) (m c : Nat) (i : Int) (h : 0 ≤ i ∧ i < m) (W : World) : (Instr.indexAt 125 (.slice (some ⟨b, 0, none⟩) m c) (.int .i64 i)).run Tryz.prog W = .ok (.pointer (some ⟨b, i.toNat, none⟩)) W := by
  obtain ⟨h1, h2⟩ := h
  rw [run_indexAt_slice (k := .i64) (h := by kernel_rfl)]
  simp [go_sem, h1, h2, add_zero_off]
/-- two texts held against each other, as the walk spells it -/
theorem str_eqB (a b : ByteArray) : (a.toList == b.toList) = decide (a = b) := by
  rw [Bool.eq_iff_iff, beq_iff_eq, decide_eq_true_iff, ByteArray.toList_eq, ByteArray.toList_eq]
  constructor
  · intro h
    cases a; cases b
    congr 1
    exact Array.toList_inj.1 h
  · rintro rfl
    rfl
theorem split_size (sep : ByteArray) : ∀ (k : Nat) (s : ByteArray), ∀ x ∈ Lib.splitB sep 0 k s, x.size ≤ s.size
  | 0, s, x, h => by
    rw [Lib.splitB_zero, List.mem_singleton] at h
    subst h
    exact Nat.le_refl _
  | k + 1, s, x, h => by
    unfold Lib.splitB at h
    split at h
    · rw [List.mem_singleton] at h
      subst h
      exact Nat.le_refl _
    · rw [List.mem_cons] at h
      rcases h with rfl | h
      · rw [ByteArray.size_extract]; omega
      · have := split_size sep k _ x h
        rw [ByteArray.size_extract] at this
        omega
def partsOf (s : ByteArray) : List ByteArray := Lib.splitB ⟨#[44]⟩ 0 (Lib.countB s ⟨#[44]⟩) s
theorem splits_count (s : ByteArray) : (partsOf s).length = Lib.countB s ⟨#[44]⟩ + 1 := Lib.splitB_all ⟨#[44]⟩ (by decide) 0 _ s rfl
theorem split_calls (s : ByteArray) (hz : s.size ≤ 65536) (w : World) (hl : DomLaid w) :
    Calls Tryz.prog 133 #[.string s, .string ⟨#[44]⟩] w fun e w' => e = .returned (.slice (some ⟨w.heap.size, 0, none⟩) (partsOf s).length (partsOf s).length) ∧ (∀ k (h : k < (partsOf s).length), w'.cell? ⟨w.heap.size, k, none⟩ = some (.string (partsOf s)[k])) ∧ w.heap.size < w'.heap.size ∧ Below w.heap.size w w' := by
  obtain ⟨m, hm⟩ := hl.mx
  refine (Tryz.strings_Split s ⟨#[44]⟩ m w (by omega) hm (by decide)).mono ?_
  rintro e w' ⟨rfl, rfl⟩
  refine ⟨by rw [splits_count], fun k h => ?_, by simp, (Below.refl _ _).alloc (Nat.le_refl _) _⟩
  refine (blk_cell (World.alloc_heap_new _ _) k).trans ?_
  show ((List.map Value.string (partsOf s)).toArray)[k]? = _
  rw [List.getElem?_toArray, List.getElem?_map, List.getElem?_eq_getElem h]
  rfl

end Go.Proofs.YtjeomiooheoegaaGreatDoor.PD

namespace Go.Proofs.YtjeomiooheoegaaGreatDoor.PD
open Go.RowKit Go.Proofs.YtjeomiooheoegaaGreatDoorW.PrintWords Go.Proofs.YtjeomiooheoegaaGreatDoorW.PrintLast Go.Proofs.YtjeomiooheoegaaGreatDoorW.PrintMore
set_option linter.unusedVariables false
set_option linter.unusedSimpArgs false
/-! ### a set as text -/
theorem rng_point (n : Int) : rngT ⟨n, n⟩ = decB n := by
  unfold rngT
  rw [if_neg (by show ¬ n < n; omega)]
def setT (l : List Int) : ByteArray := ⟨#[123]⟩ ++ (upT (points l) ++ ⟨#[125]⟩)
theorem parts_points (l : List Int) : partsT (points l) = l.map decB := by
  unfold partsT points
  rw [List.map_map]
  refine List.map_congr_left fun x _ => ?_
  exact rng_point x
theorem points_in {l : List Int} (h : ∀ x ∈ l, -1000000 ≤ x ∧ x ≤ 1000000) : ∀ s ∈ points l, -1000000 ≤ s.f0 ∧ s.f0 ≤ s.f1 ∧ s.f1 ≤ 1000000 := by
  intro s hs
  unfold points at hs
  rw [List.mem_map] at hs
  obtain ⟨x, hx, rfl⟩ := hs
  have := h x hx
  dsimp only
  omega
theorem points_length (l : List Int) : (points l).length = l.length := by unfold points; rw [List.length_map]
theorem upT_points_size {l : List Int} (h : setS l = true) : (upT (points l)).size ≤ 1216 := by
  have q := upT_size (points l) (points_in (set_in h))
  rw [points_length] at q
  have := set_len h
  omega
theorem setT_size {l : List Int} (h : setS l = true) : (setT l).size ≤ 1300 := by
  have q := upT_points_size h
  have e1 : (⟨#[123]⟩ : ByteArray).size = 1 := rfl
  have e2 : (⟨#[125]⟩ : ByteArray).size = 1 := rfl
  unfold setT
  rw [ByteArray.size_append, ByteArray.size_append, e1, e2]
  omega
def parseInts : List ByteArray → List Int → Option (List Int)
  | [], acc => some acc
  | x :: xs, acc => match Lib.parseIntB 64 x.data.toList with
    | .ok n => parseInts xs (acc ++ [n])
    | _ => none
theorem decB_list (n : Int) : (decB n).data.toList = Lib.itoa n := by
  unfold decB
  rfl
theorem parseInts_ok : ∀ (l acc : List Int), (∀ x ∈ l, -1000000 ≤ x ∧ x ≤ 1000000) → parseInts (l.map decB) acc = some (acc ++ l)
  | [], acc, _ => by
    show some acc = _
    rw [List.append_nil]
  | x :: l, acc, h => by
    have hx := h x (by simp)
    have e : (x :: l).map decB = decB x :: l.map decB := rfl
    rw [e, parseInts, decB_list, parse_itoa x hx.1 hx.2]
    simp only
    rw [parseInts_ok l _ (fun y hy => h y (by simp [hy])), List.append_assoc]
    rfl
def checkT (s : ByteArray) : Option (List Int) → List Int × Int
  | none => ([], 20)
  | some l => if setS l = true ∧ setT l = s then (l, 0) else ([], 20)
def cutP (s : ByteArray) : ByteArray := ⟨(Lib.trimPrefix s.data.toList [123]).toArray⟩
def cutS (s : ByteArray) : ByteArray := ⟨(Lib.trimSuffix s.data.toList [125]).toArray⟩
def innerO (t : ByteArray) : Option (List Int) := if t = ⟨#[]⟩ then some [] else parseInts (Lib.splitB ⟨#[44]⟩ 0 (Lib.countB t ⟨#[44]⟩) t) []
def parseP (s : ByteArray) : List Int × Int := if 65536 < s.size then ([], 3) else
  if Lib.hasPrefix s.data.toList [123] = true ∧ Lib.hasSuffix (cutP s).data.toList [125] = true then checkT s (innerO (cutS (cutP s))) else ([], 20)
theorem setT_list (l : List Int) : (setT l).data.toList = 123 :: ((upT (points l)).data.toList ++ [125]) := by
  unfold setT
  rw [ByteArray.data_append, ByteArray.data_append, Array.toList_append, Array.toList_append]
  rfl
theorem cutP_set (l : List Int) : Lib.hasPrefix (setT l).data.toList [123] = true ∧ (cutP (setT l)).data.toList = (upT (points l)).data.toList ++ [125] := by
  have h : Lib.hasPrefix (setT l).data.toList [123] = true := by
    rw [setT_list]
    unfold Lib.hasPrefix
    simp [List.isPrefixOf]
  refine ⟨h, ?_⟩
  unfold cutP Lib.trimPrefix
  rw [if_pos h, setT_list]
  simp
theorem suffix_last (a : List UInt8) (c : UInt8) : Lib.hasSuffix (a ++ [c]) [c] = true := by
  unfold Lib.hasSuffix
  rw [List.isSuffixOf_iff_suffix]
  exact List.suffix_append _ _
theorem cutS_set (l : List Int) : Lib.hasSuffix (cutP (setT l)).data.toList [125] = true ∧ cutS (cutP (setT l)) = upT (points l) := by
  obtain ⟨_, h2⟩ := cutP_set l
  have h : Lib.hasSuffix (cutP (setT l)).data.toList [125] = true := by rw [h2]; exact suffix_last _ _
  refine ⟨h, ?_⟩
  unfold cutS Lib.trimSuffix
  rw [if_pos h, h2]
  have e : ((upT (points l)).data.toList ++ [125]).length - ([125] : List UInt8).length = (upT (points l)).data.toList.length := by simp
  rw [e, List.take_left' rfl]
theorem upT_ne {x : Int} {l : List Int} (hx : -1000000 ≤ x ∧ x ≤ 1000000) : upT (points (x :: l)) ≠ ⟨#[]⟩ := by
  intro e
  have e2 : (upT (points (x :: l))).data.toList = [] := by rw [e]
  have e3 : upT (points (x :: l)) = rngT ⟨x, x⟩ ++ restT (points l) := rfl
  rw [e3, rng_point, ByteArray.data_append, Array.toList_append, List.append_eq_nil_iff, decB_list] at e2
  have := parse_itoa x hx.1 hx.2
  rw [e2.1] at this
  cases this
theorem inner_set {l : List Int} (h : setS l = true) : innerO (upT (points l)) = some l := by
  have hin := set_in h
  cases l with
  | nil =>
    have e : upT (points []) = ⟨#[]⟩ := rfl
    unfold innerO
    rw [e, if_pos rfl]
  | cons x l =>
    unfold innerO
    rw [if_neg (upT_ne (hin x (by simp)))]
    have e : upT (points (x :: l)) = textT (⟨x, x⟩ :: points l) := rfl
    have hp : Lib.splitB ⟨#[44]⟩ 0 (Lib.countB (textT (⟨x, x⟩ :: points l)) ⟨#[44]⟩) (textT (⟨x, x⟩ :: points l)) = partsT (⟨x, x⟩ :: points l) := split_text ⟨x, x⟩ (points l)
    have hq : partsT (⟨x, x⟩ :: points l) = (x :: l).map decB := parts_points (x :: l)
    rw [e, hp, hq, parseInts_ok _ _ hin, List.nil_append]
/-- what is written is read as it was -/
theorem parse_set {l : List Int} (h : setS l = true) : parseP (setT l) = (l, 0) := by
  have hz := setT_size h
  unfold parseP
  rw [if_neg (by omega), if_pos ⟨(cutP_set l).1, (cutS_set l).1⟩, (cutS_set l).2, inner_set h]
  unfold checkT
  dsimp only
  rw [if_pos ⟨h, rfl⟩]
/-- what is read -/
theorem parse_none {s : ByteArray} (hz : s.size ≤ 65536) (h : ∀ l, setS l = true → setT l ≠ s) : parseP s = ([], 20) := by
  unfold parseP
  rw [if_neg (by omega)]
  split
  · unfold checkT
    split
    · rfl
    · rename_i l _
      rw [if_neg fun q => h l q.1 q.2]
  · rfl
theorem parse_cases {s : ByteArray} (hz : s.size ≤ 65536) : (∃ l, setS l = true ∧ setT l = s ∧ parseP s = (l, 0)) ∨ ((∀ l, setS l = true → setT l ≠ s) ∧ parseP s = ([], 20)) := by
  by_cases h : ∃ l, setS l = true ∧ setT l = s
  · obtain ⟨l, h1, h2⟩ := h
    refine .inl ⟨l, h1, h2, ?_⟩
    rw [← h2]
    exact parse_set h1
  · have h' : ∀ l, setS l = true → setT l ≠ s := fun l h1 h2 => h ⟨l, h1, h2⟩
    exact .inr ⟨h', parse_none hz h'⟩
theorem parse_big {s : ByteArray} (hz : 65536 < s.size) : parseP s = ([], 3) := by
  unfold parseP
  rw [if_pos hz]

end Go.Proofs.YtjeomiooheoegaaGreatDoor.PD

namespace Go.Proofs.YtjeomiooheoegaaGreatDoor.PD
open Go.RowKit Go.Proofs.YtjeomiooheoegaaGreatDoorW.PrintWords Go.Proofs.YtjeomiooheoegaaGreatDoorW.PrintLast Go.Proofs.YtjeomiooheoegaaGreatDoorW.PrintMore
set_option linter.unusedVariables false
set_option linter.unusedSimpArgs false
/-! ### Text of the program -/
theorem decs_take {l : List Int} {k : Nat} (h : k < l.length) : (l.take (k + 1)).map decB = (l.take k).map decB ++ [decB l[k]] := by
  rw [List.take_succ_eq_append_getElem h, List.map_append]
  rfl
theorem join_upT : ∀ (l : List Int), l ≠ [] → (⟨(Lib.join ((l.map decB).map (·.data.toList)) (⟨#[44]⟩ : ByteArray).data.toList).toArray⟩ : ByteArray) = upT (points l)
  | [], h => absurd rfl h
  | x :: l, _ => by
    have h := join_text (t := points (x :: l)) (by rw [points_length]; simp)
    rw [parts_points] at h
    exact h
set_option maxRecDepth 100000 in
set_option maxHeartbeats 8000000 in
theorem Text_calls {v : Value} (l : List Int) (w : World) (h : LstI w v l) (hd : DomLaid w) :
    Calls Tryz.prog 60 #[v] w fun e w' => e = .returned (.string (setT (asL l))) ∧ Below w.heap.size w w' := by
  have HT := Lib.hid (as_calls l w h)
  have hset := asL_set l
  have hlen := set_len hset
  have hmem := set_in hset
  have hups := upT_points_size hset
  have HD := Lib.hid hd
  obtain ⟨i0, hi0, hz0, hz1, hz2⟩ := info_parts Tryz.info9
  obtain ⟨A, c, hv⟩ := h.form
  subst hv
  generalize asL l = t at *
  have HM := Lib.hid hmem
  clear hset hmem hd h
  unfold setT
  obtain ⟨res, hres⟩ : ∃ res, upT (points t) = res := ⟨_, rfl⟩
  rw [hres] at hups ⊢
  have HRES := Lib.hid hres
  clear hres
  have hc1 : (9223372036854775807 < 1 + res.size) = False := eq_false (by omega)
  have hc2 : (9223372036854775807 < 1 + res.size + 1) = False := eq_false (by omega)
  have hassoc := ba_assoc ⟨#[123]⟩ res ⟨#[125]⟩
  rw [← hassoc]
  clear hassoc
  go_enter Tryz.func60, Tryz.ntmps60
  go_wp2_with fail
  refine HT.out.mono ?_
  rintro e w1 ⟨v1, rfl, hL, hb⟩
  have HL := Lib.hid hL; have HB := Lib.hid hb
  have HD1 := Lib.hid (HD.out.below hb)
  obtain ⟨A1, c1, hv1⟩ := hL.form
  subst hv1
  clear hL hb HT
  generalize hm : t.length = m at *
  have HN := Lib.hid hm
  clear hm
  go_wp2_with fail
  go_loopw [3, 9] (fun o i wr => ∃ (k : Nat) (out : List ByteArray), i = .int .i64 k ∧ k ≤ m ∧ out.length ≤ k ∧ Hid ((t.take k).map decB = out) ∧ Hid (RowS wr w1.heap.size o out) ∧ Hid (Below w1.heap.size w1 wr))
    (fun _ i _ => m - (intOf i).toNat)
  case atStart => exact ⟨0, [], rfl, Nat.zero_le _, Nat.zero_le _, Lib.hid rfl, Lib.hid (RowS.nil _ _), Lib.hid (Below.refl _ _)⟩
  case round =>
    obtain ⟨k, out, rfl, hk, hol, hO9, hO, hB⟩ := hrel
    obtain ⟨A0, c0, rfl⟩ := row_form hO.out
    by_cases hkm : k < m
    · have hkt : k < t.length := by rw [HN.out]; exact hkm
      have hLw : LstI wr (.slice A1 m c1) t := HL.out.below hB.out
      obtain ⟨ad, hA, x0⟩ := hLw.at k hkt
      subst hA
      clear hLw
      have hs := HM.out _ (List.getElem_mem hkt)
      have HST := Lib.hid ((decs_take hkt).trans (by rw [hO9.out]))
      generalize t[k] = x at *
      have HX := Lib.hid (fun W (h : DomLaid W) => format_calls x (by omega) (by omega) W h)
      generalize decB x = bx at *
      have hix := fun W => indexI_at ad m c1 (k : Nat) (by omega) W
      simp only [Int.toNat_natCast] at hix
      have hsz := hB.out.size
      have HDW := Lib.hid (HD1.out.below hB.out)
      go_wp2_with fail
      refine (HX.out _ HDW.out).mono ?_
      rintro e w2 ⟨rfl, hb2⟩
      have hO2 := Lib.hid (hO.out.below hb2); have hB2 := Lib.hid (below_step hB.out hb2)
      have hsz2 := hB2.out.size
      clear hb2 x0
      go_wp2_with ((with_reducible refine gate_dst (N := 17) rfl ?_); refine wpList_append_own _ rfl _ _ 125 rfl w1.heap.size 9 i0 _ 1 16 Tryz.underlying125 hi0 hz0 hz1 hz2 rfl (by decide) _ _ _ rfl ((RowS.own hO2.out).alloc _) ⟨_, 0, none⟩ 1 1 [.string bx] rfl rfl (cell_one_at _ _ (by simp) _ _) (by simp [Value.oneCell']) (by simp only [maxLen]; omega) (by omega) (by first | omega | (simp; omega)) ?_; intro v' w4 hown' hgrow _; have hQ1 : Hid (RowS w4 w1.heap.size v' (out ++ [bx])) := Lib.hid (by unfold RowS; rw [List.length_append, List.length_singleton, strs_snoc]; exact hown'); have hQ2 : Hid (Below w1.heap.size w1 w4) := Lib.hid ((hB2.out.alloc hB2.out.size _).grown hgrow (by first | omega | (simp; omega)) (fun j e => own_base (RowS.own hO2.out) j e)); clear hown' hgrow)
      refine ⟨⟨k + 1, out ++ [bx], by rw [Int.natCast_add]; rfl, by omega, by rw [List.length_append, List.length_singleton]; omega, Lib.hid HST.out, hQ1, hQ2⟩, by simp [intOf]; omega⟩
    · obtain rfl : k = m := by omega
      have hall : t.take k = t := List.take_of_length_le (by rw [HN.out]; exact Nat.le_refl _)
      rw [hall] at hO9
      by_cases h0 : k = 0
      · have ht : t = [] := List.length_eq_zero_iff.1 (by rw [HN.out]; exact h0)
        have ho : out = [] := by rw [← hO9.out, ht]; rfl
        have hr : res = ⟨#[]⟩ := by rw [← HRES.out, ht]; rfl
        subst ho hr
        have HB2 := Lib.hid (below_step HB.out hB.out)
        have HJ := Lib.hid (Tryz.strings_Join_none A0 c0 ⟨#[44]⟩ wr)
        clear HRES HN ht hO9 hall hups
        go_wp2_with fail
        refine HJ.out.mono ?_
        rintro e w5 ⟨rfl, rfl⟩
        go_wp2_with fail
        go_ret
        exact ⟨rfl, HB2.out⟩
      · have hol2 : out.length = k := by rw [← hO9.out, List.length_map, HN.out]
        have hrow := hO.out
        rcases hrow.2 with ⟨hv, hn⟩ | ⟨g, cap, cur, hv, hbg, hg, hnc, hcm, hcs, hcur⟩
        · omega
        injection hv with hv1 _ hv2
        subst hv1 hv2
        have hcells : ∀ (j : Nat) (x : ByteArray), out[j]? = some x → wr.cell? ⟨g, 0 + j, none⟩ = some (.string x) := by
          intro j x hj
          rw [Nat.zero_add]
          refine (blk_cell hg j).trans ?_
          have hjl : j < out.length := (List.getElem?_eq_some_iff.1 hj).1
          have e9 : (cur.toList.take (out.length * 1))[j]? = (strs out)[j]? := by rw [hcur]
          rw [List.getElem?_take, if_pos (by omega), Array.getElem?_toList] at e9
          rw [e9]
          unfold strs
          rw [List.getElem?_map, hj]
          rfl
        have hjo := join_upT t (fun e => h0 (by rw [← HN.out, e]; rfl))
        rw [hO9.out] at hjo
        have hjs : (Lib.join (out.map (·.data.toList)) (⟨#[44]⟩ : ByteArray).data.toList).length ≤ 140737488355328 := by
          have e : (Lib.join (out.map (·.data.toList)) (⟨#[44]⟩ : ByteArray).data.toList).length = res.size := by
            rw [← HRES.out, ← hjo]
            show _ = (Lib.join _ _).toArray.size
            simp
          rw [e]
          omega
        have HJ := Lib.hid (Tryz.strings_Join g 0 c0 out ⟨#[44]⟩ wr hcells (blk_lt hg) (by omega) hnc hjs)
        rw [hjo, HRES.out] at HJ
        have HB2 := Lib.hid (below_step HB.out hB.out)
        clear hcells hg hcur hcs hjo hjs hol2 hrow
        go_wp2_with fail
        refine HJ.out.mono ?_
        rintro e w5 ⟨rfl, hb5⟩
        go_wp2_with fail
        go_ret
        exact ⟨rfl, below_step HB2.out hb5⟩

end Go.Proofs.YtjeomiooheoegaaGreatDoor.PD

namespace Go.Proofs.YtjeomiooheoegaaGreatDoor.PD
open Go.RowKit Go.Proofs.YtjeomiooheoegaaGreatDoorW.PrintWords Go.Proofs.YtjeomiooheoegaaGreatDoorW.PrintLast Go.Proofs.YtjeomiooheoegaaGreatDoorW.PrintMore
set_option linter.unusedVariables false
set_option linter.unusedSimpArgs false
/-! ### Parse of the program -/
def parseL (e : Bool) : List ByteArray → List Int → Option (List Int)
  | [], acc => some acc
  | x :: xs, acc => match Lib.parseIntB 64 x.data.toList with
    | .ok n => parseL e xs (acc ++ [n])
    | _ => if e then parseL e xs acc else none
theorem parseL_false : ∀ (xs : List ByteArray) (acc : List Int), parseL false xs acc = parseInts xs acc
  | [], acc => rfl
  | x :: xs, acc => by
    rw [parseL, parseInts]
    cases h : Lib.parseIntB 64 x.data.toList with
    | ok n => exact parseL_false xs _
    | _ => rfl
theorem inner_is (t : ByteArray) : innerO t = parseL (decide (t = ⟨#[]⟩)) (partsOf t) [] := by
  unfold innerO
  by_cases h : t = ⟨#[]⟩
  · rw [if_pos h, decide_eq_true h]
    subst h
    rfl
  · rw [if_neg h, decide_eq_false h, parseL_false]
    rfl
theorem parseL_drop {e : Bool} {xs : List ByteArray} {k : Nat} (h : k < xs.length) (acc : List Int) : parseL e (xs.drop k) acc = match Lib.parseIntB 64 xs[k].data.toList with
    | .ok n => parseL e (xs.drop (k + 1)) (acc ++ [n])
    | _ => if e then parseL e (xs.drop (k + 1)) acc else none := by
  rw [List.drop_eq_getElem_cons h]
  rfl
theorem cutP_size (s : ByteArray) : (cutP s).size ≤ s.size := by
  unfold cutP
  show (Lib.trimPrefix s.data.toList [123]).toArray.size ≤ _
  rw [List.size_toArray]
  unfold Lib.trimPrefix
  split
  · rw [List.length_drop]
    have : s.data.toList.length = s.size := by simp
    omega
  · have : s.data.toList.length = s.size := by simp
    omega
theorem cutS_size (s : ByteArray) : (cutS s).size ≤ s.size := by
  unfold cutS
  show (Lib.trimSuffix s.data.toList [125]).toArray.size ≤ _
  rw [List.size_toArray]
  unfold Lib.trimSuffix
  split
  · rw [List.length_take]
    have : s.data.toList.length = s.size := by simp
    omega
  · have : s.data.toList.length = s.size := by simp
    omega
theorem str_emp (a : ByteArray) : (a.toList == []) = decide (a = ⟨#[]⟩) := by
  have := str_eqB a ⟨#[]⟩
  rw [ByteArray.toList_eq ⟨#[]⟩] at this
  exact this
set_option maxRecDepth 100000 in
set_option maxHeartbeats 8000000 in
theorem Parse_calls (s : ByteArray) (hz : s.size ≤ 140737488351232) (w : World) (hd : DomLaid w) :
    Calls Tryz.prog 58 #[.string s] w fun e w' => ∃ v', e = .returned (.tuple #[v', .int .i64 (parseP s).2]) ∧ RowI w' w.heap.size v' (parseP s).1 ∧ Below w.heap.size w w' := by
  by_cases hbig : 65536 < s.size
  · rw [parse_big hbig]
    clear hd
    go_enter Tryz.func58, Tryz.ntmps58
    go_wp2_with fail
    go_ret2
    exact ⟨_, rfl, RowI.nil _ _, Below.refl _ _⟩
  have hp : parseP s = if Lib.hasPrefix s.data.toList [123] = true ∧ Lib.hasSuffix (cutP s).data.toList [125] = true then checkT s (innerO (cutS (cutP s))) else ([], 20) := by unfold parseP; rw [if_neg hbig]
  rw [hp]
  have hz2 : s.size ≤ 65536 := by omega
  have HCP : Hid (∀ W, Calls Tryz.prog 131 #[.string s, .string ⟨#[123]⟩] W fun e w' => e = .returned (.tuple #[.string (cutP s), .bool (Lib.hasPrefix s.data.toList [123])]) ∧ w' = W) := Lib.hid (fun W => Tryz.strings_CutPrefix s ⟨#[123]⟩ W)
  have hps := cutP_size s
  have HCS : Hid (∀ W, Calls Tryz.prog 132 #[.string (cutP s), .string ⟨#[125]⟩] W fun e w' => e = .returned (.tuple #[.string (cutS (cutP s)), .bool (Lib.hasSuffix (cutP s).data.toList [125])]) ∧ w' = W) := Lib.hid (fun W => Tryz.strings_CutSuffix (cutP s) ⟨#[125]⟩ W (by omega))
  have hss := cutS_size (cutP s)
  have hsz : (cutS (cutP s)).size ≤ 65536 := by omega
  generalize cutS (cutP s) = t at *
  generalize Lib.hasPrefix s.data.toList [123] = b1 at *
  generalize Lib.hasSuffix (cutP s).data.toList [125] = b2 at *
  generalize cutP s = s1 at *
  have HSP := Lib.hid (fun W (g : DomLaid W) => split_calls t hsz W g)
  have HD := Lib.hid hd
  by_cases hbb : b1 = true ∧ b2 = true
  case neg =>
    rw [if_neg hbb]
    clear hd HSP hp
    cases b1 with
    | false =>
      go_enter Tryz.func58, Tryz.ntmps58
      go_wp2_with fail
      refine (HCP.out _).mono ?_
      rintro e w1 ⟨rfl, rfl⟩
      go_wp2_with fail
      refine (HCS.out _).mono ?_
      rintro e w1 ⟨rfl, rfl⟩
      go_wp2_with fail
      go_ret2
      exact ⟨_, rfl, RowI.nil _ _, Below.refl _ _⟩
    | true =>
      obtain rfl : b2 = false := by cases b2 with
        | false => rfl
        | true => exact absurd ⟨rfl, rfl⟩ hbb
      go_enter Tryz.func58, Tryz.ntmps58
      go_wp2_with fail
      refine (HCP.out _).mono ?_
      rintro e w1 ⟨rfl, rfl⟩
      go_wp2_with fail
      refine (HCS.out _).mono ?_
      rintro e w1 ⟨rfl, rfl⟩
      go_wp2_with fail
      go_ret2
      exact ⟨_, rfl, RowI.nil _ _, Below.refl _ _⟩
  case pos =>
    rw [if_pos hbb, inner_is]
    obtain ⟨rfl, rfl⟩ := hbb
    obtain ⟨i0, hi0, hz0, hz1, hzz2⟩ := info_parts infoI
    have HSZ := Lib.hid (split_size ⟨#[44]⟩ (Lib.countB t ⟨#[44]⟩) t)
    have HPL := Lib.hid (splits_count t)
    have hcl := Lib.countB_le ⟨#[44]⟩ (by decide) t.size t (Nat.le_refl _)
    change Hid (∀ x ∈ partsOf t, x.size ≤ t.size) at HSZ
    have hte := str_emp t
    obtain ⟨em, hem⟩ : ∃ em, decide (t = ⟨#[]⟩) = em := ⟨_, rfl⟩
    rw [hem] at hte ⊢
    obtain ⟨xs, hxs⟩ : ∃ xs, partsOf t = xs := ⟨_, rfl⟩
    rw [hxs] at HSP HSZ HPL ⊢
    obtain ⟨n, hn⟩ : ∃ n, xs.length = n := ⟨_, rfl⟩
    have hnb : n ≤ 65537 := by have := HPL.out; rw [hn] at this; omega
    have HN := Lib.hid hn
    clear hxs hn hd hp HPL hcl hem
    obtain ⟨res, hres⟩ : ∃ res, checkT s (parseL em xs []) = res := ⟨_, rfl⟩
    rw [hres]
    have HRES := Lib.hid hres
    clear hres
    go_enter Tryz.func58, Tryz.ntmps58
    go_wp2_with fail
    refine (HCP.out _).mono ?_
    rintro e w ⟨rfl, rfl⟩
    go_wp2_with fail
    refine (HCS.out _).mono ?_
    rintro e w ⟨rfl, rfl⟩
    go_wp2_with fail
    refine (HSP.out _ HD.out).mono ?_
    rintro e w1 ⟨rfl, hcells, hlt, hb1⟩
    rw [HN.out]
    have HCE := Lib.hid hcells; have HB1 := Lib.hid hb1
    have HD1 := Lib.hid (HD.out.below hb1)
    obtain ⟨g, hg⟩ : ∃ g, w.heap.size = g := ⟨_, rfl⟩
    rw [hg] at hlt HCE
    simp only [hg]
    have HG := Lib.hid hg
    clear hcells hb1 hg HCP HCS HSP
    go_wp2_with fail
    go_loopw [7, 34] (fun o i wr => ∃ (k : Nat) (acc : List Int), i = .int .i64 k ∧ k ≤ n ∧ acc.length ≤ k ∧ Hid (parseL em xs [] = parseL em (xs.drop k) acc) ∧ Hid (RowI wr w1.heap.size o acc) ∧ Hid (Below w1.heap.size w1 wr))
      (fun _ i _ => n - (intOf i).toNat)
    case atStart => exact ⟨0, [], rfl, Nat.zero_le _, Nat.zero_le _, Lib.hid rfl, Lib.hid (RowI.nil _ _), Lib.hid (Below.refl _ _)⟩
    case round =>
      obtain ⟨k, acc, rfl, hk, hal, hP, hO, hB⟩ := hrel
      obtain ⟨A0, c0, rfl, hc0⟩ := hO.out.form
      have hgz := hB.out.size
      by_cases hkn : k < n
      · have hkx : k < xs.length := by rw [HN.out]; exact hkn
        have hx0 := (hB.out.cell (p := ⟨g, k, none⟩) hlt).trans (HCE.out k hkx)
        have hxz := HSZ.out _ (List.getElem_mem hkx)
        have hstep := parseL_drop (e := em) hkx acc
        have HDW := Lib.hid (HD1.out.below hB.out)
        generalize xs[k] = x at *
        have HST := Lib.hid (hP.out.trans hstep)
        have hix := fun W => indexT_at g n n (k : Nat) (by omega) W
        simp only [Int.toNat_natCast] at hix
        have KA := Lib.hid (fun W hd => pint_calls x (by omega) W hd)
        clear hstep hxz
        go_wp2_with fail
        refine (KA.out _ HDW.out).mono ?_
        rintro e w3 ⟨hP3, hb3⟩
        have HB3 := Lib.hid (below_step hB.out hb3)
        have HO3 := Lib.hid (hO.out.below hb3)
        have hsz3 := HB3.out.size
        clear hb3 hx0
        rcases hP3 with ⟨a, hpa, rfl⟩ | ⟨hpa, n1, a1, rfl⟩
        · have HST2 : Hid (parseL em xs [] = parseL em (xs.drop (k + 1)) (acc ++ [a])) := by have := HST.out; rw [hpa] at this; exact Lib.hid this
          clear hpa HST
          go_wp2_with ((with_reducible refine gate_dst (N := 54) rfl ?_); refine wpList_append_own _ rfl _ _ 50 rfl w1.heap.size 2 i0 _ 1 8 Tryz.underlying50 hi0 hz0 hz1 hzz2 rfl (by decide) _ _ _ rfl ((RowI.own HO3.out).alloc _) ⟨_, 0, none⟩ 1 1 [.int .i64 a] rfl rfl (cell_one_at _ _ (by simp) _ _) (by simp [Value.oneCell']) (by simp only [maxLen]; omega) (by omega) (by first | omega | (simp; omega)) ?_; intro v' w6 hown' hgrow _; obtain ⟨q1, q2⟩ := HO3.out.pushed hown' hgrow (by first | omega | (simp; omega)); have hQ1 := Lib.hid q1; have hQ2 := Lib.hid (HB3.out.trans q2); clear hown' hgrow q1 q2)
          refine ⟨⟨k + 1, acc ++ [a], by rw [Int.natCast_add]; rfl, by omega, by rw [List.length_append, List.length_singleton]; omega, HST2, hQ1, hQ2⟩, by simp [intOf]; omega⟩
        · have hbad : parseL em xs [] = if em then parseL em (xs.drop (k + 1)) acc else none := by
            have := HST.out
            rw [this]
            split
            · rename_i v hv
              exact absurd hv (hpa v)
            · rfl
          clear hpa HST
          cases em with
          | false =>
            have hres : res = ([], 20) := by rw [← HRES.out, hbad]; rfl
            have HRS := Lib.hid hres
            clear hres hbad
            go_wp2_with fail
            go_ret2
            rw [HRS.out]
            exact ⟨_, rfl, RowI.nil _ _, HG.out ▸ below_step HB1.out HB3.out⟩
          | true =>
            have HST2 := Lib.hid hbad
            clear hbad
            go_wp2_with fail
            refine ⟨⟨k + 1, acc, by rw [Int.natCast_add]; rfl, by omega, by omega, HST2, HO3, HB3⟩, by simp [intOf]; omega⟩
      · obtain rfl : k = n := by omega
        have hdr : xs.drop k = [] := List.drop_eq_nil_iff.2 (by rw [HN.out]; exact Nat.le_refl _)
        have hpa : checkT s (some acc) = res := by
          rw [← HRES.out, hP.out, hdr]
          rfl
        have HPA := Lib.hid hpa
        have HDW := Lib.hid (HD1.out.below hB.out)
        have HR := Lib.hid (Set_calls (v := .slice A0 acc.length c0) acc wr hO.out.lst)
        have HB2 := Lib.hid (below_step HB1.out hB.out)
        have hle := hB.out.size
        clear hpa hdr
        cases hR : setS acc with
        | false =>
          rw [hR] at HR
          go_wp2_with fail
          refine HR.out.mono ?_
          rintro e w3 ⟨rfl, hb3⟩
          go_wp2_with fail
          go_ret2
          have : res = ([], 20) := by rw [← HPA.out]; unfold checkT; dsimp only; rw [if_neg (by rw [hR]; simp)]
          rw [this, HG.out]
          exact ⟨_, rfl, RowI.nil _ _, HG.out ▸ below_step HB2.out hb3⟩
        | true =>
          rw [hR] at HR
          go_wp2_with fail
          refine HR.out.mono ?_
          rintro e w3 ⟨rfl, hb3⟩
          have HT := Lib.hid (Text_calls (v := .slice A0 acc.length c0) acc w3 (hO.out.lst.below hb3) (HDW.out.below hb3))
          rw [asL_of hR] at HT
          have HB3 := Lib.hid (below_step HB2.out hb3)
          have HO3 := Lib.hid (hO.out.below hb3)
          clear hb3
          by_cases hT : setT acc = s
          · have hres : res = (acc, 0) := by rw [← HPA.out]; unfold checkT; dsimp only; rw [if_pos ⟨hR, hT⟩]
            have HRS := Lib.hid hres
            rw [hT] at HT
            clear hres hT
            go_wp2_with fail
            refine HT.out.mono ?_
            rintro e w4 ⟨rfl, hb4⟩
            go_wp2_with fail
            go_ret2
            rw [HRS.out]
            exact ⟨_, rfl, (HO3.out.below hb4).lower (by have := HB1.out.size; omega), HG.out ▸ below_step HB3.out hb4⟩
          · have hres : res = ([], 20) := by rw [← HPA.out]; unfold checkT; dsimp only; rw [if_neg (by rintro ⟨_, h⟩; exact hT h)]
            have HRS := Lib.hid hres
            have hT' : ((setT acc).toList == s.toList) = false := by rw [str_eqB, decide_eq_false hT]
            clear hres
            generalize setT acc = T at *
            go_wp2_with fail
            refine HT.out.mono ?_
            rintro e w4 ⟨rfl, hb4⟩
            go_wp2_with fail
            go_ret2
            rw [HRS.out]
            exact ⟨_, rfl, RowI.nil _ _, HG.out ▸ below_step HB3.out hb4⟩

end Go.Proofs.YtjeomiooheoegaaGreatDoor.PD

namespace Go.Proofs.YtjeomiooheoegaaGreatDoor.PD
open Go.RowKit Go.Proofs.YtjeomiooheoegaaGreatDoorW.PrintWords Go.Proofs.YtjeomiooheoegaaGreatDoorW.PrintLast Go.Proofs.YtjeomiooheoegaaGreatDoorW.PrintMore
set_option linter.unusedVariables false
set_option linter.unusedSimpArgs false
/-! ### Count of the program -/
def rowZ (k : Nat) : List Int := (rowP k).map (fun x : Nat => (x : Int))
def nextZ (k j : Nat) : List Int := 1 :: ((sums (rowP k)).take j).map (fun x : Nat => (x : Int))
theorem rowZ_len (k : Nat) : (rowZ k).length = k + 1 := by unfold rowZ; rw [List.length_map, rowP_len]
theorem nextZ_len (k j : Nat) (h : j ≤ k) : (nextZ k j).length = j + 1 := by
  unfold nextZ
  rw [List.length_cons, List.length_map, List.length_take, sums_len, rowP_len]
  omega
theorem rowZ_zero : rowZ 0 = [1] := rfl
theorem nextZ_done (k : Nat) : nextZ k k ++ [1] = rowZ (k + 1) := by
  unfold nextZ rowZ
  rw [row_next, List.take_of_length_le (by rw [sums_len, rowP_len]; omega)]
  simp
theorem rowZ_at (k j : Nat) (h : j < (rowZ k).length) : (rowZ k)[j] = (((rowP k)[j]'(by rw [rowP_len]; rw [rowZ_len] at h; exact h) : Nat) : Int) := by
  simp [rowZ]
theorem nextZ_step (k j : Nat) (h : j < k) : nextZ k (j + 1) = nextZ k j ++ [(rowZ k)[j]'(by rw [rowZ_len]; omega) + (rowZ k)[j + 1]'(by rw [rowZ_len]; omega)] := by
  unfold nextZ
  rw [sums_take (rowP k) j (by rw [rowP_len]; omega), rowZ_at, rowZ_at]
  simp
theorem rowZ_small (k j : Nat) (hk : k ≤ 64) (h : j < (rowZ k).length) : 0 ≤ (rowZ k)[j] ∧ (rowZ k)[j] < 2305843009213693952 := by
  rw [rowZ_at]
  have := row_small k hk j (by rw [rowP_len]; rw [rowZ_len] at h; exact h)
  omega
theorem count_nil {d : DomD} (h : emptyD d = true) : countD d = 0 := by
  unfold countD countN lots
  rw [if_pos h]
  rfl
theorem count_full {d : DomD} (h : emptyD d = false) : countD d = min ((sumB (d.up.length - d.lo.length) (d.least - d.lo.length).toNat (d.most - d.least + 1).toNat : Nat) : Int) 4611686018427387904 := by
  unfold countD lots
  rw [count_sum h]
theorem count_add (u s q : Nat) (h : s + q < (rowZ u).length) : min (min ((sumB u s q : Nat) : Int) 4611686018427387904 + (rowZ u)[s + q]) 4611686018427387904 = min ((sumB u s (q + 1) : Nat) : Int) 4611686018427387904 := by
  rw [sumB_snoc, rowZ_at, row_bin]
  exact lots_step (sumB u s q) (bin u (s + q))
section
variable {ops : Array Oper} {o : Oper} {a : Act} {Q : Exit → Act → World → Prop} {Kc : Act → World → Prop}
theorem appendI_step {w0 W : World} (base : Nat) (hw : Region.wanted o (yielded ops a.tmps) = true) (s x : Operand)
    (ho : o.op = .call { callee := .builtin .append, args := #[s, x], argTypes := #[50, 50] })
    (v : Value) (xs ys : List Int) (A : Option Addr) (m c : Nat) (hs : a.eval s = v) (hx : a.eval x = .slice A m c)
    (HO : RowI W base v xs) (HR : Kd.C (Kd.int .i64) W A m ys) (HB : Below base w0 W) (hbase : base ≤ W.heap.size) (hl : xs.length + m ≤ 8796093022000)
    (h : ∀ v1 w1, RowI w1 base v1 (xs ++ ys) → Below base w0 w1 → Kc (a.put o.dst v1) w1) :
    if Region.wanted o (yielded ops a.tmps) = true then Oper.wp Tryz.prog o a W Kc Q else Kc (a.put o.dst undef) W := by
  refine Kd.R_append_rows_step (Kd.int .i64) (w0 := w0) base hw s x 50 2 (.int .i64 0) 8 ho Tryz.underlying50 infoI rfl (by decide) (by omega) v xs ys A m c (fun _ => True) (fun _ => False) hs hx HO HR (fun _ _ h => h) (fun _ h => h.elim) (fun _ _ => trivial) HB hbase (by omega) ?_
  intro v1 w1 ho1 hb1 _ _
  exact h v1 w1 ho1 hb1
end
theorem one_C (W : World) (x : Int) : Kd.C (Kd.int .i64) (W.alloc (.cells #[.int .i64 x] 2)) (some ⟨W.heap.size, 0, none⟩) 1 [x] := by
  obtain ⟨A, c, e, hC, _⟩ := (RowI.one W 0 (Nat.zero_le _) x).lst
  injection e with e1 e2 e3
  subst e1
  exact hC
set_option maxRecDepth 100000 in
set_option maxHeartbeats 8000000 in
theorem Count_calls {v : Value} (d : DomD) (w : World) (h : DomV w v d) (hl1 : d.lo.length ≤ 9000000000000000) (hl2 : d.up.length ≤ 9000000000000000) :
    Calls Tryz.prog 47 #[v] w fun e w' => e = .returned (.int .i64 (countD d)) ∧ Below w.heap.size w w' := by
  have HE := Lib.hid (fun W (g : DomV W v d) => Empty_calls d W g hl1 hl2)
  have H := Lib.hid h
  obtain ⟨i0, hi0, hz0, hz1, hz2⟩ := info_parts infoI
  obtain ⟨r, lo, up, rfl, q1, q2, q3⟩ := h
  obtain ⟨Ar, cr, er⟩ := q1.form
  obtain ⟨Al, cl, el⟩ := q2.form
  obtain ⟨Au, cu, eu⟩ := q3.form
  subst er el eu
  clear q1 q2 q3 hl1 hl2
  cases hb0 : emptyD d with
  | true =>
    rw [count_nil hb0]
    rw [hb0] at HE
    generalize d.least = least at *
    generalize d.most = most at *
    generalize d.set = s0 at *
    go_enter Tryz.func47, Tryz.ntmps47
    go_wp2_with fail
    refine (HE.out _ (one_dom _ H.out)).mono ?_
    rintro e w1 ⟨rfl, hb1⟩
    obtain ⟨hx, hbw⟩ := one_box hb1
    go_wp2_with fail
    go_ret
    exact ⟨rfl, hbw⟩
  | false =>
    rw [hb0] at HE
    rw [count_full hb0]
    obtain ⟨f1, f2, f3, f4, f5, f6, f7, f8⟩ := full_of hb0
    have h64 := set_len f4
    clear f1 f2 f3 f4 f5
    generalize d.least = least at *
    generalize d.most = most at *
    generalize d.set = s0 at *
    generalize d.lo.length = nl at *
    generalize d.up.length = nu at *
    generalize d.r.length = nr at *
    obtain ⟨u, hu⟩ : ∃ u, nu - nl = u := ⟨_, rfl⟩
    obtain ⟨s, hs⟩ : ∃ s, (least - (nl : Int)).toNat = s := ⟨_, rfl⟩
    obtain ⟨t, ht⟩ : ∃ t, (most - least + 1).toNat = t := ⟨_, rfl⟩
    rw [hu, hs, ht]
    have hs' : least = (nl : Int) + s := by omega
    have ht' : most = least + t - 1 := by omega
    have hu64 : u ≤ 64 := by omega
    have hsu : s + t ≤ u + 1 := by omega
    have hnu : (nu : Int) - nl = u := by omega
    have hnl : nl ≤ 64 := by omega
    clear hu hs ht h64 f6 f7 f8
    subst hs' ht'
    obtain ⟨R, hR⟩ : ∃ R, min ((sumB u s t : Nat) : Int) 4611686018427387904 = R := ⟨_, rfl⟩
    rw [hR]
    have HR := Lib.hid hR
    clear hR
    have hwnu : IntKind.i64.wrap ((nu : Int) - nl) = u := by rw [hnu]; exact IntWalk.i64_in _ (by omega)
    go_enter Tryz.func47, Tryz.ntmps47
    go_wp2_with fail
    refine (HE.out _ (one_dom _ H.out)).mono ?_
    rintro e w1 ⟨rfl, hb1⟩
    obtain ⟨hx, hbw⟩ := one_box hb1
    have HX := Lib.hid hx; have HB := Lib.hid hbw
    obtain ⟨x_0, x_1, x_2, x_3, x_4, x_5⟩ := hx.cells
    clear hx hbw hb1 HE H
    have hO0 := RowI.one w1 w1.heap.size (Nat.le_refl _) 1
    have hB0 := (Below.refl w1.heap.size w1).alloc (Nat.le_refl _) (.cells #[.int .i64 1] 2)
    have HO0 := Lib.hid hO0; have HB0 := Lib.hid hB0
    clear x_0 x_1 x_2 x_3 x_4 x_5
    obtain ⟨x_0, x_1, x_2, x_3, x_4, x_5⟩ := (HX.out.below hB0).cells
    clear hO0 hB0
    go_wp2_with fail
    go_loopw [3, 18] (fun o i wr => ∃ k : Nat, i = .int .i64 k ∧ k ≤ u ∧ Hid (RowI wr w1.heap.size o (rowZ k)) ∧ Hid (Below w1.heap.size w1 wr))
      (fun _ i _ => u - (intOf i).toNat)
    case atStart => exact ⟨0, rfl, Nat.zero_le _, Lib.hid (by rw [rowZ_zero]; exact HO0.out), HB0⟩
    case round =>
      obtain ⟨k, rfl, hk, hO, hB⟩ := hrel
      obtain ⟨A0, c0, rfl, hc0⟩ := hO.out.form
      rw [rowZ_len]
      by_cases hku : k < u
      · have hkb : decide ((k : Int) < (u : Int)) = true := decide_eq_true (by omega)
        have hO1 := RowI.one wr wr.heap.size (Nat.le_refl _) 1
        have hB1 := (Below.refl wr.heap.size wr).alloc (Nat.le_refl _) (.cells #[.int .i64 1] 2)
        obtain ⟨Bn, hBn⟩ : ∃ n, wr.heap.size = n := ⟨_, rfl⟩
        rw [hBn] at hB1
        have HO1 : Hid (RowI (wr.alloc (.cells #[.int .i64 1] 2)) Bn (.slice (some ⟨wr.heap.size, 0, none⟩) 1 1) [1]) := Lib.hid (by rw [← hBn]; exact hO1)
        have HROW : Hid (∀ (j : Nat) (hj : j < (rowZ k).length) (W : World), Below Bn wr W → ∃ ad, A0 = some ad ∧ W.cell? (ad.add j) = some (.int .i64 (rowZ k)[j])) := Lib.hid (fun j hj W h => by rw [rowZ_len] at hO; exact ((show LstI wr (.slice A0 (k + 1) c0) (rowZ k) from hO.out.lst).below (hBn ▸ h)).at j hj)
        have HB1 := Lib.hid hB1; have HBN := Lib.hid hBn
        clear hO1 hB1 hBn
        go_wp2_with fail
        go_loopw [4, 5] (fun o i wi => ∃ j : Nat, i = .int .i64 ((j : Int) + 1) ∧ j ≤ k ∧ Hid (RowI wi Bn o (nextZ k j)) ∧ Hid (Below Bn wr wi))
          (fun _ i _ => k + 1 - (intOf i).toNat)
        case atStart => exact ⟨0, rfl, Nat.zero_le _, HO1, HB1⟩
        case round =>
          obtain ⟨j, rfl, hj, hP, hBi⟩ := hrel
          obtain ⟨A1, c1, rfl, hc1⟩ := hP.out.form
          have HNL := Lib.hid (nextZ_len k j hj)
          by_cases hjk : j < k
          · have hjb : decide (((j : Int) + 1) < ((k : Int) + 1)) = true := decide_eq_true (by omega)
            have hjb2 : decide (j < k) = true := decide_eq_true hjk
            obtain ⟨ada, hA0, x0⟩ := HROW.out j (by rw [rowZ_len]; omega) wr hBi.out
            have HCL := Lib.hid (fun W (h : Below Bn _ W) => (⟨by obtain ⟨ad', e', q⟩ := HROW.out j (by rw [rowZ_len]; omega) W h; rw [hA0] at e'; injection e' with e'; subst e'; exact q, by obtain ⟨ad', e', q⟩ := HROW.out (j + 1) (by rw [rowZ_len]; omega) W h; rw [hA0] at e'; injection e' with e'; subst e'; simp only [Addr.add, Nat.add_eq_zero_iff, Nat.succ_ne_zero, and_false, if_false, Nat.one_ne_zero] at q; exact q⟩ : W.cell? (ada.add j) = some (.int .i64 ((rowZ k)[j]'(by rw [rowZ_len]; omega))) ∧ W.cell? ⟨ada.block, ada.off + (j + 1), none⟩ = some (.int .i64 ((rowZ k)[j + 1]'(by rw [rowZ_len]; omega)))))
            subst hA0
            clear x0
            have hsa := rowZ_small k j (by omega) (by rw [rowZ_len]; omega)
            have hsb := rowZ_small k (j + 1) (by omega) (by rw [rowZ_len]; omega)
            have HST := Lib.hid (nextZ_step k j hjk)
            generalize (rowZ k)[j]'(by rw [rowZ_len]; omega) = a at *
            generalize (rowZ k)[j + 1]'(by rw [rowZ_len]; omega) = b at *
            have hixa := fun W => indexI_at ada (k + 1) c0 (j : Nat) (by omega) W
            have hixb := fun W => indexI_at ada (k + 1) c0 ((j : Int) + 1) (by omega) W
            simp only [Int.toNat_natCast] at hixa
            rw [show ((j : Int) + 1).toNat = j + 1 by omega] at hixb
            have hw1 : IntKind.i64.wrap (j : Int) = (j : Int) := IntWalk.i64_in _ (by omega)
            have hw2 : IntKind.i64.wrap (a + b) = a + b := IntWalk.i64_in _ (by omega)
            have hw3 : min (a + b) 4611686018427387904 = a + b := by omega
            have hw4 : IntKind.i64.wrap ((j : Int) + 1 + 1) = (j : Int) + 1 + 1 := IntWalk.i64_in _ (by omega)
            have hszi := hBi.out.size
            have hbd : Below Bn _ wr.drew := hBi.out.drew
            have hba : Below Bn _ ((wr.alloc (.cells #[.int .i64 (a + b)] 2)).drew) := (hBi.out.alloc (by have := HBN.out; omega) _).drew
            have HPA := Lib.hid ((hP.out.below ((Below.refl wr.heap.size wr).alloc (Nat.le_refl _) (.cells #[.int .i64 (a + b)] 2)).drew))
            have HCA := Lib.hid (Kd.C_below (one_C wr (a + b)) ((Below.refl _ _).drew))
            have HBA := Lib.hid hba
            go_wp2_with fail
            go_region_held3 (fun v => v.cell? (ada.add j) = some (.int .i64 a) ∧ v.cell? ⟨ada.block, ada.off + (j + 1), none⟩ = some (.int .i64 b))
              (first | with_reducible exact HCL.out _ hb6 | with_reducible exact HCL.out _ hba | with_reducible exact HCL.out _ hbd)
              (first
                | (refine appendI_step Bn rfl (.tmp 27) (.tmp 39) rfl _ _ _ _ _ _ rfl rfl HPA.out HCA.out HBA.out (HBN.out ▸ HBA.out.size) (by have := HNL.out; omega) ?_; intro v6 w6 hO6 hb6))
            have HO6 := Lib.hid hO6; have HB6 := Lib.hid hb6
            clear hO6 hb6 hba hbd
            go_wp2_with fail
            refine ⟨⟨j + 1, ?_, by omega, Lib.hid (by rw [HST.out]; exact HO6.out), HB6⟩, by simp [intOf]; omega⟩
            exact congrArg (Value.int .i64) (by omega)
          · obtain rfl : j = k := by omega
            have hjb : decide (((j : Int) + 1) < ((j : Int) + 1)) = false := decide_eq_false (by omega)
            have HDN := Lib.hid (nextZ_done j)
            generalize nextZ j j = L0 at *
            have hszi := hBi.out.size
            have hw5 : IntKind.i64.wrap ((j : Int) + 1) = (j : Int) + 1 := IntWalk.i64_in _ (by omega)
            go_wp2_with ((with_reducible refine gate_dst (N := 43) rfl ?_); refine wpList_append_own _ rfl _ _ 50 rfl Bn 2 i0 _ 1 8 Tryz.underlying50 hi0 hz0 hz1 hz2 rfl (by decide) _ _ _ rfl ((RowI.own hP.out).alloc _) ⟨_, 0, none⟩ 1 1 [.int .i64 1] rfl rfl (cell_one_at _ _ (by simp) _ _) (by simp [Value.oneCell']) (by have := HNL.out; simp only [maxLen]; omega) (by have := HNL.out; omega) (by have := HBN.out; first | omega | (simp; omega)) ?_; intro v' w6 hown' hgrow _; obtain ⟨q1, q2⟩ := hP.out.pushed hown' hgrow (by have := HBN.out; first | omega | (simp; omega)); have hP1 := Lib.hid q1; have hP2 := Lib.hid (hBi.out.trans q2); clear hown' hgrow q1 q2)
            refine ⟨⟨j + 1, by rw [Int.natCast_add]; rfl, by omega, Lib.hid (by rw [← HDN.out]; exact hP1.out.lower (by have := hB.out.size; have := HBN.out; omega)), Lib.hid (below_step hB.out (HBN.out ▸ hP2.out))⟩, by simp [intOf]; omega⟩
      · obtain rfl : k = u := by omega
        have hkb : decide ((k : Int) < (k : Int)) = false := decide_eq_false (by omega)
        have HZ := Lib.hid (fun W (h : Below wr.heap.size wr W) => (show LstI W (.slice A0 (k + 1) c0) (rowZ k) from by rw [← rowZ_len k]; exact hO.out.lst.below h))
        have HXW := Lib.hid (fun W (h : Below wr.heap.size wr W) => (HX.out.below (below_step hB.out h)).cells)
        obtain ⟨x_0, x_1, x_2, x_3, x_4, x_5⟩ := HXW.out wr (Below.refl _ _)
        go_wp2_with fail
        go_loopw [6, 7] (fun o i wi => ∃ q : Nat, i = .int .i64 ((nl : Int) + s + q) ∧ q ≤ t ∧ o = .int .i64 (min ((sumB k s q : Nat) : Int) 4611686018427387904) ∧ Hid (Below wr.heap.size wr wi))
          (fun _ i _ => nl + s + t - (intOf i).toNat)
        case atStart => exact ⟨0, by simp, Nat.zero_le _, rfl, Lib.hid (Below.refl _ _)⟩
        case round =>
          obtain ⟨q, rfl, hq, rfl, hBi⟩ := hrel
          have hmn : 0 ≤ min ((sumB k s q : Nat) : Int) 4611686018427387904 ∧ min ((sumB k s q : Nat) : Int) 4611686018427387904 ≤ 4611686018427387904 := by omega
          by_cases hqt : q < t
          · have hqb : decide ((nl : Int) + s + q ≤ nl + s + t - 1) = true := decide_eq_true (by omega)
            have hsq : s + q < (rowZ k).length := by rw [rowZ_len]; omega
            obtain ⟨ad, hA0, y0⟩ := (HZ.out wr hBi.out).at (s + q) hsq
            have hsa := rowZ_small k (s + q) (by omega) hsq
            have HAD := Lib.hid (count_add k s q hsq)
            generalize (rowZ k)[s + q] = a at *
            generalize min ((sumB k s q : Nat) : Int) 4611686018427387904 = m0 at *
            obtain ⟨m1, hm1⟩ : ∃ m1, min ((sumB k s (q + 1) : Nat) : Int) 4611686018427387904 = m1 := ⟨_, rfl⟩
            rw [hm1] at HAD
            have HMN := Lib.hid (congrArg (Value.int .i64) hm1.symm)
            clear hm1
            subst hA0
            have hix := fun W => indexI_at ad (k + 1) c0 ((s + q : Nat) : Int) (by omega) W
            simp only [Int.toNat_natCast] at hix
            have hw1 : IntKind.i64.wrap ((nl : Int) + s + q - nl) = ((s + q : Nat) : Int) := by rw [IntWalk.i64_in _ (by omega)]; omega
            have hw2 : IntKind.i64.wrap (m0 + a) = m0 + a := IntWalk.i64_in _ (by omega)
            have hw3 : IntKind.i64.wrap ((nl : Int) + s + q + 1) = (nl : Int) + s + q + 1 := IntWalk.i64_in _ (by omega)
            have hm1 := HAD.out
            obtain ⟨z_0, z_1, z_2, z_3, z_4, z_5⟩ := HXW.out wr hBi.out
            go_wp2_with fail
            refine ⟨⟨q + 1, by rw [Int.natCast_add, ← Int.add_assoc]; rfl, by omega, HMN.out, hBi⟩, by simp [intOf]; omega⟩
          · obtain rfl : q = t := by omega
            have hqb : decide ((nl : Int) + s + q ≤ nl + s + q - 1) = false := decide_eq_false (by omega)
            obtain ⟨z_0, z_1, z_2, z_3, z_4, z_5⟩ := HXW.out wr hBi.out
            have HBF := Lib.hid (below_step HB.out (below_step hB.out hBi.out))
            go_wp2_with fail
            go_ret
            rw [← HR.out]
            exact ⟨rfl, HBF.out⟩

end Go.Proofs.YtjeomiooheoegaaGreatDoor.PD

namespace Go.Proofs.YtjeomiooheoegaaGreatDoor.PD
open Go.RowKit Go.Proofs.YtjeomiooheoegaaGreatDoorW.PrintWords Go.Proofs.YtjeomiooheoegaaGreatDoorW.PrintLast Go.Proofs.YtjeomiooheoegaaGreatDoorW.PrintMore
set_option linter.unusedVariables false
set_option linter.unusedSimpArgs false
/-! ### Each of the program -/
theorem BoxD.zero (W : World) : BoxD (W.alloc (.cells #[.bool false, .slice none 0 0, .slice none 0 0, .slice none 0 0, .int .i64 0, .int .i64 0] 52)) W.heap.size false (.slice none 0 0) (.slice none 0 0) (.slice none 0 0) 0 0 := BoxD.new W _ _ _ _ _ _
/-- where the six cells of a box can be stored to -/
def SixOk (W : World) (g : Nat) : Prop := (∃ b r lo up n m, BoxD W g b r lo up n m)
theorem SixOk.below {W W' : World} {g : Nat} (h : SixOk W g) (hb : Below W.heap.size W W') : SixOk W' g := by
  obtain ⟨b, r, lo, up, n, m, hx⟩ := h
  exact ⟨b, r, lo, up, n, m, hx.below hb⟩
/-- what Each hands out -/
def EachR (w : World) (d : DomD) (e : Ending) (w' : World) : Prop := ∃ g Ar nr cr vl vu, e = .returned (.func (.func 120) #[] #[.pointer (some ⟨g, 0, none⟩)]) ∧ w.heap.size ≤ g ∧ BoxD w' g d.set (.slice Ar nr cr) vl vu d.least d.most ∧ Row w' w.heap.size (.slice Ar nr cr) d.r ∧ RowI w' w.heap.size vl d.lo ∧ RowI w' w.heap.size vu d.up ∧ Below w.heap.size w w'
theorem BoxD.put {W : World} {g : Nat} {b : Bool} {r lo up : Value} {n m : Int} (h : BoxD W g b r lo up n m) (b' : Bool) (r' lo' up' : Value) (n' m' : Int) :
    BoxD ((((((W.setCell ⟨g, 0, none⟩ (.bool b')).setCell ⟨g, 1, none⟩ r').setCell ⟨g, 2, none⟩ lo').setCell ⟨g, 3, none⟩ up').setCell ⟨g, 4, none⟩ (.int .i64 n')).setCell ⟨g, 5, none⟩ (.int .i64 m')) g b' r' lo' up' n' m' := box_six (t := 0) h _ _ _ _ _ _
set_option maxRecDepth 100000 in
set_option maxHeartbeats 8000000 in
theorem Each_calls {v : Value} (d : DomD) (w : World) (h : DomV w v d) (hl0 : d.r.length ≤ 8796093022200) (hl1 : d.lo.length ≤ 17592186044000) (hl2 : d.up.length ≤ 17592186044000) :
    Calls Tryz.prog 44 #[v] w fun e w' => EachR w d e w' := by
  obtain ⟨r, lo, up, rfl, q1, q2, q3⟩ := h
  obtain ⟨Wb, hWb⟩ : ∃ Wb, w.alloc (.cells #[.bool d.set, r, lo, up, .int .i64 d.least, .int .i64 d.most] 52) = Wb := ⟨_, rfl⟩
  have hbb : Below w.heap.size w Wb := by rw [← hWb]; exact (Below.refl _ _).alloc (Nat.le_refl _) _
  have hbx : BoxD Wb w.heap.size d.set r lo up d.least d.most := by rw [← hWb]; exact BoxD.new _ _ _ _ _ _ _
  have hszb : Wb.heap.size = w.heap.size + 1 := by rw [← hWb]; simp
  have Q1 := Lib.hid (q1.below hbb); have Q2 := Lib.hid (q2.below hbb); have Q3 := Lib.hid (q3.below hbb)
  obtain ⟨A1, k1, hv1⟩ := q1.form
  obtain ⟨A2, k2, hv2⟩ := q2.form
  obtain ⟨A3, k3, hv3⟩ := q3.form
  subst hv1 hv2 hv3
  have HC1 := Lib.hid (fun W (hB : Below Wb.heap.size Wb W) => clone_calls d.r W (Q1.out.below hB) hl0)
  have HC2 := Lib.hid (fun W (hB : Below Wb.heap.size Wb W) => cloneI_big d.lo W (Q2.out.below hB) hl1)
  have HC3 := Lib.hid (fun W (hB : Below Wb.heap.size Wb W) => cloneI_big d.up W (Q3.out.below hB) hl2)
  have HBX := Lib.hid (fun W (hB : Below Wb.heap.size Wb W) => (hbx.below hB).cells)
  have HSZ := Lib.hid hszb
  have HBB := Lib.hid hbb
  obtain ⟨x_0, x_1, x_2, x_3, x_4, x_5⟩ := hbx.cells
  clear q1 q2 q3 Q1 Q2 Q3 hl0 hl1 hl2 hbx hbb hszb
  generalize d.r.length = n1 at *
  generalize d.lo.length = n2 at *
  generalize d.up.length = n3 at *
  have hbd : Below Wb.heap.size Wb Wb.drew := (Below.refl _ _).drew
  have hba : Below Wb.heap.size Wb ((Wb.alloc (.cells #[.bool false, .slice none 0 0, .slice none 0 0, .slice none 0 0, .int .i64 0, .int .i64 0] 52)).drew) := ((Below.refl _ _).alloc (Nat.le_refl _) _).drew
  have hza : BoxD ((Wb.alloc (.cells #[.bool false, .slice none 0 0, .slice none 0 0, .slice none 0 0, .int .i64 0, .int .i64 0] 52)).drew) Wb.heap.size false (.slice none 0 0) (.slice none 0 0) (.slice none 0 0) 0 0 := (BoxD.zero Wb).below ((Below.refl _ _).drew)
  have HBD := Lib.hid hbd; have HBA := Lib.hid hba; have HZA := Lib.hid hza; have HG1 := Lib.hid (Nat.le_refl Wb.heap.size)
  clear hbd hba hza
  go_enter Tryz.func44, Tryz.ntmps44
  go_wp2_with fail
  go_region_held3 (fun v => v.cell? ⟨w.heap.size, 0, none⟩ = some (.bool d.set) ∧ v.cell? ⟨w.heap.size, 1, none⟩ = some (.slice A1 n1 k1) ∧ v.cell? ⟨w.heap.size, 2, none⟩ = some (.slice A2 n2 k2) ∧ v.cell? ⟨w.heap.size, 3, none⟩ = some (.slice A3 n3 k3) ∧ v.cell? ⟨w.heap.size, 4, none⟩ = some (.int .i64 d.least) ∧ v.cell? ⟨w.heap.size, 5, none⟩ = some (.int .i64 d.most))
    (first | with_reducible exact HBX.out _ HB3.out | with_reducible exact HBX.out _ (HB3a).out | with_reducible exact HBX.out _ HB2.out | with_reducible exact HBX.out _ HB2a.out | with_reducible exact HBX.out _ HB1.out | with_reducible exact HBX.out _ HB1a.out | with_reducible exact HBX.out _ HBA.out | with_reducible exact HBX.out _ HBD.out | with_reducible exact HBX.out _ (HB3.out.alloc HB3.out.size _) | with_reducible exact HBX.out _ (HB3.out.trans (six_below (by first | with_reducible exact HG1.out | with_reducible exact HB1.out.size | with_reducible exact HB2.out.size) _ _ _ _ _ _)))
    (first
      | (go_at_call 118; first
          | (with_reducible refine Calls.mono (HC1.out _ HBD.out) ?_; rintro e w1 ⟨v1, rfl, h1, hb1⟩; obtain ⟨B1, j1, e1⟩ := h1.lst.form; subst e1; have HB1 := Lib.hid (below_step HBD.out hb1); have HO1 := Lib.hid (h1.lower HBD.out.size); have HB1a := Lib.hid (HB1.out.alloc HB1.out.size (.cells #[.bool false, .slice none 0 0, .slice none 0 0, .slice none 0 0, .int .i64 0, .int .i64 0] 52)); clear h1 hb1)
          | (with_reducible refine Calls.mono (HC1.out _ HBA.out) ?_; rintro e w1 ⟨v1, rfl, h1, hb1⟩; obtain ⟨B1, j1, e1⟩ := h1.lst.form; subst e1; have HB1 := Lib.hid (below_step HBA.out hb1); have HO1 := Lib.hid (h1.lower HBA.out.size); have HZ1 := Lib.hid (HZA.out.below hb1); clear h1 hb1))
      | (go_at_call 119; first
          | (with_reducible refine Calls.mono (HC2.out _ HB1.out) ?_; rintro e w2 ⟨v2, rfl, h2, hb2⟩; obtain ⟨B2, j2, e2, _⟩ := h2.form; subst e2; have HB2 := Lib.hid (below_step HB1.out hb2); have HO12 := Lib.hid (HO1.out.below hb2); have HO2 := Lib.hid (h2.lower HB1.out.size); have HB2a := Lib.hid (HB2.out.alloc HB2.out.size (.cells #[.bool false, .slice none 0 0, .slice none 0 0, .slice none 0 0, .int .i64 0, .int .i64 0] 52)); (try have HZ2 := Lib.hid (HZ1.out.below hb2)); clear h2 hb2)
          | (with_reducible refine Calls.mono (HC2.out _ HB1a.out) ?_; rintro e w2 ⟨v2, rfl, h2, hb2⟩; obtain ⟨B2, j2, e2, _⟩ := h2.form; subst e2; have HB2 := Lib.hid (below_step HB1a.out hb2); have HO12 := Lib.hid ((HO1.out.below ((Below.refl _ _).alloc (Nat.le_refl _) (.cells #[.bool false, .slice none 0 0, .slice none 0 0, .slice none 0 0, .int .i64 0, .int .i64 0] 52))).below hb2); have HO2 := Lib.hid (h2.lower HB1a.out.size); have HZ2 := Lib.hid ((BoxD.zero w1).below hb2); clear h2 hb2)
          | (with_reducible refine Calls.mono (HC3.out _ HB2.out) ?_; rintro e w3 ⟨v3, rfl, h3, hb3⟩; obtain ⟨B3, j3, e3, _⟩ := h3.form; subst e3; have HB3 := Lib.hid (below_step HB2.out hb3); have HO13 := Lib.hid (HO12.out.below hb3); have HO23 := Lib.hid (HO2.out.below hb3); have HO33 := Lib.hid (h3.lower HB2.out.size); first
              | (have HZ3 := Lib.hid (HZ2.out.below hb3); clear h3 hb3; obtain ⟨y_0, y_1, y_2, y_3, y_4, y_5⟩ := HZ3.out.cells; obtain ⟨f_0, f_1, f_2, f_3, f_4, f_5⟩ := HZ3.out.frozen)
              | (have HB3a := Lib.hid (HB3.out.alloc HB3.out.size (.cells #[.bool false, .slice none 0 0, .slice none 0 0, .slice none 0 0, .int .i64 0, .int .i64 0] 52)); have HZ3 := Lib.hid (BoxD.zero w3); clear h3 hb3; obtain ⟨y_0, y_1, y_2, y_3, y_4, y_5⟩ := HZ3.out.cells; obtain ⟨f_0, f_1, f_2, f_3, f_4, f_5⟩ := HZ3.out.frozen))
          | (with_reducible refine Calls.mono (HC3.out _ HB2a.out) ?_; rintro e w3 ⟨v3, rfl, h3, hb3⟩; obtain ⟨B3, j3, e3, _⟩ := h3.form; subst e3; have HB3 := Lib.hid (below_step HB2a.out hb3); have HO13 := Lib.hid ((HO12.out.below ((Below.refl _ _).alloc (Nat.le_refl _) (.cells #[.bool false, .slice none 0 0, .slice none 0 0, .slice none 0 0, .int .i64 0, .int .i64 0] 52))).below hb3); have HO23 := Lib.hid ((HO2.out.below ((Below.refl _ _).alloc (Nat.le_refl _) (.cells #[.bool false, .slice none 0 0, .slice none 0 0, .slice none 0 0, .int .i64 0, .int .i64 0] 52))).below hb3); have HO33 := Lib.hid (h3.lower HB2a.out.size); have HZ3 := Lib.hid ((BoxD.zero w2).below hb3); clear h3 hb3; obtain ⟨y_0, y_1, y_2, y_3, y_4, y_5⟩ := HZ3.out.cells; obtain ⟨f_0, f_1, f_2, f_3, f_4, f_5⟩ := HZ3.out.frozen)))
  all_goals
    go_wp2_with fail
    go_ret
    have hbs := HSZ.out
    have hk := HZ3.out
    refine ⟨_, B1, d.r.length, j1, .slice B2 d.lo.length j2, .slice B3 d.up.length j3, rfl, ?_⟩
    first
      | (refine ⟨?_, (by with_reducible exact BoxD.new w3 _ _ _ _ _ _), ?_⟩
         · have h3 := HB3.out.size
           clear hk
           omega
         · exact ⟨(HO13.out.lower (by omega)).below ((Below.refl _ _).alloc (Nat.le_refl _) _), (HO23.out.lower (by omega)).below ((Below.refl _ _).alloc (Nat.le_refl _) _), (HO33.out.lower (by omega)).below ((Below.refl _ _).alloc (Nat.le_refl _) _), below_step HBB.out (HB3.out.alloc HB3.out.size _)⟩)
      | (refine ⟨?_, (by with_reducible exact BoxD.put hk _ _ _ _ _ _), ?_⟩
         · first | omega | (have := HB1.out.size; omega) | (have := HB2.out.size; omega)
         · have hd : 119 ≠ 52 := by decide
           have hd2 : 2 ≠ 52 := by decide
           have hle : w.heap.size ≤ Wb.heap.size := by omega
           exact ⟨(HO13.out.lower hle).six hk hd _ _ _ _ _ _, (HO23.out.lower hle).six hk hd2 _ _ _ _ _ _, (HO33.out.lower hle).six hk hd2 _ _ _ _ _ _, below_step HBB.out (HB3.out.trans (six_below (by first | with_reducible exact HG1.out | with_reducible exact HB1.out.size | with_reducible exact HB2.out.size) _ _ _ _ _ _))⟩)

end Go.Proofs.YtjeomiooheoegaaGreatDoor.PD
