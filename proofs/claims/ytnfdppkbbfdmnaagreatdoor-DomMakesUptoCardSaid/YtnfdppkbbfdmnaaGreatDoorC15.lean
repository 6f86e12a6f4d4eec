/- Parts of the laws of dom: functions of the program, each with the proof of what it answers; the conditions are those of each theorem. -/
import Derived.Test.YtnfdppkbbfdmnaaGreatDoorC14
import Derived.Lib.ParseIntBCases
import Derived.Lib.ParseIntBTie
import Derived.Test.YtnfdppkbbfdmnaaGreatDoorC1
namespace Go.Proofs.YtnfdppkbbfdmnaaGreatDoor.PD
open Go.RowKit Go.Proofs.YtnfdppkbbfdmnaaGreatDoorW.PrintWords Go.Proofs.YtnfdppkbbfdmnaaGreatDoorW.PrintLast Go.Proofs.YtnfdppkbbfdmnaaGreatDoorW.PrintMore
set_option linter.unusedVariables false
set_option linter.unusedSimpArgs false
/-! ### numbers, read back -/
def digitB (c : UInt8) : Bool := 48 ≤ c && c ≤ 57
def decV (l : List UInt8) : Nat := l.foldl (fun n c => 10 * n + (c.toNat - 48)) 0
theorem decD_all (n : Nat) : (∀ c ∈ Lib.decDigits n, digitB c = true) ∧ Lib.decDigits n ≠ [] ∧ decV (Lib.decDigits n) = n := by
  induction n using Nat.strongRecOn with
  | ind n ih =>
    have hd : ∀ m, m < 10 → digitB (UInt8.ofNat (48 + m)) = true ∧ (UInt8.ofNat (48 + m)).toNat - 48 = m := by
      intro m hm
      have e : (UInt8.ofNat (48 + m)).toNat = 48 + m := by rw [UInt8.toNat_ofNat']; omega
      refine ⟨?_, by omega⟩
      unfold digitB
      rw [Bool.and_eq_true, decide_eq_true_iff, decide_eq_true_iff, UInt8.le_iff_toNat_le, UInt8.le_iff_toNat_le, e]
      exact ⟨by show 48 ≤ _; omega, by show _ ≤ 57; omega⟩
    unfold Lib.decDigits
    split
    · rename_i h
      obtain ⟨h1, h2⟩ := hd n h
      refine ⟨fun c hc => by rw [List.mem_singleton] at hc; subst hc; exact h1, by simp, ?_⟩
      show 10 * 0 + _ = n
      rw [h2]; omega
    · rename_i h
      obtain ⟨q1, q2, q3⟩ := ih (n / 10) (by omega)
      obtain ⟨h1, h2⟩ := hd (n % 10) (by omega)
      refine ⟨fun c hc => ?_, by simp, ?_⟩
      · rw [List.mem_append, List.mem_singleton] at hc
        rcases hc with hc | rfl
        · exact q1 c hc
        · exact h1
      · unfold decV at q3 ⊢
        rw [List.foldl_append, q3]
        show 10 * (n / 10) + _ = n
        rw [h2]; omega
end Go.Proofs.YtnfdppkbbfdmnaaGreatDoor.PD

namespace Go.Proofs.YtnfdppkbbfdmnaaGreatDoor.PD
open Go.RowKit Go.Proofs.YtnfdppkbbfdmnaaGreatDoorW.PrintWords Go.Proofs.YtnfdppkbbfdmnaaGreatDoorW.PrintLast Go.Proofs.YtnfdppkbbfdmnaaGreatDoorW.PrintMore
set_option linter.unusedVariables false
set_option linter.unusedSimpArgs false
/-! ### a part, cut at its two dots -/
end Go.Proofs.YtnfdppkbbfdmnaaGreatDoor.PD

namespace Go.Proofs.YtnfdppkbbfdmnaaGreatDoor.PD
open Go.RowKit Go.Proofs.YtnfdppkbbfdmnaaGreatDoorW.PrintWords Go.Proofs.YtnfdppkbbfdmnaaGreatDoorW.PrintLast Go.Proofs.YtnfdppkbbfdmnaaGreatDoorW.PrintMore
set_option linter.unusedVariables false
set_option linter.unusedSimpArgs false
/-! ### a part, read -/
def twoB (x : List UInt8) : List UInt8 := if (Lib.cut x [46, 46]).2.2 = true then (Lib.cut x [46, 46]).2.1 else (Lib.cut x [46, 46]).1
def parsePart (x : List UInt8) : Option S57 :=
  match Lib.parseIntB 64 (Lib.cut x [46, 46]).1, Lib.parseIntB 64 (twoB x) with
  | .ok lo, .ok hi => some ⟨lo, hi⟩
  | _, _ => none
end Go.Proofs.YtnfdppkbbfdmnaaGreatDoor.PD

namespace Go.Proofs.YtnfdppkbbfdmnaaGreatDoor.PD
open Go.RowKit Go.Proofs.YtnfdppkbbfdmnaaGreatDoorW.PrintWords Go.Proofs.YtnfdppkbbfdmnaaGreatDoorW.PrintLast Go.Proofs.YtnfdppkbbfdmnaaGreatDoorW.PrintMore
set_option linter.unusedVariables false
set_option linter.unusedSimpArgs false
/-! ### all parts, read -/
def parseAll : List ByteArray → List S57 → Option (List S57)
  | [], acc => some acc
  | x :: xs, acc => match parsePart x.data.toList with
    | some r => parseAll xs (acc ++ [r])
    | none => none
end Go.Proofs.YtnfdppkbbfdmnaaGreatDoor.PD

namespace Go.Proofs.YtnfdppkbbfdmnaaGreatDoor.PD
open Go.RowKit Go.Proofs.YtnfdppkbbfdmnaaGreatDoorW.PrintWords Go.Proofs.YtnfdppkbbfdmnaaGreatDoorW.PrintLast Go.Proofs.YtnfdppkbbfdmnaaGreatDoorW.PrintMore
set_option linter.unusedVariables false
set_option linter.unusedSimpArgs false
/-! ### ParseInt -/
def PInt (x : List UInt8) (e : Ending) : Prop :=
  (∃ v, Lib.parseIntB 64 x = .ok v ∧ e = .returned (.tuple #[.int .i64 v, .nilIface])) ∨
  ((∀ v, Lib.parseIntB 64 x ≠ .ok v) ∧ ∃ n a, e = .returned (.tuple #[.int .i64 n, .iface 109 (.pointer (some a))]))
theorem pint_calls (s : ByteArray) (hz : s.size ≤ 140737488351232) (w : World) (hl : DomLaid w) :
    Calls Tryz.prog 68 #[.string s, .int .i64 10, .int .i64 64] w fun e w' => PInt s.data.toList e ∧ Below w.heap.size w w' := by
  obtain ⟨tp, p, hv⟩ := hl.syn
  obtain ⟨tq, q, hq⟩ := hl.rng
  rcases hp : Lib.parseIntB 64 s.data.toList with v | _ | _
  · refine (Tryz.strconv_ParseInt_10_at64_ok s (by omega) v hp w).mono ?_
    rintro e w' ⟨rfl, hw⟩
    refine ⟨.inl ⟨v, hp, rfl⟩, ?_⟩
    rcases hw with rfl | ⟨t, rfl⟩
    · exact Below.refl _ _
    · exact Go.Joins.below_bytesWorld _ _ _ _ (Nat.le_refl _)
  · refine (Tryz.strconv_ParseInt_10_at64_syntax_var s (by omega) hp tp p w hv).mono ?_
    rintro e w' ⟨N, rfl, _, _, hb⟩
    exact ⟨.inr ⟨fun v h => (by rw [hp] at h; cases h), _, _, rfl⟩, hb⟩
  · refine (Tryz.strconv_ParseInt_10_at64_range_var s (by omega) hp tq q w hq).mono ?_
    rintro e w' ⟨N, rfl, _, _, hb⟩
    exact ⟨.inr ⟨fun v h => (by rw [hp] at h; cases h), _, _, rfl⟩, hb⟩

end Go.Proofs.YtnfdppkbbfdmnaaGreatDoor.PD

namespace Go.Proofs.YtnfdppkbbfdmnaaGreatDoor.PD
open Go.RowKit Go.Proofs.YtnfdppkbbfdmnaaGreatDoorW.PrintWords Go.Proofs.YtnfdppkbbfdmnaaGreatDoorW.PrintLast Go.Proofs.YtnfdppkbbfdmnaaGreatDoorW.PrintMore
set_option linter.unusedVariables false
set_option linter.unusedSimpArgs false
/-! ### Parse of the program (begun) -/
def parseO (s : ByteArray) : Option (List S57) → List S57 × Int
  | none => ([], 20)
  | some l => if rightS l = true ∧ textT l = s then (l, 0) else ([], 20)
def partsOf (s : ByteArray) : List ByteArray := Lib.splitB ⟨#[44]⟩ 0 (Lib.countB s ⟨#[44]⟩) s
def parseS (s : ByteArray) : List S57 × Int := if 65536 < s.size then ([], 3) else if s = ⟨#[123, 125]⟩ then ([], 0) else parseO s (parseAll (partsOf s) [])
end Go.Proofs.YtnfdppkbbfdmnaaGreatDoor.PD

namespace Go.Proofs.YtnfdppkbbfdmnaaGreatDoor.PD
open Go.RowKit Go.Proofs.YtnfdppkbbfdmnaaGreatDoorW.PrintWords Go.Proofs.YtnfdppkbbfdmnaaGreatDoorW.PrintLast Go.Proofs.YtnfdppkbbfdmnaaGreatDoorW.PrintMore
set_option linter.unusedVariables false
set_option linter.unusedSimpArgs false
/-! ### Parse of the program -/
theorem indexT_at (b : Nat) (m c : Nat) (i : Int) (h : 0 ≤ i ∧ i < m) (W : World) : (Instr.indexAt 62 (.slice (some ⟨b, 0, none⟩) m c) (.int .i64 i)).run Tryz.prog W = .ok (.pointer (some ⟨b, i.toNat, none⟩)) W := by
  obtain ⟨h1, h2⟩ := h
  rw [run_indexAt_slice (k := .i64) (h := by kernel_rfl)]
  simp [go_sem, h1, h2, add_zero_off]
theorem parseAll_drop {xs : List ByteArray} {k : Nat} (h : k < xs.length) (acc : List S57) : parseAll (xs.drop k) acc = match parsePart xs[k].data.toList with
    | some r => parseAll (xs.drop (k + 1)) (acc ++ [r])
    | none => none := by
  rw [List.drop_eq_getElem_cons h]
  rfl
theorem parsePart_bad {x : List UInt8} (h : (∀ v, Lib.parseIntB 64 (Lib.cut x [46, 46]).1 ≠ .ok v) ∨ (∀ v, Lib.parseIntB 64 (twoB x) ≠ .ok v)) : parsePart x = none := by
  unfold parsePart
  split
  · rename_i lo hi e1 e2
    rcases h with h | h
    · exact absurd e1 (h _)
    · exact absurd e2 (h _)
  · rfl
theorem parsePart_good {x : List UInt8} {lo hi : Int} (h1 : Lib.parseIntB 64 (Lib.cut x [46, 46]).1 = .ok lo) (h2 : Lib.parseIntB 64 (twoB x) = .ok hi) : parsePart x = some ⟨lo, hi⟩ := by
  unfold parsePart
  rw [h1, h2]

end Go.Proofs.YtnfdppkbbfdmnaaGreatDoor.PD

namespace Go.Proofs.YtnfdppkbbfdmnaaGreatDoor.PD
open Go.RowKit Go.Proofs.YtnfdppkbbfdmnaaGreatDoorW.PrintWords Go.Proofs.YtnfdppkbbfdmnaaGreatDoorW.PrintLast Go.Proofs.YtnfdppkbbfdmnaaGreatDoorW.PrintMore
attribute [local go_sem] max2_int min2_int max_two min_two max_three min_three max_four min_four   -- for this text's walks alone
set_option linter.unusedVariables false
set_option linter.unusedSimpArgs false

/-! ### jigsawref02_number: function 69 -/
end Go.Proofs.YtnfdppkbbfdmnaaGreatDoor.PD

namespace Go.Proofs.YtnfdppkbbfdmnaaGreatDoor.PD
open Go.RowKit Go.Proofs.YtnfdppkbbfdmnaaGreatDoorW.PrintWords Go.Proofs.YtnfdppkbbfdmnaaGreatDoorW.PrintLast Go.Proofs.YtnfdppkbbfdmnaaGreatDoorW.PrintMore
set_option linter.unusedVariables false
set_option linter.unusedSimpArgs false
/-! ### a number at a place -/
def digU (b : UInt8) : Prop := 48 ≤ b.toNat ∧ b.toNat ≤ 57
instance (b : UInt8) : Decidable (digU b) := by unfold digU; infer_instance
def numL : Nat → List UInt8 → Nat → Nat × Nat
  | 0, _, n => (n, 0)
  | _ + 1, [], n => (n, 0)
  | d + 1, b :: t, n => if digU b then ((numL d t (10 * n + (b.toNat - 48))).1, (numL d t (10 * n + (b.toNat - 48))).2 + 1) else (n, 0)
def sgn (neg : Bool) (n : Nat) : Int := if neg then -(n : Int) else n
def numS : List UInt8 → Int × Nat × Bool
  | [] => (0, 0, false)
  | c :: t => if c.toNat = 45 then (sgn true (numL 9 t 0).1, (numL 9 t 0).2 + 1, decide (0 < (numL 9 t 0).2)) else (sgn false (numL 9 (c :: t) 0).1, (numL 9 (c :: t) 0).2, decide (0 < (numL 9 (c :: t) 0).2))
theorem numL_digits : ∀ (ds post : List UInt8) (d n : Nat), (∀ c ∈ ds, digU c) → ds.length ≤ d → (∀ c ∈ post.head?, ¬ digU c) → numL d (ds ++ post) n = (ds.foldl (fun n c => 10 * n + (c.toNat - 48)) n, ds.length)
  | [], post, d, n, _, _, hp => by
    rw [List.nil_append]
    cases d with
    | zero => rfl
    | succ d =>
      cases post with
      | nil => rfl
      | cons c t => rw [numL, if_neg (hp c (by simp))]; rfl
  | b :: ds, post, d, n, h, hl, hp => by
    cases d with
    | zero => rw [List.length_cons] at hl; omega
    | succ d =>
      rw [List.cons_append, numL, if_pos (h b (by simp)), numL_digits ds post d _ (fun c hc => h c (by simp [hc])) (by rw [List.length_cons] at hl; omega) hp]
      rfl
theorem numS_itoa (n : Int) (h0 : -1000000 ≤ n) (h1 : n ≤ 1000000) (post : List UInt8) (hp : ∀ c ∈ post.head?, ¬ digU c) : numS (Lib.itoa n ++ post) = (n, (Lib.itoa n).length, true) := by
  have hd : ∀ m, ∀ c ∈ Lib.decDigits m, digU c := fun m c hc => digits_ok m c hc
  have hv : ∀ m, (Lib.decDigits m).foldl (fun n c => 10 * n + (c.toNat - 48)) 0 = m := fun m => (decD_all m).2.2
  have hne : ∀ m, 0 < (Lib.decDigits m).length := fun m => List.length_pos_iff.2 (decD_all m).2.1
  have hl : ∀ m, m < 10000000 → (Lib.decDigits m).length ≤ 7 := fun m hm => decD_len 6 m (by omega)
  unfold Lib.itoa
  split
  · rename_i hn
    rw [List.cons_append, numS, if_pos (by decide), numL_digits _ _ _ _ (hd _) (by have := hl n.natAbs (by omega); omega) hp, hv]
    dsimp only
    rw [decide_eq_true (hne _), List.length_cons]
    unfold sgn
    rw [if_pos rfl]
    congr 1
    omega
  · rename_i hn
    have q := numL_digits (Lib.decDigits n.toNat) post 9 0 (hd _) (by have := hl n.toNat (by omega); omega) hp
    have hh := hd n.toNat
    have hp0 := hne n.toNat
    rcases e : Lib.decDigits n.toNat with _ | ⟨c, t⟩
    · rw [e] at hp0; simp at hp0
    · have e2 := hv n.toNat
      rw [e] at q hh hp0 e2
      have hc := hh c (by simp)
      unfold digU at hc
      rw [List.cons_append] at q ⊢
      rw [numS, if_neg (by omega), q, e2]
      dsimp only
      rw [decide_eq_true hp0]
      unfold sgn
      rw [if_neg (by decide)]
      congr 1
      omega
/-! ### the printed function -/
end Go.Proofs.YtnfdppkbbfdmnaaGreatDoor.PD

namespace Go.Proofs.YtnfdppkbbfdmnaaGreatDoor.PD
open Go.RowKit Go.Proofs.YtnfdppkbbfdmnaaGreatDoorW.PrintWords Go.Proofs.YtnfdppkbbfdmnaaGreatDoorW.PrintLast Go.Proofs.YtnfdppkbbfdmnaaGreatDoorW.PrintMore
set_option linter.unusedVariables false
set_option linter.unusedSimpArgs false
/-! ### Split and Cut -/
/-- two texts held against each other, as the walk spells it -/
theorem str_eqB (a b : ByteArray) : (a.toList == b.toList) = decide (a = b) := by
  rw [Bool.eq_iff_iff, beq_iff_eq, decide_eq_true_iff, ByteArray.toList_eq, ByteArray.toList_eq]
  constructor
  · intro h
    cases a; cases b
    congr 1
    exact Array.toList_inj.1 h
  · rintro rfl
    rfl
theorem str_neL {a : ByteArray} {l : List UInt8} (h : a ≠ ⟨l.toArray⟩) : (a.toList == l) = false := by
  have := str_eqB a ⟨l.toArray⟩
  rw [decide_eq_false h, ByteArray.toList_eq ⟨l.toArray⟩] at this
  exact this
theorem split_size (sep : ByteArray) : ∀ (k : Nat) (s : ByteArray), ∀ x ∈ Lib.splitB sep 0 k s, x.size ≤ s.size
  | 0, s, x, h => by
    rw [Lib.splitB_zero, List.mem_singleton] at h
    subst h
    exact Nat.le_refl _
  | k + 1, s, x, h => by
    unfold Lib.splitB at h
    split at h
    · rw [List.mem_singleton] at h
      subst h
      exact Nat.le_refl _
    · rw [List.mem_cons] at h
      rcases h with rfl | h
      · rw [ByteArray.size_extract]; omega
      · have := split_size sep k _ x h
        rw [ByteArray.size_extract] at this
        omega
theorem parts_count (s : ByteArray) : (partsOf s).length = Lib.countB s ⟨#[44]⟩ + 1 := Lib.splitB_all ⟨#[44]⟩ (by decide) 0 _ s rfl
theorem split_calls (s : ByteArray) (hz : s.size ≤ 65536) (w : World) (hl : DomLaid w) :
    Calls Tryz.prog 66 #[.string s, .string ⟨#[44]⟩] w fun e w' => e = .returned (.slice (some ⟨w.heap.size, 0, none⟩) (partsOf s).length (partsOf s).length) ∧ (∀ k (h : k < (partsOf s).length), w'.cell? ⟨w.heap.size, k, none⟩ = some (.string (partsOf s)[k])) ∧ w.heap.size < w'.heap.size ∧ Below w.heap.size w w' := by
  obtain ⟨m, hm⟩ := hl.mx
  refine (Tryz.strings_Split s ⟨#[44]⟩ m w (by omega) hm (by decide)).mono ?_
  rintro e w' ⟨rfl, rfl⟩
  refine ⟨by rw [parts_count], fun k h => ?_, by simp, (Below.refl _ _).alloc (Nat.le_refl _) _⟩
  refine (blk_cell (World.alloc_heap_new _ _) k).trans ?_
  show ((List.map Value.string (partsOf s)).toArray)[k]? = _
  rw [List.getElem?_toArray, List.getElem?_map, List.getElem?_eq_getElem h]
  rfl
theorem cutd_calls (x : ByteArray) (hz : x.size ≤ 65536) (w : World) (hl : DomLaid w) :
    Calls Tryz.prog 67 #[.string x, .string ⟨#[46, 46]⟩] w fun e w' => e = .returned (.tuple #[.string ⟨(Lib.cut x.data.toList [46, 46]).1.toArray⟩, .string ⟨(Lib.cut x.data.toList [46, 46]).2.1.toArray⟩, .bool (Lib.cut x.data.toList [46, 46]).2.2]) ∧ Below w.heap.size w w' := by
  obtain ⟨m, hm⟩ := hl.mx
  refine (Tryz.strings_Cut x ⟨#[46, 46]⟩ m w (by omega) hm).mono ?_
  rintro e w' ⟨rfl, k, rfl⟩
  exact ⟨rfl, Drawn0.below ⟨⟨k, rfl⟩⟩⟩
theorem cut_len (l sep : List UInt8) : (Lib.cut l sep).1.length ≤ l.length ∧ (Lib.cut l sep).2.1.length ≤ l.length := by
  unfold Lib.cut
  split
  · exact ⟨by rw [List.length_take]; omega, by rw [List.length_drop]; omega⟩
  · exact ⟨Nat.le_refl _, Nat.zero_le _⟩
set_option maxRecDepth 100000 in
set_option maxHeartbeats 8000000 in
theorem Parse_calls (s : ByteArray) (hz : s.size ≤ 140737488351232) (w : World) (hd : DomLaid w) :
    Calls Tryz.prog 24 #[.string s] w fun e w' => ∃ v', e = .returned (.tuple #[v', .int .i64 (parseS s).2]) ∧ Row w' w.heap.size v' (parseS s).1 ∧ Below w.heap.size w w' := by
  by_cases hbig : 65536 < s.size
  · have hp : parseS s = ([], 3) := by unfold parseS; rw [if_pos hbig]
    rw [hp]
    clear hp hd
    go_enter Tryz.func24, Tryz.ntmps24
    go_wp2_with fail
    go_ret2
    exact ⟨_, rfl, Row.nil _ _, Below.refl _ _⟩
  by_cases hbr : s = ⟨#[123, 125]⟩
  · have hp : parseS s = ([], 0) := by unfold parseS; rw [if_neg hbig, if_pos hbr]
    rw [hp]
    clear hp hd
    subst hbr
    go_enter Tryz.func24, Tryz.ntmps24
    go_wp2_with fail
    go_ret2
    exact ⟨_, rfl, Row.nil _ _, Below.refl _ _⟩
  have hp : parseS s = parseO s (parseAll (partsOf s) []) := by unfold parseS; rw [if_neg hbig, if_neg hbr]
  rw [hp]
  have hne : (s.toList == [123, 125]) = false := str_neL hbr
  have hz2 : s.size ≤ 65536 := by omega
  obtain ⟨i0, hi0, hz0, hz1, hzz2⟩ := info_parts info57
  have HSP := Lib.hid (split_calls s hz2 w hd)
  have HSZ := Lib.hid (split_size ⟨#[44]⟩ (Lib.countB s ⟨#[44]⟩) s)
  have HPL := Lib.hid (parts_count s)
  have hcl := Lib.countB_le ⟨#[44]⟩ (by decide) s.size s (Nat.le_refl _)
  have HD := Lib.hid hd
  change Hid (∀ x ∈ partsOf s, x.size ≤ s.size) at HSZ
  obtain ⟨xs, hxs⟩ : ∃ xs, partsOf s = xs := ⟨_, rfl⟩
  rw [hxs] at HSP HSZ HPL ⊢
  obtain ⟨n, hn⟩ : ∃ n, xs.length = n := ⟨_, rfl⟩
  have hnb : n ≤ 65537 := by have := HPL.out; rw [hn] at this; omega
  have HN := Lib.hid hn
  clear hxs hn hd hp HPL hcl
  obtain ⟨res, hres⟩ : ∃ res, parseO s (parseAll xs []) = res := ⟨_, rfl⟩
  rw [hres]
  have HRES := Lib.hid hres
  clear hres
  go_enter Tryz.func24, Tryz.ntmps24
  go_wp2_with fail
  refine HSP.out.mono ?_
  rintro e w1 ⟨rfl, hcells, hlt, hb1⟩
  rw [HN.out]
  have HCE := Lib.hid hcells; have HB1 := Lib.hid hb1
  have HD1 := Lib.hid (HD.out.below hb1)
  obtain ⟨g, hg⟩ : ∃ g, w.heap.size = g := ⟨_, rfl⟩
  rw [hg] at hlt HCE
  simp only [hg]
  have HG := Lib.hid hg
  clear hcells hb1 hg
  go_wp2_with fail
  go_loopw [4, 24] (fun o i wr => ∃ (k : Nat) (acc : List S57), i = .int .i64 k ∧ k ≤ n ∧ acc.length ≤ k ∧ Hid (parseAll xs [] = parseAll (xs.drop k) acc) ∧ Hid (Row wr w1.heap.size o acc) ∧ Hid (Below w1.heap.size w1 wr))
    (fun _ i _ => n - (intOf i).toNat)
  case atStart => exact ⟨0, [], rfl, Nat.zero_le _, Nat.zero_le _, Lib.hid rfl, Lib.hid (Row.nil _ _), Lib.hid (Below.refl _ _)⟩
  case round =>
    obtain ⟨k, acc, rfl, hk, hal, hP, hO, hB⟩ := hrel
    obtain ⟨A0, c0, rfl⟩ := row_form hO.out
    have hgz := hB.out.size
    by_cases hkn : k < n
    · have hkx : k < xs.length := by rw [HN.out]; exact hkn
      have hx0 := (hB.out.cell (p := ⟨g, k, none⟩) hlt).trans (HCE.out k hkx)
      have hxz := HSZ.out _ (List.getElem_mem hkx)
      have hstep := parseAll_drop hkx acc
      have HDW := Lib.hid (HD1.out.below hB.out)
      generalize xs[k] = x at *
      have HST := Lib.hid (hP.out.trans hstep)
      have hix := fun W => indexT_at g n n (k : Nat) (by omega) W
      simp only [Int.toNat_natCast] at hix
      have HC := Lib.hid (fun W hd => cutd_calls x (by omega) W hd)
      obtain ⟨hl1, hl2⟩ := cut_len x.data.toList [46, 46]
      have hxd : x.data.toList.length = x.size := by simp
      obtain ⟨⟨p1, p2, two⟩, hcut⟩ : ∃ q, Lib.cut x.data.toList [46, 46] = q := ⟨_, rfl⟩
      have htw : twoB x.data.toList = if two = true then p2 else p1 := by unfold twoB; rw [hcut]
      rw [hcut] at hl1 hl2 HC
      dsimp only at hl1 hl2 HC
      have KA := Lib.hid (fun W hd => pint_calls ⟨p1.toArray⟩ (by show p1.toArray.size ≤ _; rw [List.size_toArray]; omega) W hd)
      have KB := Lib.hid (fun W hd => pint_calls ⟨p2.toArray⟩ (by show p2.toArray.size ≤ _; rw [List.size_toArray]; omega) W hd)
      change Hid (∀ W (hd : DomLaid W), Calls Tryz.prog 68 #[.string ⟨p1.toArray⟩, .int .i64 10, .int .i64 64] W fun e w' => PInt p1 e ∧ Below W.heap.size W w') at KA
      change Hid (∀ W (hd : DomLaid W), Calls Tryz.prog 68 #[.string ⟨p2.toArray⟩, .int .i64 10, .int .i64 64] W fun e w' => PInt p2 e ∧ Below W.heap.size W w') at KB
      have HCUT := Lib.hid hcut; have HTW := Lib.hid htw
      clear hcut htw hl1 hl2 hxd hstep
      cases two with
      | false =>
        clear KB
        have HK2 := KA
        have HTW2 : Hid (twoB x.data.toList = p1) := HTW
        go_wp2_with fail
        refine (HC.out _ HDW.out).mono ?_
        rintro e w2 ⟨rfl, hb2⟩
        have HB2 := Lib.hid (below_step hB.out hb2); have HDW2 := Lib.hid (HDW.out.below hb2)
        have HO2 := Lib.hid (hO.out.below hb2)
        clear hb2
        go_wp2_with fail
        refine (KA.out _ HDW2.out).mono ?_
        rintro e w3 ⟨hP3, hb3⟩
        have HB3 := Lib.hid (below_step HB2.out hb3); have HDW3 := Lib.hid (HDW2.out.below hb3)
        have HO3 := Lib.hid (HO2.out.below hb3)
        clear hb3
        rcases hP3 with ⟨a, hpa, rfl⟩ | ⟨hpa, n1, a1, rfl⟩
        · have HPA := Lib.hid hpa
          clear hpa
          go_wp2_with fail
          refine (HK2.out _ HDW3.out).mono ?_
          rintro e w4 ⟨hP4, hb4⟩
          have HB4 := Lib.hid (below_step HB3.out hb4)
          have HO4 := Lib.hid (HO3.out.below hb4)
          clear hb4
          rcases hP4 with ⟨b, hpb, rfl⟩ | ⟨hpb, n2, a2, rfl⟩
          · have hgood := parsePart_good (x := x.data.toList) (lo := a) (hi := b) (by rw [HCUT.out]; exact HPA.out) (by rw [HTW2.out]; exact hpb)
            have HST2 : Hid (parseAll xs [] = parseAll (xs.drop (k + 1)) (acc ++ [⟨a, b⟩])) := by have := HST.out; rw [hgood] at this; exact this
            have hgz4 := HB4.out.size
            clear hgood hpb HST
            go_wp2_with ((with_reducible refine gate_dst (N := 58) rfl ?_); refine wpList_append_own _ rfl _ _ 23 rfl w1.heap.size 57 i0 _ 2 16 Tryz.underlying23 hi0 hz0 hz1 hzz2 rfl (by decide) _ _ _ rfl ((Row.own HO4.out).alloc _) ⟨_, 0, none⟩ 1 1 [.int .i64 a, .int .i64 b] rfl rfl (cell_pair_at _ _ (by simp) _ _ _) (by simp [Value.oneCell']) (by simp only [maxLen]; omega) (by omega) (by first | omega | (simp; omega)) ?_; intro v' w6 hown' hgrow _; obtain ⟨q1, q2⟩ := HO4.out.pushed hown' hgrow (by first | omega | (simp; omega)); have hQ1 := Lib.hid q1; have hQ2 := Lib.hid (HB4.out.trans q2); clear hown' hgrow q1 q2)
            refine ⟨⟨k + 1, acc ++ [⟨a, b⟩], by rw [Int.natCast_add]; rfl, by omega, by rw [List.length_append, List.length_singleton]; omega, HST2, hQ1, hQ2⟩, by simp [intOf]; omega⟩
          · have hbad := parsePart_bad (x := x.data.toList) (.inr (by rw [HTW2.out]; exact hpb))
            have hres : res = ([], 20) := by rw [← HRES.out, HST.out, hbad]; rfl
            have HRS := Lib.hid hres
            clear hres hbad hpb
            go_wp2_with fail
            go_ret2
            rw [HRS.out]
            exact ⟨_, rfl, Row.nil _ _, HG.out ▸ below_step HB1.out HB4.out⟩
        · have hbad := parsePart_bad (x := x.data.toList) (.inl (by rw [HCUT.out]; exact hpa))
          have hres : res = ([], 20) := by rw [← HRES.out, HST.out, hbad]; rfl
          have HRS := Lib.hid hres
          clear hres hbad hpa
          go_wp2_with fail
          refine (HK2.out _ HDW3.out).mono ?_
          rintro e w4 ⟨hP4, hb4⟩
          have HB4 := Lib.hid (below_step HB3.out hb4)
          clear hb4
          rcases hP4 with ⟨b, hpb, rfl⟩ | ⟨hpb, n2, a2, rfl⟩
          all_goals
            clear hpb
            go_wp2_with fail
            go_ret2
            rw [HRS.out]
            exact ⟨_, rfl, Row.nil _ _, HG.out ▸ below_step HB1.out HB4.out⟩
      | true =>
        have HK2 := KB
        have HTW2 : Hid (twoB x.data.toList = p2) := HTW
        go_wp2_with fail
        refine (HC.out _ HDW.out).mono ?_
        rintro e w2 ⟨rfl, hb2⟩
        have HB2 := Lib.hid (below_step hB.out hb2); have HDW2 := Lib.hid (HDW.out.below hb2)
        have HO2 := Lib.hid (hO.out.below hb2)
        clear hb2
        go_wp2_with fail
        refine (KA.out _ HDW2.out).mono ?_
        rintro e w3 ⟨hP3, hb3⟩
        have HB3 := Lib.hid (below_step HB2.out hb3); have HDW3 := Lib.hid (HDW2.out.below hb3)
        have HO3 := Lib.hid (HO2.out.below hb3)
        clear hb3
        rcases hP3 with ⟨a, hpa, rfl⟩ | ⟨hpa, n1, a1, rfl⟩
        · have HPA := Lib.hid hpa
          clear hpa
          go_wp2_with fail
          refine (HK2.out _ HDW3.out).mono ?_
          rintro e w4 ⟨hP4, hb4⟩
          have HB4 := Lib.hid (below_step HB3.out hb4)
          have HO4 := Lib.hid (HO3.out.below hb4)
          clear hb4
          rcases hP4 with ⟨b, hpb, rfl⟩ | ⟨hpb, n2, a2, rfl⟩
          · have hgood := parsePart_good (x := x.data.toList) (lo := a) (hi := b) (by rw [HCUT.out]; exact HPA.out) (by rw [HTW2.out]; exact hpb)
            have HST2 : Hid (parseAll xs [] = parseAll (xs.drop (k + 1)) (acc ++ [⟨a, b⟩])) := by have := HST.out; rw [hgood] at this; exact this
            have hgz4 := HB4.out.size
            clear hgood hpb HST
            go_wp2_with ((with_reducible refine gate_dst (N := 58) rfl ?_); refine wpList_append_own _ rfl _ _ 23 rfl w1.heap.size 57 i0 _ 2 16 Tryz.underlying23 hi0 hz0 hz1 hzz2 rfl (by decide) _ _ _ rfl ((Row.own HO4.out).alloc _) ⟨_, 0, none⟩ 1 1 [.int .i64 a, .int .i64 b] rfl rfl (cell_pair_at _ _ (by simp) _ _ _) (by simp [Value.oneCell']) (by simp only [maxLen]; omega) (by omega) (by first | omega | (simp; omega)) ?_; intro v' w6 hown' hgrow _; obtain ⟨q1, q2⟩ := HO4.out.pushed hown' hgrow (by first | omega | (simp; omega)); have hQ1 := Lib.hid q1; have hQ2 := Lib.hid (HB4.out.trans q2); clear hown' hgrow q1 q2)
            refine ⟨⟨k + 1, acc ++ [⟨a, b⟩], by rw [Int.natCast_add]; rfl, by omega, by rw [List.length_append, List.length_singleton]; omega, HST2, hQ1, hQ2⟩, by simp [intOf]; omega⟩
          · have hbad := parsePart_bad (x := x.data.toList) (.inr (by rw [HTW2.out]; exact hpb))
            have hres : res = ([], 20) := by rw [← HRES.out, HST.out, hbad]; rfl
            have HRS := Lib.hid hres
            clear hres hbad hpb
            go_wp2_with fail
            go_ret2
            rw [HRS.out]
            exact ⟨_, rfl, Row.nil _ _, HG.out ▸ below_step HB1.out HB4.out⟩
        · have hbad := parsePart_bad (x := x.data.toList) (.inl (by rw [HCUT.out]; exact hpa))
          have hres : res = ([], 20) := by rw [← HRES.out, HST.out, hbad]; rfl
          have HRS := Lib.hid hres
          clear hres hbad hpa
          go_wp2_with fail
          refine (HK2.out _ HDW3.out).mono ?_
          rintro e w4 ⟨hP4, hb4⟩
          have HB4 := Lib.hid (below_step HB3.out hb4)
          clear hb4
          rcases hP4 with ⟨b, hpb, rfl⟩ | ⟨hpb, n2, a2, rfl⟩
          all_goals
            clear hpb
            go_wp2_with fail
            go_ret2
            rw [HRS.out]
            exact ⟨_, rfl, Row.nil _ _, HG.out ▸ below_step HB1.out HB4.out⟩
    · obtain rfl : k = n := by omega
      have hdr : xs.drop k = [] := List.drop_eq_nil_iff.2 (by rw [HN.out]; exact Nat.le_refl _)
      have hpa : parseO s (some acc) = res := by
        rw [← HRES.out, hP.out, hdr]
        rfl
      have HPA := Lib.hid hpa
      have HDW := Lib.hid (HD1.out.below hB.out)
      have HR := Lib.hid (right_calls (v := .slice A0 acc.length c0) acc wr hO.out.lst)
      have HB2 := Lib.hid (below_step HB1.out hB.out)
      have hle := hB.out.size
      clear hpa hdr
      cases hR : rightS acc with
      | false =>
        rw [hR] at HR
        go_wp2_with fail
        refine HR.out.mono ?_
        rintro e w3 ⟨rfl, hb3⟩
        go_wp2_with fail
        go_ret2
        have : res = ([], 20) := by rw [← HPA.out]; unfold parseO; dsimp only; rw [if_neg (by rw [hR]; simp)]
        rw [this, HG.out]
        exact ⟨_, rfl, Row.nil _ _, HG.out ▸ below_step HB2.out hb3⟩
      | true =>
        rw [hR] at HR
        go_wp2_with fail
        refine HR.out.mono ?_
        rintro e w3 ⟨rfl, hb3⟩
        have HT := Lib.hid (Text_calls (v := .slice A0 acc.length c0) acc w3 (hO.out.lst.below hb3) (HDW.out.below hb3))
        rw [takenL_of hR] at HT
        have HB3 := Lib.hid (below_step HB2.out hb3)
        have HO3 := Lib.hid (hO.out.below hb3)
        clear hb3
        by_cases hT : textT acc = s
        · have hres : res = (acc, 0) := by rw [← HPA.out]; unfold parseO; dsimp only; rw [if_pos ⟨hR, hT⟩]
          have HRS := Lib.hid hres
          rw [hT] at HT
          clear hres hT
          go_wp2_with fail
          refine HT.out.mono ?_
          rintro e w4 ⟨rfl, hb4⟩
          go_wp2_with fail
          go_ret2
          rw [HRS.out]
          exact ⟨_, rfl, (HO3.out.below hb4).lower (by have := HB1.out.size; omega), HG.out ▸ below_step HB3.out hb4⟩
        · have hres : res = ([], 20) := by rw [← HPA.out]; unfold parseO; dsimp only; rw [if_neg (by rintro ⟨_, h⟩; exact hT h)]
          have HRS := Lib.hid hres
          have hT' : ((textT acc).toList == s.toList) = false := by rw [str_eqB, decide_eq_false hT]
          clear hres
          generalize textT acc = T at *
          go_wp2_with fail
          refine HT.out.mono ?_
          rintro e w4 ⟨rfl, hb4⟩
          go_wp2_with fail
          go_ret2
          rw [HRS.out]
          exact ⟨_, rfl, Row.nil _ _, HG.out ▸ below_step HB3.out hb4⟩

end Go.Proofs.YtnfdppkbbfdmnaaGreatDoor.PD

namespace Go.Proofs.YtnfdppkbbfdmnaaGreatDoor.PD
open Go.RowKit Go.Proofs.YtnfdppkbbfdmnaaGreatDoorW.PrintWords Go.Proofs.YtnfdppkbbfdmnaaGreatDoorW.PrintLast Go.Proofs.YtnfdppkbbfdmnaaGreatDoorW.PrintMore
set_option linter.unusedVariables false
set_option linter.unusedSimpArgs false
/-! ### ranges read off a text, one by one -/
def dots : List UInt8 → Bool
  | a :: b :: _ => a == 46 && b == 46
  | _ => false
def postT (t : List S57) : List UInt8 := Lib.joinTail [44] ((partsT t).map (·.data.toList))
theorem postT_nil : postT [] = [] := rfl
theorem postT_cons (r : S57) (t : List S57) : postT (r :: t) = 44 :: (textT (r :: t)).data.toList := by
  rw [textT_list]
  unfold postT
  have e : (partsT (r :: t)).map (·.data.toList) = (rngT r).data.toList :: (partsT t).map (·.data.toList) := rfl
  rw [e]
  simp [Lib.joinTail]
theorem postT_head (t : List S57) : ∀ c ∈ (postT t).head?, ¬ digU c := by
  cases t with
  | nil => intro c hc; simp [postT_nil] at hc
  | cons r t =>
    intro c hc
    rw [postT_cons] at hc
    simp at hc
    subst hc
    decide
theorem itoa_rng (r : S57) : (rngT r).data.toList = if r.f0 < r.f1 then Lib.itoa r.f0 ++ 46 :: 46 :: Lib.itoa r.f1 else Lib.itoa r.f0 := by
  unfold rngT
  split
  · rw [ByteArray.data_append, ByteArray.data_append, Array.toList_append, Array.toList_append]
    rfl
  · rfl
/-- what stands in a text where a range begins -/
structure StepT (D : List UInt8) (r : S57) (t : List S57) : Prop where
  one : numS D = (r.f0, (Lib.itoa r.f0).length, true)
  dot : dots (D.drop (Lib.itoa r.f0).length) = decide (r.f0 < r.f1)
  two : r.f0 < r.f1 → numS (D.drop ((Lib.itoa r.f0).length + 2)) = (r.f1, (Lib.itoa r.f1).length, true) ∧ D.drop ((Lib.itoa r.f0).length + 2 + (Lib.itoa r.f1).length) = postT t
  none : ¬ r.f0 < r.f1 → D.drop (Lib.itoa r.f0).length = postT t
theorem step_text (r : S57) (t : List S57) (h0 : -1000000 ≤ r.f0) (h : r.f0 ≤ r.f1) (h1 : r.f1 ≤ 1000000) : StepT (textT (r :: t)).data.toList r t := by
  have e : (textT (r :: t)).data.toList = (rngT r).data.toList ++ postT t := textT_list
  rw [itoa_rng] at e
  have hp := postT_head t
  by_cases hc : r.f0 < r.f1
  · rw [if_pos hc, List.append_assoc, List.cons_append, List.cons_append] at e
    have d0 : (Lib.itoa r.f0 ++ 46 :: 46 :: (Lib.itoa r.f1 ++ postT t)).drop (Lib.itoa r.f0).length = 46 :: 46 :: (Lib.itoa r.f1 ++ postT t) := List.drop_left' rfl
    have d1 : (Lib.itoa r.f0 ++ 46 :: 46 :: (Lib.itoa r.f1 ++ postT t)).drop ((Lib.itoa r.f0).length + 2) = Lib.itoa r.f1 ++ postT t := by
      rw [← List.drop_drop, d0]; rfl
    rw [e]
    refine ⟨numS_itoa r.f0 h0 (by omega) _ (by intro c hc; simp at hc; subst hc; decide), ?_, fun _ => ⟨?_, ?_⟩, fun h => absurd hc h⟩
    · rw [d0, decide_eq_true hc]; rfl
    · rw [d1]; exact numS_itoa r.f1 (by omega) h1 _ hp
    · rw [← List.drop_drop, d1]; exact List.drop_left' rfl
  · rw [if_neg hc] at e
    rw [e]
    have d0 : (Lib.itoa r.f0 ++ postT t).drop (Lib.itoa r.f0).length = postT t := List.drop_left' rfl
    refine ⟨numS_itoa r.f0 h0 (by omega) _ hp, ?_, fun h => absurd h hc, fun _ => d0⟩
    rw [d0, decide_eq_false hc]
    cases t with
    | nil => rfl
    | cons q t =>
      rw [postT_cons]
      cases hq : (textT (q :: t)).data.toList with
      | nil => rfl
      | cons a u => rfl
/-- so far the text is as it must be -/
def GoodAt (s : ByteArray) (k : Nat) (acc : List S57) : Prop := ∀ l, rightS l = true → 0 < l.length → textT l = s → ∃ j, j < l.length ∧ acc = l.take j ∧ s.data.toList.drop k = (textT (l.drop j)).data.toList
/-- of a text that is some ranges' -/
theorem GoodAt.next {s : ByteArray} {k : Nat} {acc : List S57} (h : GoodAt s k acc) {l : List S57} (hR : rightS l = true) (hl : 0 < l.length) (e : textT l = s) :
    ∃ r t, StepT (s.data.toList.drop k) r t ∧ (t = [] → acc ++ [r] = l) ∧ (t ≠ [] → ∃ j, j < l.length ∧ acc ++ [r] = l.take j ∧ t = l.drop j) := by
  obtain ⟨j, hj, hacc, hd⟩ := h l hR hl e
  have hr := right_mem hR _ (List.getElem_mem hj)
  rw [List.drop_eq_getElem_cons hj] at hd
  refine ⟨l[j], l.drop (j + 1), by rw [hd]; exact step_text _ _ hr.1 hr.2.1 hr.2.2, fun ht => ?_, fun ht => ?_⟩
  · have hlen : l.length ≤ j + 1 := by rw [List.drop_eq_nil_iff] at ht; exact ht
    rw [hacc, ← List.take_succ_eq_append_getElem hj]
    exact List.take_of_length_le hlen
  · refine ⟨j + 1, ?_, ?_, rfl⟩
    · have hlen : ¬ l.length ≤ j + 1 := fun q => ht (List.drop_eq_nil_iff.2 q)
      omega
    · rw [hacc, ← List.take_succ_eq_append_getElem hj]
/-- what the reference reads at a place -/
def readR (D : List UInt8) : S57 := if dots (D.drop (numS D).2.1) = true then ⟨(numS D).1, (numS (D.drop ((numS D).2.1 + 2))).1⟩ else ⟨(numS D).1, (numS D).1⟩
def readN (D : List UInt8) : Nat := if dots (D.drop (numS D).2.1) = true then (numS D).2.1 + 2 + (numS (D.drop ((numS D).2.1 + 2))).2.1 else (numS D).2.1
theorem StepT.read {D : List UInt8} {r : S57} {t : List S57} (h : StepT D r t) (hr : r.f0 ≤ r.f1) : readR D = r ∧ D.drop (readN D) = postT t := by
  obtain ⟨h1, h2, h3, h4⟩ := h
  have a1 : (numS D).1 = r.f0 := by rw [h1]
  have a2 : (numS D).2.1 = (Lib.itoa r.f0).length := by rw [h1]
  unfold readR readN
  rw [a1, a2, h2]
  by_cases hc : r.f0 < r.f1
  · obtain ⟨q1, q2⟩ := h3 hc
    rw [if_pos (decide_eq_true hc), if_pos (decide_eq_true hc), q1]
    exact ⟨rfl, q2⟩
  · rw [if_neg (by simpa using hc), if_neg (by simpa using hc)]
    exact ⟨S57_eta rfl (by show r.f0 = r.f1; omega), h4 hc⟩
/-- behind a range: the end, a comma, or no ranges -/
theorem GoodAt.after {s : ByteArray} {k : Nat} {acc : List S57} (h : GoodAt s k acc) (hk : k ≤ s.size) :
    (k + readN (s.data.toList.drop k) = s.size → ∀ l, rightS l = true → 0 < l.length → textT l = s → acc ++ [readR (s.data.toList.drop k)] = l) ∧
    (∀ c u, s.data.toList.drop (k + readN (s.data.toList.drop k)) = c :: u → c = 44 → GoodAt s (k + readN (s.data.toList.drop k) + 1) (acc ++ [readR (s.data.toList.drop k)])) ∧
    (∀ c u, s.data.toList.drop (k + readN (s.data.toList.drop k)) = c :: u → c ≠ 44 → ∀ l, rightS l = true → 0 < l.length → textT l = s → False) := by
  have key : ∀ l, rightS l = true → 0 < l.length → textT l = s → ∃ t, s.data.toList.drop (k + readN (s.data.toList.drop k)) = postT t ∧ (t = [] → acc ++ [readR (s.data.toList.drop k)] = l) ∧ (t ≠ [] → ∃ j, j < l.length ∧ acc ++ [readR (s.data.toList.drop k)] = l.take j ∧ t = l.drop j) := by
    intro l hR hl e
    obtain ⟨j, hj, hacc, hd⟩ := h l hR hl e
    have hr := right_mem hR _ (List.getElem_mem hj)
    have hs := step_text l[j] (l.drop (j + 1)) hr.1 hr.2.1 hr.2.2
    rw [← List.drop_eq_getElem_cons hj, ← hd] at hs
    obtain ⟨q1, q2⟩ := hs.read hr.2.1
    refine ⟨l.drop (j + 1), by rw [← List.drop_drop, q2], fun ht => ?_, fun ht => ?_⟩
    · have hlen : l.length ≤ j + 1 := by rw [List.drop_eq_nil_iff] at ht; exact ht
      rw [q1, hacc, ← List.take_succ_eq_append_getElem hj]
      exact List.take_of_length_le hlen
    · refine ⟨j + 1, ?_, ?_, rfl⟩
      · have hlen : ¬ l.length ≤ j + 1 := fun q => ht (List.drop_eq_nil_iff.2 q)
        omega
      · rw [q1, hacc, ← List.take_succ_eq_append_getElem hj]
  refine ⟨fun hend l hR hl e => ?_, fun c u hc hc44 l hR hl e => ?_, fun c u hc hc44 l hR hl e => ?_⟩
  · obtain ⟨t, q1, q2, q3⟩ := key l hR hl e
    rw [hend, List.drop_eq_nil_iff.2 (by simp)] at q1
    cases t with
    | nil => exact q2 rfl
    | cons r t => rw [postT_cons] at q1; cases q1
  · obtain ⟨t, q1, q2, q3⟩ := key l hR hl e
    cases t with
    | nil => rw [hc, postT_nil] at q1; cases q1
    | cons r t =>
      obtain ⟨j, hj, ha, ht⟩ := q3 (by simp)
      refine ⟨j, hj, ha, ?_⟩
      rw [← List.drop_drop, q1, postT_cons, ← ht]
      rfl
  · obtain ⟨t, q1, q2, q3⟩ := key l hR hl e
    cases t with
    | nil => rw [hc, postT_nil] at q1; cases q1
    | cons r t =>
      rw [hc, postT_cons] at q1
      injection q1 with q1
      exact hc44 q1
end Go.Proofs.YtnfdppkbbfdmnaaGreatDoor.PD

namespace Go.Proofs.YtnfdppkbbfdmnaaGreatDoor.PD
open Go.RowKit Go.Proofs.YtnfdppkbbfdmnaaGreatDoorW.PrintWords Go.Proofs.YtnfdppkbbfdmnaaGreatDoorW.PrintLast Go.Proofs.YtnfdppkbbfdmnaaGreatDoorW.PrintMore
set_option linter.unusedVariables false
set_option linter.unusedSimpArgs false
/-! ### Parse of the reference -/
end Go.Proofs.YtnfdppkbbfdmnaaGreatDoor.PD

namespace Go.Proofs.YtnfdppkbbfdmnaaGreatDoor.PD
open Go.RowKit Go.Proofs.YtnfdppkbbfdmnaaGreatDoorW.PrintWords Go.Proofs.YtnfdppkbbfdmnaaGreatDoorW.PrintLast Go.Proofs.YtnfdppkbbfdmnaaGreatDoorW.PrintMore
set_option linter.unusedVariables false
set_option linter.unusedSimpArgs false
/-! ### known -/
theorem ints_reps (w : World) (xs : List Int) : Reps ((Kd.int .i64).K w) 1 xs (ints64 xs) := by
  obtain ⟨r, rfl⟩ : ∃ r, xs = r.reverse := ⟨xs.reverse, by simp⟩
  induction r with
  | nil => exact Reps.none _ _
  | cons s r ih =>
    rw [List.reverse_cons, ints64_snoc]
    exact ih.snoc rfl rfl
theorem RowI.lst {w : World} {base : Nat} {v : Value} {l : List Int} (h : RowI w base v l) : LstI w v l := by
  obtain ⟨A, c, e, hC⟩ := own_reads_row h (ints_reps w l) rfl
  refine ⟨A, c, e, hC, ?_⟩
  subst e
  exact row_cap h
theorem four_ints (w : World) (a b c d : Int) : LstI (w.alloc (.cells #[.int .i64 a, .int .i64 b, .int .i64 c, .int .i64 d] 2)) (.slice (some ⟨w.heap.size, 0, none⟩) 4 4) [a, b, c, d] :=
  RowI.lst (base := w.heap.size) ⟨rfl, .inr ⟨w.heap.size, 4, _, rfl, Nat.le_refl _, World.alloc_heap_new _ _, Nat.le_refl _, by decide, rfl, rfl⟩⟩
theorem two_lst (w : World) (x y x' y' : Int) : Lst (w.alloc (.cells #[.int .i64 x, .int .i64 y, .int .i64 x', .int .i64 y'] 57)) (.slice (some ⟨w.heap.size, 0, none⟩) 2 2) [⟨x, y⟩, ⟨x', y'⟩] :=
  Row.lst (base := w.heap.size) ⟨rfl, .inr ⟨w.heap.size, 2, _, rfl, Nat.le_refl _, World.alloc_heap_new _ _, Nat.le_refl _, by decide, rfl, rfl⟩⟩
theorem kn9 : parseS ⟨#[49, 44, 50]⟩ = ([], 20) := by rfl
theorem kn10 : fitL [⟨1, 2⟩, ⟨6, 9⟩] = ([⟨1, 2⟩, ⟨6, 9⟩], 0) := by rfl
theorem kn11 : takenL [⟨1, 2⟩, ⟨5, 5⟩] = ([⟨1, 2⟩, ⟨5, 5⟩] : List S57) := by rfl
theorem kn12 : takenL [⟨1, 2⟩, ⟨6, 9⟩] = ([⟨1, 2⟩, ⟨6, 9⟩] : List S57) := by rfl
theorem known_of (w : World) : Calls Tryz.prog 10 #[.slice (some ⟨w.heap.size, 0, none⟩) 4 4] (w.alloc (.cells #[.int .i64 5, .int .i64 1, .int .i64 2, .int .i64 2] 2)) fun e w' => ∃ v', e = .returned (.tuple #[v', .int .i64 0]) ∧ Lst w' v' [⟨1, 2⟩, ⟨5, 5⟩] ∧ Below w.heap.size w w' := by
  have h := Of_calls [5, 1, 2, 2] _ (four_ints w 5 1 2 2) (by decide)
  rw [kn1] at h
  refine h.mono ?_
  rintro e w' ⟨v', rfl, hr, hb⟩
  exact ⟨v', rfl, hr.lst, below_step ((Below.refl _ _).alloc (Nat.le_refl _) _) hb⟩
theorem known_span (w : World) : Calls Tryz.prog 14 #[.int .i64 1, .int .i64 9] w fun e w' => ∃ v', e = .returned (.tuple #[v', .int .i64 0]) ∧ Lst w' v' [⟨1, 9⟩] ∧ Below w.heap.size w w' := by
  have h := Span_calls 1 9 w
  rw [kn2] at h
  refine h.mono ?_
  rintro e w' ⟨v', rfl, hr, hb⟩
  exact ⟨v', rfl, hr.lst, hb⟩
theorem known_less {v : Value} (w : World) (hv : Lst w v [⟨1, 9⟩]) : Calls Tryz.prog 44 #[v, .slice (some ⟨w.heap.size, 0, none⟩) 1 1] (w.alloc (.cells #[.int .i64 3, .int .i64 5] 57)) fun e w' => ∃ v', e = .returned (.tuple #[v', .int .i64 0]) ∧ Lst w' v' [⟨1, 2⟩, ⟨6, 9⟩] ∧ Below w.heap.size w w' := by
  have hb0 : Below w.heap.size w (w.alloc (.cells #[.int .i64 3, .int .i64 5] 57)) := (Below.refl _ _).alloc (Nat.le_refl _) _
  have h := less_calls _ _ _ (hv.below hb0) (one_lst w 3 5)
  rw [kn4, kn5, kn10] at h
  refine h.mono ?_
  rintro e w' ⟨v', e', rfl, ⟨hr, rfl⟩, hb⟩
  exact ⟨v', rfl, hr.lst, below_step hb0 hb⟩
theorem known_next (w : World) : Calls Tryz.prog 31 #[.slice (some ⟨w.heap.size, 0, none⟩) 2 2, .int .i64 3] (w.alloc (.cells #[.int .i64 1, .int .i64 2, .int .i64 7, .int .i64 9] 57)) fun e w' => e = .returned (.tuple #[.int .i64 7, .bool true]) ∧ Below w.heap.size w w' := by
  have h := next_calls _ 3 _ (two_lst w 1 2 7 9)
  rw [kn6] at h
  refine h.mono ?_
  rintro e w' ⟨rfl, hb⟩
  exact ⟨rfl, below_step ((Below.refl _ _).alloc (Nat.le_refl _) _) hb⟩
theorem known_parse (w : World) (hd : DomLaid w) : Calls Tryz.prog 24 #[.string ⟨#[49, 44, 50]⟩] w fun e w' => ∃ v', e = .returned (.tuple #[v', .int .i64 20]) ∧ Below w.heap.size w w' := by
  have h := Parse_calls ⟨#[49, 44, 50]⟩ (by decide) w hd
  rw [kn9] at h
  refine h.mono ?_
  rintro e w' ⟨v', rfl, _, hb⟩
  exact ⟨v', rfl, hb⟩
theorem known_text1 {v : Value} (w : World) (hd : DomLaid w) (h : Lst w v [⟨1, 2⟩, ⟨5, 5⟩]) : Calls Tryz.prog 23 #[v] w fun e w' => e = .returned (.string ⟨#[49, 46, 46, 50, 44, 53]⟩) ∧ Below w.heap.size w w' := by
  have h := Text_calls _ w h hd
  rw [kn11, kn7] at h
  exact h
theorem known_text2 {v : Value} (w : World) (hd : DomLaid w) (h : Lst w v [⟨1, 2⟩, ⟨6, 9⟩]) : Calls Tryz.prog 23 #[v] w fun e w' => e = .returned (.string ⟨#[49, 46, 46, 50, 44, 54, 46, 46, 57]⟩) ∧ Below w.heap.size w w' := by
  have h := Text_calls _ w h hd
  rw [kn12, kn8] at h
  exact h
set_option maxRecDepth 100000 in
set_option maxHeartbeats 8000000 in
theorem known_calls (w : World) (hd : DomLaid w) : Calls Tryz.prog 22 #[] w fun e w' => e = .returned (.bool true) ∧ Below w.heap.size w w' := by
  have HD := Lib.hid hd
  clear hd
  go_enter Tryz.func22, Tryz.ntmps22
  go_wp2_with fail
  refine (known_of w).mono ?_
  rintro e w1 ⟨v1, rfl, hL1, hb1⟩
  have HL1 := Lib.hid hL1; have HB1 := Lib.hid hb1
  clear hL1 hb1
  go_wp2_with fail
  refine (known_span w1).mono ?_
  rintro e w2 ⟨v2, rfl, hL2, hb2⟩
  have HK := Lib.hid (known_less w2 hL2); have HL1 := Lib.hid (HL1.out.below hb2); have HB2 := Lib.hid (below_step HB1.out hb2)
  clear hL2 hb2
  go_wp2_with fail
  refine HK.out.mono ?_
  rintro e w3 ⟨v3, rfl, hL3, hb3⟩
  have HL3 := Lib.hid hL3; have HL1 := Lib.hid (HL1.out.below hb3); have HB3 := Lib.hid (below_step HB2.out hb3)
  clear hL3 hb3 HK
  go_wp2_with fail
  refine (known_next w3).mono ?_
  rintro e w4 ⟨rfl, hb4⟩
  have HL3 := Lib.hid (HL3.out.below hb4); have HL1 := Lib.hid (HL1.out.below hb4); have HB4 := Lib.hid (below_step HB3.out hb4)
  clear hb4
  go_wp2_with fail
  refine (known_parse w4 (HD.out.below HB4.out)).mono ?_
  rintro e w5 ⟨v5, rfl, hb5⟩
  have HL3 := Lib.hid (HL3.out.below hb5); have HL1 := Lib.hid (HL1.out.below hb5); have HB5 := Lib.hid (below_step HB4.out hb5)
  clear hb5
  go_wp2_with fail
  refine (known_text1 _ (HD.out.below HB5.out) HL1.out).mono ?_
  rintro e w6 ⟨rfl, hb6⟩
  have HL3 := Lib.hid (HL3.out.below hb6); have HB6 := Lib.hid (below_step HB5.out hb6)
  clear hb6
  go_wp2_with fail
  refine (known_text2 _ (HD.out.below HB6.out) HL3.out).mono ?_
  rintro e w7 ⟨rfl, hb7⟩
  have HB7 := Lib.hid (below_step HB6.out hb7)
  clear hb7
  go_wp2_with fail
  go_ret
  exact ⟨rfl, HB7.out⟩

end Go.Proofs.YtnfdppkbbfdmnaaGreatDoor.PD

namespace Go.Proofs.YtnfdppkbbfdmnaaGreatDoor.PD
open Go.RowKit Go.Proofs.YtnfdppkbbfdmnaaGreatDoorW.PrintWords Go.Proofs.YtnfdppkbbfdmnaaGreatDoorW.PrintLast Go.Proofs.YtnfdppkbbfdmnaaGreatDoorW.PrintMore
set_option linter.unusedVariables false
set_option linter.unusedSimpArgs false
/-! ### DomMakes -/
theorem fitL_le (l : List S57) : (fitL l).1.length ≤ 4096 := by
  unfold fitL
  split
  · assumption
  · exact Nat.zero_le _
theorem normS_le (l : List S57) : (normS l).1.length ≤ 4096 := by
  unfold normS normO
  split
  · exact Nat.zero_le _
  · exact fitL_le _
theorem spanS_le (lo hi : Int) : (spanS lo hi).1.length ≤ 4096 := by
  unfold spanS
  split
  · split
    · exact Nat.zero_le _
    · show 1 ≤ 4096
      decide
  · exact Nat.zero_le _
theorem alike_eq {v1 v2 : Value} (l : List S57) (w : World) (h1 : Lst w v1 l) (h2 : Lst w v2 l) (hm : l.length ≤ 4096) :
    Calls Tryz.prog 16 #[v1, v2] w fun e w' => e = .returned (.bool true) ∧ Below w.heap.size w w' := by
  refine (Alike_ref l l w h1 h2 (by omega)).mono ?_
  rintro e w' ⟨r, rfl, hr, hb⟩
  rw [hr.2 rfl]
  exact ⟨rfl, hb⟩
set_option maxRecDepth 100000 in
set_option maxHeartbeats 16000000 in
theorem makes_calls {v0 v1 : Value} (xs : List Int) (l : List S57) (lo hi : Int) (w : World) (hd : DomLaid w) (h0 : LstI w v0 xs) (h1 : Lst w v1 l) (hx : xs.length ≤ 1000000000000) (hl : l.length ≤ 1000000000000) :
    Calls Tryz.prog 3 #[v0, v1, .int .i64 lo, .int .i64 hi] w fun e w' => e = .returned (.bool true) ∧ Below w.heap.size w w' := by
  have HD := Lib.hid hd; have H0 := Lib.hid h0; have H1 := Lib.hid h1
  have HNI := Lib.hid (norm_is l hl)
  obtain ⟨⟨p1, p2⟩, hp⟩ : ∃ p, normS (points xs) = p := ⟨_, rfl⟩
  obtain ⟨⟨q1, q2⟩, hq⟩ : ∃ p, normS l = p := ⟨_, rfl⟩
  obtain ⟨⟨r1, r2⟩, hr⟩ : ∃ p, spanS lo hi = p := ⟨_, rfl⟩
  have hp0 := normS_le (points xs); have hq0 := normS_le l; have hr0 := spanS_le lo hi
  rw [hp] at hp0; rw [hq] at hq0 HNI; rw [hr] at hr0
  have KOF := Lib.hid (fun v W h => Of_calls (v := v) xs W h hx); have KOR := Lib.hid (fun v W h => Of_ref (v := v) xs W h hx)
  have KN := Lib.hid (fun v W h => Norm_calls' (v := v) l W h hl); have KNR := Lib.hid (fun v W h => Norm_ref (v := v) l q1 q2 W h HNI.out)
  have KS := Lib.hid (fun W => Span_calls lo hi W); have KSR := Lib.hid (fun W => Span_ref lo hi W)
  rw [hp] at KOF KOR; rw [hq] at KN; rw [hr] at KS KSR
  clear hd h0 h1 hp hq hr HNI
  obtain ⟨rt, hrt⟩ : ∃ rt, rightS l = rt := ⟨_, rfl⟩
  have KR := Lib.hid (fun v W h => right_calls (v := v) l W h); have KRR := Lib.hid (fun v W h => Right_ref (v := v) l W h)
  rw [hrt] at KR KRR
  clear hrt
  go_enter Tryz.func3, Tryz.ntmps3
  go_wp2_with fail
  refine (LentI_ref xs _ H0.out (by omega)).mono ?_
  rintro e w1 ⟨x1, rfl, hV, hb1⟩
  replace HD := Lib.hid (HD.out.below hb1)
  replace H0 := Lib.hid (H0.out.below hb1)
  replace H1 := Lib.hid (H1.out.below hb1)
  have HB1 := Lib.hid hb1
  have HV := Lib.hid hV
  clear hb1 hV
  go_wp2_with fail
  refine (Lent_ref l _ H1.out (by omega)).mono ?_
  rintro e w2 ⟨x2, rfl, hO, hb2⟩
  replace HD := Lib.hid (HD.out.below hb2)
  replace H0 := Lib.hid (H0.out.below hb2)
  replace H1 := Lib.hid (H1.out.below hb2)
  replace HV := Lib.hid (HV.out.below hb2)
  have HB2 := Lib.hid (below_step HB1.out hb2)
  have HO := Lib.hid hO
  clear hb2 hO
  go_wp2_with fail
  refine (KOF.out _ _ HV.out.lst).mono ?_
  rintro e w3 ⟨x3, rfl, hA, hb3⟩
  replace HD := Lib.hid (HD.out.below hb3)
  replace H0 := Lib.hid (H0.out.below hb3)
  replace H1 := Lib.hid (H1.out.below hb3)
  replace HV := Lib.hid (HV.out.below hb3)
  replace HO := Lib.hid (HO.out.below hb3)
  have HB3 := Lib.hid (below_step HB2.out hb3)
  have HA := Lib.hid hA
  clear hb3 hA
  go_wp2_with fail
  refine (KOR.out _ _ H0.out).mono ?_
  rintro e w4 ⟨x4, rfl, hA2, hb4⟩
  replace HD := Lib.hid (HD.out.below hb4)
  replace H0 := Lib.hid (H0.out.below hb4)
  replace H1 := Lib.hid (H1.out.below hb4)
  replace HV := Lib.hid (HV.out.below hb4)
  replace HO := Lib.hid (HO.out.below hb4)
  replace HA := Lib.hid (HA.out.below hb4)
  have HB4 := Lib.hid (below_step HB3.out hb4)
  have HA2 := Lib.hid hA2
  clear hb4 hA2
  go_wp2_with fail
  have SNAP := Lib.hid (fun (W : World) (hb : Below w4.heap.size w4 W) => And.intro (HD.out.below hb) (And.intro (H0.out.below hb) (And.intro (H1.out.below hb) (And.intro (HV.out.below hb) (HO.out.below hb)))))
  have HCH := Lib.hid (Below.refl w4.heap.size w4)
  refine (KN.out _ _ HO.out.lst).mono ?_
  rintro e w5 ⟨x5, rfl, hC, hb5⟩
  replace HD := Lib.hid (HD.out.below hb5)
  replace H0 := Lib.hid (H0.out.below hb5)
  replace H1 := Lib.hid (H1.out.below hb5)
  replace HV := Lib.hid (HV.out.below hb5)
  replace HO := Lib.hid (HO.out.below hb5)
  replace HA := Lib.hid (HA.out.below hb5)
  replace HA2 := Lib.hid (HA2.out.below hb5)
  replace HCH := Lib.hid (below_step HCH.out hb5)
  have HB5 := Lib.hid (below_step HB4.out hb5)
  have HC := Lib.hid hC
  clear hb5 hC
  go_wp2_with fail
  refine (KNR.out _ _ H1.out).mono ?_
  rintro e w6 ⟨x6, rfl, hC2, hb6⟩
  replace HD := Lib.hid (HD.out.below hb6)
  replace H0 := Lib.hid (H0.out.below hb6)
  replace H1 := Lib.hid (H1.out.below hb6)
  replace HV := Lib.hid (HV.out.below hb6)
  replace HO := Lib.hid (HO.out.below hb6)
  replace HA := Lib.hid (HA.out.below hb6)
  replace HA2 := Lib.hid (HA2.out.below hb6)
  replace HC := Lib.hid (HC.out.below hb6)
  replace HCH := Lib.hid (below_step HCH.out hb6)
  have HB6 := Lib.hid (below_step HB5.out hb6)
  have HC2 := Lib.hid hC2
  clear hb6 hC2
  go_wp2_with fail
  refine (KS.out _).mono ?_
  rintro e w7 ⟨x7, rfl, hI, hb7⟩
  replace HD := Lib.hid (HD.out.below hb7)
  replace H0 := Lib.hid (H0.out.below hb7)
  replace H1 := Lib.hid (H1.out.below hb7)
  replace HV := Lib.hid (HV.out.below hb7)
  replace HO := Lib.hid (HO.out.below hb7)
  replace HA := Lib.hid (HA.out.below hb7)
  replace HA2 := Lib.hid (HA2.out.below hb7)
  replace HC := Lib.hid (HC.out.below hb7)
  replace HC2 := Lib.hid (HC2.out.below hb7)
  replace HCH := Lib.hid (below_step HCH.out hb7)
  have HB7 := Lib.hid (below_step HB6.out hb7)
  have HI := Lib.hid hI
  clear hb7 hI
  go_wp2_with fail
  refine (KSR.out _).mono ?_
  rintro e w8 ⟨x8, rfl, hI2, hb8⟩
  replace HD := Lib.hid (HD.out.below hb8)
  replace H0 := Lib.hid (H0.out.below hb8)
  replace H1 := Lib.hid (H1.out.below hb8)
  replace HV := Lib.hid (HV.out.below hb8)
  replace HO := Lib.hid (HO.out.below hb8)
  replace HA := Lib.hid (HA.out.below hb8)
  replace HA2 := Lib.hid (HA2.out.below hb8)
  replace HC := Lib.hid (HC.out.below hb8)
  replace HC2 := Lib.hid (HC2.out.below hb8)
  replace HI := Lib.hid (HI.out.below hb8)
  replace HCH := Lib.hid (below_step HCH.out hb8)
  have HB8 := Lib.hid (below_step HB7.out hb8)
  have HI2 := Lib.hid hI2
  clear hb8 hI2
  go_wp2_with fail
  refine (alike_eq _ _ HA.out.lst HA2.out.lst hp0).mono ?_
  rintro e w9 ⟨rfl, hb9⟩
  replace HD := Lib.hid (HD.out.below hb9)
  replace H0 := Lib.hid (H0.out.below hb9)
  replace H1 := Lib.hid (H1.out.below hb9)
  replace HV := Lib.hid (HV.out.below hb9)
  replace HO := Lib.hid (HO.out.below hb9)
  replace HA := Lib.hid (HA.out.below hb9)
  replace HA2 := Lib.hid (HA2.out.below hb9)
  replace HC := Lib.hid (HC.out.below hb9)
  replace HC2 := Lib.hid (HC2.out.below hb9)
  replace HI := Lib.hid (HI.out.below hb9)
  replace HI2 := Lib.hid (HI2.out.below hb9)
  replace HCH := Lib.hid (below_step HCH.out hb9)
  have HB9 := Lib.hid (below_step HB8.out hb9)
  clear hb9
  go_wp2_with fail
  refine (alike_eq _ _ HC.out.lst HC2.out.lst hq0).mono ?_
  rintro e w10 ⟨rfl, hb10⟩
  replace HD := Lib.hid (HD.out.below hb10)
  replace H0 := Lib.hid (H0.out.below hb10)
  replace H1 := Lib.hid (H1.out.below hb10)
  replace HV := Lib.hid (HV.out.below hb10)
  replace HO := Lib.hid (HO.out.below hb10)
  replace HA := Lib.hid (HA.out.below hb10)
  replace HA2 := Lib.hid (HA2.out.below hb10)
  replace HC := Lib.hid (HC.out.below hb10)
  replace HC2 := Lib.hid (HC2.out.below hb10)
  replace HI := Lib.hid (HI.out.below hb10)
  replace HI2 := Lib.hid (HI2.out.below hb10)
  replace HCH := Lib.hid (below_step HCH.out hb10)
  have HB10 := Lib.hid (below_step HB9.out hb10)
  clear hb10
  go_wp2_with fail
  refine (alike_eq _ _ HI.out.lst HI2.out.lst hr0).mono ?_
  rintro e w11 ⟨rfl, hb11⟩
  replace HD := Lib.hid (HD.out.below hb11)
  replace H0 := Lib.hid (H0.out.below hb11)
  replace H1 := Lib.hid (H1.out.below hb11)
  replace HV := Lib.hid (HV.out.below hb11)
  replace HO := Lib.hid (HO.out.below hb11)
  replace HA := Lib.hid (HA.out.below hb11)
  replace HA2 := Lib.hid (HA2.out.below hb11)
  replace HC := Lib.hid (HC.out.below hb11)
  replace HC2 := Lib.hid (HC2.out.below hb11)
  replace HI := Lib.hid (HI.out.below hb11)
  replace HI2 := Lib.hid (HI2.out.below hb11)
  replace HCH := Lib.hid (below_step HCH.out hb11)
  have HB11 := Lib.hid (below_step HB10.out hb11)
  clear hb11
  go_wp2_with fail
  refine (KR.out _ _ HO.out.lst).mono ?_
  rintro e w12 ⟨rfl, hb12⟩
  replace HD := Lib.hid (HD.out.below hb12)
  replace H0 := Lib.hid (H0.out.below hb12)
  replace H1 := Lib.hid (H1.out.below hb12)
  replace HV := Lib.hid (HV.out.below hb12)
  replace HO := Lib.hid (HO.out.below hb12)
  replace HA := Lib.hid (HA.out.below hb12)
  replace HA2 := Lib.hid (HA2.out.below hb12)
  replace HC := Lib.hid (HC.out.below hb12)
  replace HC2 := Lib.hid (HC2.out.below hb12)
  replace HI := Lib.hid (HI.out.below hb12)
  replace HI2 := Lib.hid (HI2.out.below hb12)
  replace HCH := Lib.hid (below_step HCH.out hb12)
  have HB12 := Lib.hid (below_step HB11.out hb12)
  clear hb12
  go_wp2_with fail
  refine (KRR.out _ _ H1.out).mono ?_
  rintro e w13 ⟨rfl, hb13⟩
  replace HD := Lib.hid (HD.out.below hb13)
  replace H0 := Lib.hid (H0.out.below hb13)
  replace H1 := Lib.hid (H1.out.below hb13)
  replace HV := Lib.hid (HV.out.below hb13)
  replace HO := Lib.hid (HO.out.below hb13)
  replace HA := Lib.hid (HA.out.below hb13)
  replace HA2 := Lib.hid (HA2.out.below hb13)
  replace HC := Lib.hid (HC.out.below hb13)
  replace HC2 := Lib.hid (HC2.out.below hb13)
  replace HI := Lib.hid (HI.out.below hb13)
  replace HI2 := Lib.hid (HI2.out.below hb13)
  replace HCH := Lib.hid (below_step HCH.out hb13)
  have HB13 := Lib.hid (below_step HB12.out hb13)
  clear hb13
  go_wp2_with fail
  refine (SpoilC_ref w4 _ _ HC.out HCH.out (by omega)).mono ?_
  rintro e w14 ⟨rfl, hb14⟩
  obtain ⟨s1, s2, s3, s4, s5⟩ := SNAP.out _ hb14
  have GD := Lib.hid s1; have G0 := Lib.hid s2; have G1 := Lib.hid s3; have GV := Lib.hid s4; have GO := Lib.hid s5
  have HB14 := Lib.hid (below_step HB4.out hb14)
  clear s1 s2 s3 s4 s5 hb14 HC HC2 HI HI2 HA HA2 HD H0 H1 HV HO
  go_wp2_with fail
  refine (KeptI_ref xs _ GV.out G0.out (by omega)).mono ?_
  rintro e w15 ⟨rfl, hb15⟩
  replace GD := Lib.hid (GD.out.below hb15)
  replace G0 := Lib.hid (G0.out.below hb15)
  replace G1 := Lib.hid (G1.out.below hb15)
  replace GV := Lib.hid (GV.out.below hb15)
  replace GO := Lib.hid (GO.out.below hb15)
  have HB15 := Lib.hid (below_step HB14.out hb15)
  clear hb15
  go_wp2_with fail
  refine (Kept_ref l _ GO.out G1.out (by omega)).mono ?_
  rintro e w16 ⟨rfl, hb16⟩
  replace GD := Lib.hid (GD.out.below hb16)
  replace G0 := Lib.hid (G0.out.below hb16)
  replace G1 := Lib.hid (G1.out.below hb16)
  replace GV := Lib.hid (GV.out.below hb16)
  replace GO := Lib.hid (GO.out.below hb16)
  have HB16 := Lib.hid (below_step HB15.out hb16)
  clear hb16
  go_wp2_with fail
  refine (known_calls _ GD.out).mono ?_
  rintro e w17 ⟨rfl, hb17⟩
  replace GD := Lib.hid (GD.out.below hb17)
  replace G0 := Lib.hid (G0.out.below hb17)
  replace G1 := Lib.hid (G1.out.below hb17)
  replace GV := Lib.hid (GV.out.below hb17)
  replace GO := Lib.hid (GO.out.below hb17)
  have HB17 := Lib.hid (below_step HB16.out hb17)
  clear hb17
  go_wp2_with fail
  go_ret
  exact ⟨rfl, HB17.out⟩

end Go.Proofs.YtnfdppkbbfdmnaaGreatDoor.PD

namespace Go.Proofs.YtnfdppkbbfdmnaaGreatDoor.PD
open Go.RowKit Go.Proofs.YtnfdppkbbfdmnaaGreatDoorW.PrintWords Go.Proofs.YtnfdppkbbfdmnaaGreatDoorW.PrintLast Go.Proofs.YtnfdppkbbfdmnaaGreatDoorW.PrintMore
set_option linter.unusedVariables false
set_option linter.unusedSimpArgs false
/-! ### from each value to the next one -/
def nextV (l : List Int) (x : Int) : Int × Bool := match l.find? (fun y => decide (x ≤ y)) with
  | some y => (y, true)
  | none => (0, false)
theorem find_sp (x a : Int) : ∀ n, (sp a n).find? (fun y => decide (x ≤ y)) = if x ≤ a + n - 1 ∧ 0 < n then some (max x a) else none
  | 0 => by
    rw [if_neg (by omega)]
    rfl
  | n + 1 => by
    rw [sp_succ, List.find?_append, find_sp x a n]
    by_cases h : x ≤ a + n - 1 ∧ 0 < n
    · rw [if_pos h, if_pos (by omega)]
      rfl
    · rw [if_neg h, Option.none_or, List.find?_singleton]
      by_cases h2 : x ≤ a + n
      · rw [if_pos (by simpa using h2), if_pos (by omega)]
        congr 1
        omega
      · rw [if_neg (by simpa using h2), if_neg (by omega)]
theorem next_vals : ∀ (l : List S57) (e x : Int), NormF e l → nextL l x = nextV (valsL l) x
  | [], e, x, _ => rfl
  | r :: t, e, x, h => by
    have h1 : r.f0 ≤ r.f1 := h.2.1
    have ht : NormF r.f1 t := h.2.2
    have ev : valsL (r :: t) = sp r.f0 (rsize r) ++ valsL t := rfl
    have hz : (rsize r : Int) = r.f1 - r.f0 + 1 := by unfold rsize; omega
    have ih := next_vals t r.f1 x ht
    rw [nextL, ev]
    unfold nextV at ih ⊢
    rw [List.find?_append, find_sp]
    by_cases hx : x ≤ r.f1
    · rw [if_pos hx, if_pos (by omega)]
      rfl
    · rw [if_neg hx, if_neg (by omega), Option.none_or]
      exact ih
theorem sp_mem (a x : Int) : ∀ n, x ∈ sp a n ↔ a ≤ x ∧ x < a + n := fun n => by
  unfold sp
  rw [List.mem_map]
  constructor
  · rintro ⟨i, hi, rfl⟩
    rw [List.mem_range] at hi
    omega
  · intro h
    exact ⟨(x - a).toNat, List.mem_range.2 (by omega), by omega⟩
theorem sp_pair (a : Int) : ∀ n, (sp a n).Pairwise (· < ·)
  | 0 => List.Pairwise.nil
  | n + 1 => by
    rw [sp_succ, List.pairwise_append]
    refine ⟨sp_pair a n, List.pairwise_singleton _ _, fun x hx y hy => ?_⟩
    rw [List.mem_singleton] at hy
    subst hy
    have := (sp_mem a x n).1 hx
    omega
theorem vals_pair : ∀ (l : List S57) (e : Int), NormF e l → (valsL l).Pairwise (· < ·) ∧ ∀ x ∈ valsL l, e + 1 < x
  | [], _, _ => ⟨List.Pairwise.nil, fun x h => by cases h⟩
  | r :: t, e, h => by
    have h0 : e + 1 < r.f0 := h.1
    have h1 : r.f0 ≤ r.f1 := h.2.1
    have ht : NormF r.f1 t := h.2.2
    have ev : valsL (r :: t) = sp r.f0 (rsize r) ++ valsL t := rfl
    have hz : (rsize r : Int) = r.f1 - r.f0 + 1 := by unfold rsize; omega
    obtain ⟨ih1, ih2⟩ := vals_pair t r.f1 ht
    rw [ev]
    refine ⟨?_, fun x hx => ?_⟩
    · rw [List.pairwise_append]
      refine ⟨sp_pair _ _, ih1, fun x hx y hy => ?_⟩
      have := (sp_mem _ x _).1 hx
      have := ih2 y hy
      omega
    · rw [List.mem_append] at hx
      rcases hx with hx | hx
      · have := (sp_mem _ x _).1 hx
        omega
      · have := ih2 x hx
        omega
def stepAt (l : List Int) (i : Nat) : Int × Bool := match l[i]? with
  | some y => (y, true)
  | none => (0, false)
theorem find_at : ∀ (l : List Int) (i : Nat) (x : Int), l.Pairwise (· < ·) → (∀ y ∈ l.take i, y < x) → (∀ y ∈ l[i]?, x ≤ y) → nextV l x = stepAt l i
  | [], i, x, _, _, _ => rfl
  | a :: t, 0, x, _, _, h => by
    have := h a (by simp)
    unfold nextV stepAt
    rw [List.find?_cons_of_pos (by simpa using this)]
    rfl
  | a :: t, i + 1, x, hp, h, h2 => by
    have ha := h a (by simp)
    have ih := find_at t i x (List.pairwise_cons.1 hp).2 (fun y hy => h y (by rw [List.take_succ_cons]; exact List.mem_cons_of_mem _ hy)) (fun y hy => h2 y (by simpa using hy))
    unfold nextV stepAt at ih ⊢
    rw [List.find?_cons_of_neg (by simpa using ha), List.getElem?_cons_succ]
    exact ih
theorem steps_min {l : List S57} (h : rightS l = true) : nextL l (-1000000) = stepAt (valsL l) 0 := by
  have hN := right_norm h
  obtain ⟨hp, hb⟩ := vals_pair l _ hN
  rw [next_vals l _ _ hN]
  refine find_at _ 0 _ hp (fun y hy => by simp at hy) (fun y hy => ?_)
  have := hb y (List.mem_of_getElem? (by simpa using hy))
  omega
theorem steps_next {l : List S57} (h : rightS l = true) (i : Nat) (hi : i < (valsL l).length) : nextL l ((valsL l)[i] + 1) = stepAt (valsL l) (i + 1) ∧ nextL l (valsL l)[i] = ((valsL l)[i], true) := by
  have hN := right_norm h
  obtain ⟨hp, hb⟩ := vals_pair l _ hN
  rw [next_vals l _ _ hN, next_vals l _ _ hN]
  have hlt : ∀ j k (hj : j < (valsL l).length) (hk : k < (valsL l).length), j < k → (valsL l)[j] < (valsL l)[k] := fun j k hj hk hjk => List.pairwise_iff_getElem.1 hp j k hj hk hjk
  have key : ∀ j (x : Int), (∀ y ∈ (valsL l).take j, y < x) ↔ ∀ k (hk : k < (valsL l).length), k < j → (valsL l)[k] < x := by
    intro j x
    constructor
    · intro q k hk hkj
      exact q _ (List.mem_take_iff_getElem.2 ⟨k, by omega, rfl⟩)
    · intro q y hy
      obtain ⟨k, hk, rfl⟩ := List.mem_take_iff_getElem.1 hy
      exact q k (by omega) (by omega)
  refine ⟨find_at _ (i + 1) _ hp ((key _ _).2 fun k hk hki => ?_) (fun y hy => ?_), ?_⟩
  · by_cases hk2 : k = i
    · subst hk2; omega
    · have := hlt k i hk hi (by omega); omega
  · obtain ⟨hj, rfl⟩ := List.getElem?_eq_some_iff.1 hy
    have := hlt i (i + 1) hi hj (by omega)
    omega
  · have := find_at _ i (valsL l)[i] hp ((key _ _).2 fun k hk hki => hlt k i hk hi hki) (fun y hy => by
      obtain ⟨hj, rfl⟩ := List.getElem?_eq_some_iff.1 hy
      omega)
    rw [this]
    unfold stepAt
    rw [List.getElem?_eq_getElem hi]
theorem cut_both {t : List S57} {lo hi : Int} (ht : rightS t = true) (h : lo ≤ hi) : bothL t [⟨lo, hi⟩] = cutL t lo hi := by
  have hN := right_norm ht
  have h1 : NormF (lo - 2) [(⟨lo, hi⟩ : S57)] := ⟨by show lo - 2 + 1 < lo; omega, h, trivial⟩
  obtain ⟨q1, q2⟩ := bothL_ok t [⟨lo, hi⟩] _ _ hN h1
  refine norm_ext _ _ _ _ (q1 _ (.inl hN)) (norm_cutL t _ lo hi hN) fun x => ?_
  rw [q2, memR_cutL, memR_cons]
  constructor
  · rintro ⟨a, b | b⟩
    · exact ⟨a, b.1, b.2⟩
    · exact absurd b (memR_nil x)
  · rintro ⟨a, b, c⟩
    exact ⟨a, .inl ⟨b, c⟩⟩
theorem cut_none {t : List S57} {lo hi : Int} (ht : rightS t = true) (h : hi < lo) : cutL t lo hi = [] := by
  have hN := right_norm ht
  refine norm_ext _ [] _ (-1000002) (norm_cutL t _ lo hi hN) trivial fun x => ?_
  rw [memR_cutL]
  exact ⟨fun q => by omega, fun q => absurd q (memR_nil x)⟩
theorem span_taken {lo hi : Int} (h0 : inB lo = true) (h1 : inB hi = true) (h : lo ≤ hi) : rightS [⟨lo, hi⟩] = true := by
  rw [inB_iff] at h0 h1
  refine norm_right ⟨by show (-1000002 : Int) + 1 < lo; omega, h, trivial⟩ (fun s hs => ?_) (by simp)
  rw [List.mem_singleton] at hs
  subst hs
  exact h1.2
/-- what lies between two numbers is what is in both of the ranges and that span -/
theorem cut_span (l : List S57) (lo hi : Int) (h : (spanS lo hi).2 = 0) : bothS l (spanS lo hi).1 = cutL (takenL l) lo hi := by
  have ht := takenL_right l
  have hl := right_le ht
  unfold spanS at h ⊢
  split at h
  · rename_i hb
    rw [if_pos hb]
    by_cases hc : lo > hi
    · rw [if_pos hc, cut_none ht (by omega)]
      unfold bothS
      have e : bothL (takenL l) (takenL []) = [] := by
        have e2 : takenL [] = [] := rfl
        rw [e2]
        have := bothL_end (t := takenL l) (u := []) (i := 0) (k := 0) (.inr (Nat.le_refl _))
        simpa using this
      rw [e, if_pos (by decide)]
    · rw [if_neg hc]
      unfold bothS
      dsimp only
      rw [takenL_of (span_taken hb.1 hb.2 (by omega)), cut_both ht (by omega), if_pos (by have := cutL_len (takenL l) lo hi; omega)]
  · cases h

end Go.Proofs.YtnfdppkbbfdmnaaGreatDoor.PD

namespace Go.Proofs.YtnfdppkbbfdmnaaGreatDoor.PD
open Go.RowKit Go.Proofs.YtnfdppkbbfdmnaaGreatDoorW.PrintWords Go.Proofs.YtnfdppkbbfdmnaaGreatDoorW.PrintLast Go.Proofs.YtnfdppkbbfdmnaaGreatDoorW.PrintMore
set_option linter.unusedVariables false
set_option linter.unusedSimpArgs false
/-! ### DomSteps -/
theorem vals_mem {l : List S57} (h : rightS l = true) : ∀ x ∈ valsL l, -1000000 ≤ x ∧ x ≤ 1000000 := by
  intro x hx
  unfold valsL at hx
  rw [List.mem_flatMap] at hx
  obtain ⟨s, hs, hx⟩ := hx
  have hm := right_mem h s hs
  have := (sp_mem _ x _).1 hx
  have hz : (rsize s : Int) = s.f1 - s.f0 + 1 := by unfold rsize; omega
  omega
theorem same_eq {v1 v2 : Value} (l : List S57) (w : World) (h1 : Lst w v1 l) (h2 : Lst w v2 l) :
    Calls Tryz.prog 39 #[v1, v2] w fun e w' => e = .returned (.bool true) ∧ Below w.heap.size w w' := by
  refine (Same_calls l l w h1 h2).mono ?_
  rintro e w' ⟨r, rfl, hr, hb⟩
  rw [hr.2 rfl]
  exact ⟨rfl, hb⟩
theorem stepAt_lt {V : List Int} {k : Nat} (h : k < V.length) : stepAt V k = (V[k], true) := by
  unfold stepAt
  rw [List.getElem?_eq_getElem h]
theorem stepAt_end {V : List Int} : stepAt V V.length = (0, false) := by
  unfold stepAt
  rw [List.getElem?_eq_none (Nat.le_refl _)]
set_option maxRecDepth 100000 in
set_option maxHeartbeats 16000000 in
theorem steps_calls {v : Value} (l : List S57) (lo hi : Int) (w : World) (hd : DomLaid w) (h1 : Lst w v l) :
    Calls Tryz.prog 6 #[v, .int .i64 lo, .int .i64 hi] w fun e w' => e = .returned (.bool true) ∧ Below w.heap.size w w' := by
  have HD := Lib.hid hd; have H1 := Lib.hid h1
  have KV := Lib.hid (fun W h => Values_ref (v := v) l 300 (by omega) W h)
  have KM := Lib.hid (fun W h => min_calls (v := v) l W h)
  have KH := Lib.hid (fun x W h => has_calls (v := v) l x W h); have KN := Lib.hid (fun x W h => next_calls (v := v) l x W h)
  have KS := Lib.hid (fun W => Span_calls lo hi W)
  have KC := Lib.hid (fun W h => cut_calls (v := v) l lo hi W h)
  have KB := Lib.hid (fun v2 W h h2 => Both_calls (v1 := v) (v2 := v2) l (spanS lo hi).1 W h h2)
  have HCS := Lib.hid (cut_span l lo hi)
  have HR := takenL_right l
  obtain ⟨V, hV⟩ : ∃ V, valsL (takenL l) = V := ⟨_, rfl⟩
  have hmin := steps_min HR
  have HNX := Lib.hid (fun i hi => steps_next HR i hi)
  have HVB := Lib.hid (vals_mem HR)
  rw [hV] at KV hmin HNX HVB
  rw [hmin] at KM
  generalize takenL l = t at *
  obtain ⟨⟨p1, p2⟩, hp⟩ : ∃ p, spanS lo hi = p := ⟨_, rfl⟩
  rw [hp] at KS KB HCS
  dsimp only at KS KB HCS
  obtain ⟨xs, hxs⟩ : ∃ xs, V.take 300 = xs := ⟨_, rfl⟩
  rw [hxs] at KV
  obtain ⟨m, hm⟩ : ∃ m, xs.length = m := ⟨_, rfl⟩
  have hmV : m ≤ V.length ∧ m ≤ 300 ∧ (m < 300 → m = V.length) := by
    rw [← hm, ← hxs, List.length_take]
    omega
  have hxg : ∀ k (h : k < m) (h' : k < V.length), rd xs (k : Nat) = V[k] := by
    intro k h h'
    rw [rdI xs k (by rw [hm]; exact h)]
    have : xs[k]? = V[k]? := by rw [← hxs, List.getElem?_take, if_pos (by omega)]
    rw [List.getElem?_eq_getElem (by rw [hm]; exact h), List.getElem?_eq_getElem h'] at this
    exact Option.some.inj this
  have HXG := Lib.hid hxg; have HM := Lib.hid hm
  clear hd h1 hV hmin hp hxs hm HR hxg
  go_enter Tryz.func6, Tryz.ntmps6
  go_wp2_with fail
  refine (KV.out _ H1.out).mono ?_
  rintro e w1 ⟨x1, rfl, hX, hb1⟩
  replace HD := Lib.hid (HD.out.below hb1); replace H1 := Lib.hid (H1.out.below hb1)
  have HB1 := Lib.hid hb1; have HX := Lib.hid hX.lst
  clear hb1 hX
  go_wp2_with fail
  refine (KM.out _ H1.out).mono ?_
  rintro e w2 ⟨rfl, hb2⟩
  replace HD := Lib.hid (HD.out.below hb2); replace H1 := Lib.hid (H1.out.below hb2); replace HX := Lib.hid (HX.out.below hb2)
  have HB2 := Lib.hid (below_step HB1.out hb2)
  clear hb2
  obtain ⟨A, c, hv, hC, hcc⟩ := HX.out
  rw [HM.out] at hv hC
  subst hv
  have HC := Lib.hid hC
  clear hC hcc HX
  go_wp2_with fail
  go_loopw [8, 9, 10] (fun a b i wr => ∃ (k : Nat), i = .int .i64 k ∧ k ≤ m ∧ a = .int .i64 (stepAt V k).1 ∧ b = .bool (stepAt V k).2 ∧ Hid (Below w2.heap.size w2 wr))
    (fun _ _ i _ => m - (intOf i).toNat)
  case atStart => exact ⟨0, rfl, Nat.zero_le _, rfl, rfl, Lib.hid (Below.refl _ _)⟩
  case round =>
    obtain ⟨k, rfl, hk, rfl, rfl, hB⟩ := hrel
    by_cases hkm : k < m
    · have hkV : k < V.length := by omega
      rw [stepAt_lt hkV]
      obtain ⟨q1, q2⟩ := HNX.out k hkV
      have KHk := KH.out V[k]; have KNk := KN.out (V[k] + 1)
      rw [q2] at KHk
      rw [q1] at KNk
      dsimp only at KHk KNk
      obtain ⟨ad, hA, x0⟩ := Kd.at_int (Kd.C_below HC.out hB.out) (k : Int) (by omega) (by omega)
      subst hA
      rw [HXG.out k hkm hkV, Int.toNat_natCast] at x0
      obtain ⟨b1, b2⟩ := HVB.out _ (List.getElem_mem hkV)
      generalize V[k] = x at *
      have hix := fun W => indexI_at ad m c (k : Nat) (by omega) W
      simp only [Int.toNat_natCast] at hix
      have hb0 : (true && x == x) = true := by simp
      rw [hb0] at KHk
      have KHH := Lib.hid KHk; have KNN := Lib.hid KNk
      clear KHk KNk q1 q2 hb0
      have H1W := Lib.hid (H1.out.below hB.out)
      go_wp2_with fail
      refine (KHH.out _ H1W.out).mono ?_
      rintro e w3 ⟨rfl, hb3⟩
      have HB3 := Lib.hid (below_step hB.out hb3); have H13 := Lib.hid (H1W.out.below hb3)
      clear hb3
      go_wp2_with fail
      refine (KNN.out _ H13.out).mono ?_
      rintro e w4 ⟨rfl, hb4⟩
      have HB4 := Lib.hid (below_step HB3.out hb4)
      clear hb4
      go_wp2_with fail
      refine ⟨⟨k + 1, by rw [Int.natCast_add]; rfl, by omega, rfl, rfl, HB4⟩, by simp [intOf]; omega⟩
    · obtain rfl : k = m := by omega
      have HD3 := Lib.hid (HD.out.below hB.out); have H13 := Lib.hid (H1.out.below hB.out); have HB3 := Lib.hid (below_step HB2.out hB.out)
      have hok : k < 300 → (stepAt V k).2 = false := by
        intro h
        have := hmV.2.2 h
        subst this
        rw [stepAt_end]
      generalize (stepAt V k).1 = s1 at *
      generalize (stepAt V k).2 = s2 at *
      have hcase : (k < 300 ∧ s2 = false) ∨ 300 ≤ k := by
        by_cases h : k < 300
        · exact .inl ⟨h, hok h⟩
        · exact .inr (by omega)
      clear hok HC HXG HNX HVB HM HB2 hB
      rcases hcase with ⟨hlt, rfl⟩ | hlt
      all_goals
        go_wp2_with fail
        refine (KS.out _).mono ?_
        rintro e w5 ⟨x5, rfl, hS, hb5⟩
        replace HD3 := Lib.hid (HD3.out.below hb5); replace H13 := Lib.hid (H13.out.below hb5)
        have HB5 := Lib.hid (below_step HB3.out hb5); have HS := Lib.hid hS.lst
        clear hb5 hS
        by_cases he : p2 = 0
        · subst he
          have hcs := Lib.hid (HCS.out rfl)
          go_wp2_with fail
          refine (KC.out _ H13.out).mono ?_
          rintro e w6 ⟨x6, rfl, hC6, hb6⟩
          replace HD3 := Lib.hid (HD3.out.below hb6); replace H13 := Lib.hid (H13.out.below hb6); replace HS := Lib.hid (HS.out.below hb6)
          have HB6 := Lib.hid (below_step HB5.out hb6); have HC6 := Lib.hid hC6.lst
          clear hb6 hC6
          go_wp2_with fail
          refine (KB.out _ _ H13.out HS.out).mono ?_
          rintro e w7 ⟨x7, rfl, hC7, hb7⟩
          rw [hcs.out] at hC7
          replace HD3 := Lib.hid (HD3.out.below hb7); replace HC6 := Lib.hid (HC6.out.below hb7)
          have HB7 := Lib.hid (below_step HB6.out hb7); have HC7 := Lib.hid hC7.lst
          clear hb7 hC7
          go_wp2_with fail
          refine (same_eq _ _ HC6.out HC7.out).mono ?_
          rintro e w8 ⟨rfl, hb8⟩
          replace HD3 := Lib.hid (HD3.out.below hb8)
          have HB8 := Lib.hid (below_step HB7.out hb8)
          clear hb8
          go_wp2_with fail
          refine (known_calls _ HD3.out).mono ?_
          rintro e w9 ⟨rfl, hb9⟩
          go_wp2_with fail
          go_ret
          exact ⟨rfl, below_step HB8.out hb9⟩
        · have hne : (p2 == 0) = false := by rw [beq_eq_false_iff_ne]; exact he
          have hne' : (p2 != 0) = true := by rw [bne_iff_ne]; exact he
          go_wp2_with fail
          refine (known_calls _ HD3.out).mono ?_
          rintro e w9 ⟨rfl, hb9⟩
          go_wp2_with fail
          go_ret
          exact ⟨rfl, below_step HB5.out hb9⟩

end Go.Proofs.YtnfdppkbbfdmnaaGreatDoor.PD
