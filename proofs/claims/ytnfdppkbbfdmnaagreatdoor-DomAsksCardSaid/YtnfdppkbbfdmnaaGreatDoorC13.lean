/- Parts of the laws of dom: functions of the program, each with the proof of what it answers; the conditions are those of each theorem. -/
import Derived.Test.YtnfdppkbbfdmnaaGreatDoorC12
import Derived.Lib.ParseIntBCases
import Derived.Lib.ParseIntBTie
import Derived.Test.YtnfdppkbbfdmnaaGreatDoorC1
namespace Go.Proofs.YtnfdppkbbfdmnaaGreatDoor.PD
open Go.RowKit Go.Proofs.YtnfdppkbbfdmnaaGreatDoorW.PrintWords Go.Proofs.YtnfdppkbbfdmnaaGreatDoorW.PrintLast Go.Proofs.YtnfdppkbbfdmnaaGreatDoorW.PrintMore
set_option linter.unusedVariables false
set_option linter.unusedSimpArgs false
/-! ### numbers, read back -/
def digitB (c : UInt8) : Bool := 48 ≤ c && c ≤ 57
def decV (l : List UInt8) : Nat := l.foldl (fun n c => 10 * n + (c.toNat - 48)) 0
theorem decD_all (n : Nat) : (∀ c ∈ Lib.decDigits n, digitB c = true) ∧ Lib.decDigits n ≠ [] ∧ decV (Lib.decDigits n) = n := by
  induction n using Nat.strongRecOn with
  | ind n ih =>
    have hd : ∀ m, m < 10 → digitB (UInt8.ofNat (48 + m)) = true ∧ (UInt8.ofNat (48 + m)).toNat - 48 = m := by
      intro m hm
      have e : (UInt8.ofNat (48 + m)).toNat = 48 + m := by rw [UInt8.toNat_ofNat']; omega
      refine ⟨?_, by omega⟩
      unfold digitB
      rw [Bool.and_eq_true, decide_eq_true_iff, decide_eq_true_iff, UInt8.le_iff_toNat_le, UInt8.le_iff_toNat_le, e]
      exact ⟨by show 48 ≤ _; omega, by show _ ≤ 57; omega⟩
    unfold Lib.decDigits
    split
    · rename_i h
      obtain ⟨h1, h2⟩ := hd n h
      refine ⟨fun c hc => by rw [List.mem_singleton] at hc; subst hc; exact h1, by simp, ?_⟩
      show 10 * 0 + _ = n
      rw [h2]; omega
    · rename_i h
      obtain ⟨q1, q2, q3⟩ := ih (n / 10) (by omega)
      obtain ⟨h1, h2⟩ := hd (n % 10) (by omega)
      refine ⟨fun c hc => ?_, by simp, ?_⟩
      · rw [List.mem_append, List.mem_singleton] at hc
        rcases hc with hc | rfl
        · exact q1 c hc
        · exact h1
      · unfold decV at q3 ⊢
        rw [List.foldl_append, q3]
        show 10 * (n / 10) + _ = n
        rw [h2]; omega
end Go.Proofs.YtnfdppkbbfdmnaaGreatDoor.PD

namespace Go.Proofs.YtnfdppkbbfdmnaaGreatDoor.PD
open Go.RowKit Go.Proofs.YtnfdppkbbfdmnaaGreatDoorW.PrintWords Go.Proofs.YtnfdppkbbfdmnaaGreatDoorW.PrintLast Go.Proofs.YtnfdppkbbfdmnaaGreatDoorW.PrintMore
set_option linter.unusedVariables false
set_option linter.unusedSimpArgs false
/-! ### a part, cut at its two dots -/
end Go.Proofs.YtnfdppkbbfdmnaaGreatDoor.PD

namespace Go.Proofs.YtnfdppkbbfdmnaaGreatDoor.PD
open Go.RowKit Go.Proofs.YtnfdppkbbfdmnaaGreatDoorW.PrintWords Go.Proofs.YtnfdppkbbfdmnaaGreatDoorW.PrintLast Go.Proofs.YtnfdppkbbfdmnaaGreatDoorW.PrintMore
set_option linter.unusedVariables false
set_option linter.unusedSimpArgs false
/-! ### a part, read -/
def twoB (x : List UInt8) : List UInt8 := if (Lib.cut x [46, 46]).2.2 = true then (Lib.cut x [46, 46]).2.1 else (Lib.cut x [46, 46]).1
def parsePart (x : List UInt8) : Option S57 :=
  match Lib.parseIntB 64 (Lib.cut x [46, 46]).1, Lib.parseIntB 64 (twoB x) with
  | .ok lo, .ok hi => some ⟨lo, hi⟩
  | _, _ => none
end Go.Proofs.YtnfdppkbbfdmnaaGreatDoor.PD

namespace Go.Proofs.YtnfdppkbbfdmnaaGreatDoor.PD
open Go.RowKit Go.Proofs.YtnfdppkbbfdmnaaGreatDoorW.PrintWords Go.Proofs.YtnfdppkbbfdmnaaGreatDoorW.PrintLast Go.Proofs.YtnfdppkbbfdmnaaGreatDoorW.PrintMore
set_option linter.unusedVariables false
set_option linter.unusedSimpArgs false
/-! ### all parts, read -/
def parseAll : List ByteArray → List S57 → Option (List S57)
  | [], acc => some acc
  | x :: xs, acc => match parsePart x.data.toList with
    | some r => parseAll xs (acc ++ [r])
    | none => none
end Go.Proofs.YtnfdppkbbfdmnaaGreatDoor.PD

namespace Go.Proofs.YtnfdppkbbfdmnaaGreatDoor.PD
open Go.RowKit Go.Proofs.YtnfdppkbbfdmnaaGreatDoorW.PrintWords Go.Proofs.YtnfdppkbbfdmnaaGreatDoorW.PrintLast Go.Proofs.YtnfdppkbbfdmnaaGreatDoorW.PrintMore
set_option linter.unusedVariables false
set_option linter.unusedSimpArgs false
/-! ### ParseInt -/
def PInt (x : List UInt8) (e : Ending) : Prop :=
  (∃ v, Lib.parseIntB 64 x = .ok v ∧ e = .returned (.tuple #[.int .i64 v, .nilIface])) ∨
  ((∀ v, Lib.parseIntB 64 x ≠ .ok v) ∧ ∃ n a, e = .returned (.tuple #[.int .i64 n, .iface 109 (.pointer (some a))]))
theorem pint_calls (s : ByteArray) (hz : s.size ≤ 140737488351232) (w : World) (hl : DomLaid w) :
    Calls Tryz.prog 68 #[.string s, .int .i64 10, .int .i64 64] w fun e w' => PInt s.data.toList e ∧ Below w.heap.size w w' := by
  obtain ⟨tp, p, hv⟩ := hl.syn
  obtain ⟨tq, q, hq⟩ := hl.rng
  rcases hp : Lib.parseIntB 64 s.data.toList with v | _ | _
  · refine (Tryz.strconv_ParseInt_10_at64_ok s (by omega) v hp w).mono ?_
    rintro e w' ⟨rfl, hw⟩
    refine ⟨.inl ⟨v, hp, rfl⟩, ?_⟩
    rcases hw with rfl | ⟨t, rfl⟩
    · exact Below.refl _ _
    · exact Go.Joins.below_bytesWorld _ _ _ _ (Nat.le_refl _)
  · refine (Tryz.strconv_ParseInt_10_at64_syntax_var s (by omega) hp tp p w hv).mono ?_
    rintro e w' ⟨N, rfl, _, _, hb⟩
    exact ⟨.inr ⟨fun v h => (by rw [hp] at h; cases h), _, _, rfl⟩, hb⟩
  · refine (Tryz.strconv_ParseInt_10_at64_range_var s (by omega) hp tq q w hq).mono ?_
    rintro e w' ⟨N, rfl, _, _, hb⟩
    exact ⟨.inr ⟨fun v h => (by rw [hp] at h; cases h), _, _, rfl⟩, hb⟩

end Go.Proofs.YtnfdppkbbfdmnaaGreatDoor.PD

namespace Go.Proofs.YtnfdppkbbfdmnaaGreatDoor.PD
open Go.RowKit Go.Proofs.YtnfdppkbbfdmnaaGreatDoorW.PrintWords Go.Proofs.YtnfdppkbbfdmnaaGreatDoorW.PrintLast Go.Proofs.YtnfdppkbbfdmnaaGreatDoorW.PrintMore
set_option linter.unusedVariables false
set_option linter.unusedSimpArgs false
/-! ### Parse of the program (begun) -/
def parseO (s : ByteArray) : Option (List S57) → List S57 × Int
  | none => ([], 20)
  | some l => if rightS l = true ∧ textT l = s then (l, 0) else ([], 20)
def partsOf (s : ByteArray) : List ByteArray := Lib.splitB ⟨#[44]⟩ 0 (Lib.countB s ⟨#[44]⟩) s
def parseS (s : ByteArray) : List S57 × Int := if 65536 < s.size then ([], 3) else if s = ⟨#[123, 125]⟩ then ([], 0) else parseO s (parseAll (partsOf s) [])
end Go.Proofs.YtnfdppkbbfdmnaaGreatDoor.PD

namespace Go.Proofs.YtnfdppkbbfdmnaaGreatDoor.PD
open Go.RowKit Go.Proofs.YtnfdppkbbfdmnaaGreatDoorW.PrintWords Go.Proofs.YtnfdppkbbfdmnaaGreatDoorW.PrintLast Go.Proofs.YtnfdppkbbfdmnaaGreatDoorW.PrintMore
set_option linter.unusedVariables false
set_option linter.unusedSimpArgs false
/-! ### Parse of the program -/
theorem indexT_at (b : Nat) (m c : Nat) (i : Int) (h : 0 ≤ i ∧ i < m) (W : World) : (Instr.indexAt 62 (.slice (some ⟨b, 0, none⟩) m c) (.int .i64 i)).run Tryz.prog W = .ok (.pointer (some ⟨b, i.toNat, none⟩)) W := by
  obtain ⟨h1, h2⟩ := h
  rw [run_indexAt_slice (k := .i64) (h := by kernel_rfl)]
  simp [go_sem, h1, h2, add_zero_off]
theorem parseAll_drop {xs : List ByteArray} {k : Nat} (h : k < xs.length) (acc : List S57) : parseAll (xs.drop k) acc = match parsePart xs[k].data.toList with
    | some r => parseAll (xs.drop (k + 1)) (acc ++ [r])
    | none => none := by
  rw [List.drop_eq_getElem_cons h]
  rfl
theorem parsePart_bad {x : List UInt8} (h : (∀ v, Lib.parseIntB 64 (Lib.cut x [46, 46]).1 ≠ .ok v) ∨ (∀ v, Lib.parseIntB 64 (twoB x) ≠ .ok v)) : parsePart x = none := by
  unfold parsePart
  split
  · rename_i lo hi e1 e2
    rcases h with h | h
    · exact absurd e1 (h _)
    · exact absurd e2 (h _)
  · rfl
theorem parsePart_good {x : List UInt8} {lo hi : Int} (h1 : Lib.parseIntB 64 (Lib.cut x [46, 46]).1 = .ok lo) (h2 : Lib.parseIntB 64 (twoB x) = .ok hi) : parsePart x = some ⟨lo, hi⟩ := by
  unfold parsePart
  rw [h1, h2]

end Go.Proofs.YtnfdppkbbfdmnaaGreatDoor.PD

namespace Go.Proofs.YtnfdppkbbfdmnaaGreatDoor.PD
open Go.RowKit Go.Proofs.YtnfdppkbbfdmnaaGreatDoorW.PrintWords Go.Proofs.YtnfdppkbbfdmnaaGreatDoorW.PrintLast Go.Proofs.YtnfdppkbbfdmnaaGreatDoorW.PrintMore
attribute [local go_sem] max2_int min2_int max_two min_two max_three min_three max_four min_four   -- for this text's walks alone
set_option linter.unusedVariables false
set_option linter.unusedSimpArgs false

/-! ### jigsawref02_number: function 69 -/
end Go.Proofs.YtnfdppkbbfdmnaaGreatDoor.PD

namespace Go.Proofs.YtnfdppkbbfdmnaaGreatDoor.PD
open Go.RowKit Go.Proofs.YtnfdppkbbfdmnaaGreatDoorW.PrintWords Go.Proofs.YtnfdppkbbfdmnaaGreatDoorW.PrintLast Go.Proofs.YtnfdppkbbfdmnaaGreatDoorW.PrintMore
set_option linter.unusedVariables false
set_option linter.unusedSimpArgs false
/-! ### a number at a place -/
def digU (b : UInt8) : Prop := 48 ≤ b.toNat ∧ b.toNat ≤ 57
instance (b : UInt8) : Decidable (digU b) := by unfold digU; infer_instance
def numL : Nat → List UInt8 → Nat → Nat × Nat
  | 0, _, n => (n, 0)
  | _ + 1, [], n => (n, 0)
  | d + 1, b :: t, n => if digU b then ((numL d t (10 * n + (b.toNat - 48))).1, (numL d t (10 * n + (b.toNat - 48))).2 + 1) else (n, 0)
def sgn (neg : Bool) (n : Nat) : Int := if neg then -(n : Int) else n
def numS : List UInt8 → Int × Nat × Bool
  | [] => (0, 0, false)
  | c :: t => if c.toNat = 45 then (sgn true (numL 9 t 0).1, (numL 9 t 0).2 + 1, decide (0 < (numL 9 t 0).2)) else (sgn false (numL 9 (c :: t) 0).1, (numL 9 (c :: t) 0).2, decide (0 < (numL 9 (c :: t) 0).2))
theorem numL_digits : ∀ (ds post : List UInt8) (d n : Nat), (∀ c ∈ ds, digU c) → ds.length ≤ d → (∀ c ∈ post.head?, ¬ digU c) → numL d (ds ++ post) n = (ds.foldl (fun n c => 10 * n + (c.toNat - 48)) n, ds.length)
  | [], post, d, n, _, _, hp => by
    rw [List.nil_append]
    cases d with
    | zero => rfl
    | succ d =>
      cases post with
      | nil => rfl
      | cons c t => rw [numL, if_neg (hp c (by simp))]; rfl
  | b :: ds, post, d, n, h, hl, hp => by
    cases d with
    | zero => rw [List.length_cons] at hl; omega
    | succ d =>
      rw [List.cons_append, numL, if_pos (h b (by simp)), numL_digits ds post d _ (fun c hc => h c (by simp [hc])) (by rw [List.length_cons] at hl; omega) hp]
      rfl
theorem numS_itoa (n : Int) (h0 : -1000000 ≤ n) (h1 : n ≤ 1000000) (post : List UInt8) (hp : ∀ c ∈ post.head?, ¬ digU c) : numS (Lib.itoa n ++ post) = (n, (Lib.itoa n).length, true) := by
  have hd : ∀ m, ∀ c ∈ Lib.decDigits m, digU c := fun m c hc => digits_ok m c hc
  have hv : ∀ m, (Lib.decDigits m).foldl (fun n c => 10 * n + (c.toNat - 48)) 0 = m := fun m => (decD_all m).2.2
  have hne : ∀ m, 0 < (Lib.decDigits m).length := fun m => List.length_pos_iff.2 (decD_all m).2.1
  have hl : ∀ m, m < 10000000 → (Lib.decDigits m).length ≤ 7 := fun m hm => decD_len 6 m (by omega)
  unfold Lib.itoa
  split
  · rename_i hn
    rw [List.cons_append, numS, if_pos (by decide), numL_digits _ _ _ _ (hd _) (by have := hl n.natAbs (by omega); omega) hp, hv]
    dsimp only
    rw [decide_eq_true (hne _), List.length_cons]
    unfold sgn
    rw [if_pos rfl]
    congr 1
    omega
  · rename_i hn
    have q := numL_digits (Lib.decDigits n.toNat) post 9 0 (hd _) (by have := hl n.toNat (by omega); omega) hp
    have hh := hd n.toNat
    have hp0 := hne n.toNat
    rcases e : Lib.decDigits n.toNat with _ | ⟨c, t⟩
    · rw [e] at hp0; simp at hp0
    · have e2 := hv n.toNat
      rw [e] at q hh hp0 e2
      have hc := hh c (by simp)
      unfold digU at hc
      rw [List.cons_append] at q ⊢
      rw [numS, if_neg (by omega), q, e2]
      dsimp only
      rw [decide_eq_true hp0]
      unfold sgn
      rw [if_neg (by decide)]
      congr 1
      omega
/-! ### the printed function -/
end Go.Proofs.YtnfdppkbbfdmnaaGreatDoor.PD

namespace Go.Proofs.YtnfdppkbbfdmnaaGreatDoor.PD
open Go.RowKit Go.Proofs.YtnfdppkbbfdmnaaGreatDoorW.PrintWords Go.Proofs.YtnfdppkbbfdmnaaGreatDoorW.PrintLast Go.Proofs.YtnfdppkbbfdmnaaGreatDoorW.PrintMore
set_option linter.unusedVariables false
set_option linter.unusedSimpArgs false
/-! ### Split and Cut -/
/-- two texts held against each other, as the walk spells it -/
theorem str_eqB (a b : ByteArray) : (a.toList == b.toList) = decide (a = b) := by
  rw [Bool.eq_iff_iff, beq_iff_eq, decide_eq_true_iff, ByteArray.toList_eq, ByteArray.toList_eq]
  constructor
  · intro h
    cases a; cases b
    congr 1
    exact Array.toList_inj.1 h
  · rintro rfl
    rfl
theorem str_neL {a : ByteArray} {l : List UInt8} (h : a ≠ ⟨l.toArray⟩) : (a.toList == l) = false := by
  have := str_eqB a ⟨l.toArray⟩
  rw [decide_eq_false h, ByteArray.toList_eq ⟨l.toArray⟩] at this
  exact this
theorem split_size (sep : ByteArray) : ∀ (k : Nat) (s : ByteArray), ∀ x ∈ Lib.splitB sep 0 k s, x.size ≤ s.size
  | 0, s, x, h => by
    rw [Lib.splitB_zero, List.mem_singleton] at h
    subst h
    exact Nat.le_refl _
  | k + 1, s, x, h => by
    unfold Lib.splitB at h
    split at h
    · rw [List.mem_singleton] at h
      subst h
      exact Nat.le_refl _
    · rw [List.mem_cons] at h
      rcases h with rfl | h
      · rw [ByteArray.size_extract]; omega
      · have := split_size sep k _ x h
        rw [ByteArray.size_extract] at this
        omega
theorem parts_count (s : ByteArray) : (partsOf s).length = Lib.countB s ⟨#[44]⟩ + 1 := Lib.splitB_all ⟨#[44]⟩ (by decide) 0 _ s rfl
theorem split_calls (s : ByteArray) (hz : s.size ≤ 65536) (w : World) (hl : DomLaid w) :
    Calls Tryz.prog 66 #[.string s, .string ⟨#[44]⟩] w fun e w' => e = .returned (.slice (some ⟨w.heap.size, 0, none⟩) (partsOf s).length (partsOf s).length) ∧ (∀ k (h : k < (partsOf s).length), w'.cell? ⟨w.heap.size, k, none⟩ = some (.string (partsOf s)[k])) ∧ w.heap.size < w'.heap.size ∧ Below w.heap.size w w' := by
  obtain ⟨m, hm⟩ := hl.mx
  refine (Tryz.strings_Split s ⟨#[44]⟩ m w (by omega) hm (by decide)).mono ?_
  rintro e w' ⟨rfl, rfl⟩
  refine ⟨by rw [parts_count], fun k h => ?_, by simp, (Below.refl _ _).alloc (Nat.le_refl _) _⟩
  refine (blk_cell (World.alloc_heap_new _ _) k).trans ?_
  show ((List.map Value.string (partsOf s)).toArray)[k]? = _
  rw [List.getElem?_toArray, List.getElem?_map, List.getElem?_eq_getElem h]
  rfl
theorem cutd_calls (x : ByteArray) (hz : x.size ≤ 65536) (w : World) (hl : DomLaid w) :
    Calls Tryz.prog 67 #[.string x, .string ⟨#[46, 46]⟩] w fun e w' => e = .returned (.tuple #[.string ⟨(Lib.cut x.data.toList [46, 46]).1.toArray⟩, .string ⟨(Lib.cut x.data.toList [46, 46]).2.1.toArray⟩, .bool (Lib.cut x.data.toList [46, 46]).2.2]) ∧ Below w.heap.size w w' := by
  obtain ⟨m, hm⟩ := hl.mx
  refine (Tryz.strings_Cut x ⟨#[46, 46]⟩ m w (by omega) hm).mono ?_
  rintro e w' ⟨rfl, k, rfl⟩
  exact ⟨rfl, Drawn0.below ⟨⟨k, rfl⟩⟩⟩
theorem cut_len (l sep : List UInt8) : (Lib.cut l sep).1.length ≤ l.length ∧ (Lib.cut l sep).2.1.length ≤ l.length := by
  unfold Lib.cut
  split
  · exact ⟨by rw [List.length_take]; omega, by rw [List.length_drop]; omega⟩
  · exact ⟨Nat.le_refl _, Nat.zero_le _⟩
set_option maxRecDepth 100000 in
set_option maxHeartbeats 8000000 in
theorem Parse_calls (s : ByteArray) (hz : s.size ≤ 140737488351232) (w : World) (hd : DomLaid w) :
    Calls Tryz.prog 24 #[.string s] w fun e w' => ∃ v', e = .returned (.tuple #[v', .int .i64 (parseS s).2]) ∧ Row w' w.heap.size v' (parseS s).1 ∧ Below w.heap.size w w' := by
  by_cases hbig : 65536 < s.size
  · have hp : parseS s = ([], 3) := by unfold parseS; rw [if_pos hbig]
    rw [hp]
    clear hp hd
    go_enter Tryz.func24, Tryz.ntmps24
    go_wp2_with fail
    go_ret2
    exact ⟨_, rfl, Row.nil _ _, Below.refl _ _⟩
  by_cases hbr : s = ⟨#[123, 125]⟩
  · have hp : parseS s = ([], 0) := by unfold parseS; rw [if_neg hbig, if_pos hbr]
    rw [hp]
    clear hp hd
    subst hbr
    go_enter Tryz.func24, Tryz.ntmps24
    go_wp2_with fail
    go_ret2
    exact ⟨_, rfl, Row.nil _ _, Below.refl _ _⟩
  have hp : parseS s = parseO s (parseAll (partsOf s) []) := by unfold parseS; rw [if_neg hbig, if_neg hbr]
  rw [hp]
  have hne : (s.toList == [123, 125]) = false := str_neL hbr
  have hz2 : s.size ≤ 65536 := by omega
  obtain ⟨i0, hi0, hz0, hz1, hzz2⟩ := info_parts info57
  have HSP := Lib.hid (split_calls s hz2 w hd)
  have HSZ := Lib.hid (split_size ⟨#[44]⟩ (Lib.countB s ⟨#[44]⟩) s)
  have HPL := Lib.hid (parts_count s)
  have hcl := Lib.countB_le ⟨#[44]⟩ (by decide) s.size s (Nat.le_refl _)
  have HD := Lib.hid hd
  change Hid (∀ x ∈ partsOf s, x.size ≤ s.size) at HSZ
  obtain ⟨xs, hxs⟩ : ∃ xs, partsOf s = xs := ⟨_, rfl⟩
  rw [hxs] at HSP HSZ HPL ⊢
  obtain ⟨n, hn⟩ : ∃ n, xs.length = n := ⟨_, rfl⟩
  have hnb : n ≤ 65537 := by have := HPL.out; rw [hn] at this; omega
  have HN := Lib.hid hn
  clear hxs hn hd hp HPL hcl
  obtain ⟨res, hres⟩ : ∃ res, parseO s (parseAll xs []) = res := ⟨_, rfl⟩
  rw [hres]
  have HRES := Lib.hid hres
  clear hres
  go_enter Tryz.func24, Tryz.ntmps24
  go_wp2_with fail
  refine HSP.out.mono ?_
  rintro e w1 ⟨rfl, hcells, hlt, hb1⟩
  rw [HN.out]
  have HCE := Lib.hid hcells; have HB1 := Lib.hid hb1
  have HD1 := Lib.hid (HD.out.below hb1)
  obtain ⟨g, hg⟩ : ∃ g, w.heap.size = g := ⟨_, rfl⟩
  rw [hg] at hlt HCE
  simp only [hg]
  have HG := Lib.hid hg
  clear hcells hb1 hg
  go_wp2_with fail
  go_loopw [4, 24] (fun o i wr => ∃ (k : Nat) (acc : List S57), i = .int .i64 k ∧ k ≤ n ∧ acc.length ≤ k ∧ Hid (parseAll xs [] = parseAll (xs.drop k) acc) ∧ Hid (Row wr w1.heap.size o acc) ∧ Hid (Below w1.heap.size w1 wr))
    (fun _ i _ => n - (intOf i).toNat)
  case atStart => exact ⟨0, [], rfl, Nat.zero_le _, Nat.zero_le _, Lib.hid rfl, Lib.hid (Row.nil _ _), Lib.hid (Below.refl _ _)⟩
  case round =>
    obtain ⟨k, acc, rfl, hk, hal, hP, hO, hB⟩ := hrel
    obtain ⟨A0, c0, rfl⟩ := row_form hO.out
    have hgz := hB.out.size
    by_cases hkn : k < n
    · have hkx : k < xs.length := by rw [HN.out]; exact hkn
      have hx0 := (hB.out.cell (p := ⟨g, k, none⟩) hlt).trans (HCE.out k hkx)
      have hxz := HSZ.out _ (List.getElem_mem hkx)
      have hstep := parseAll_drop hkx acc
      have HDW := Lib.hid (HD1.out.below hB.out)
      generalize xs[k] = x at *
      have HST := Lib.hid (hP.out.trans hstep)
      have hix := fun W => indexT_at g n n (k : Nat) (by omega) W
      simp only [Int.toNat_natCast] at hix
      have HC := Lib.hid (fun W hd => cutd_calls x (by omega) W hd)
      obtain ⟨hl1, hl2⟩ := cut_len x.data.toList [46, 46]
      have hxd : x.data.toList.length = x.size := by simp
      obtain ⟨⟨p1, p2, two⟩, hcut⟩ : ∃ q, Lib.cut x.data.toList [46, 46] = q := ⟨_, rfl⟩
      have htw : twoB x.data.toList = if two = true then p2 else p1 := by unfold twoB; rw [hcut]
      rw [hcut] at hl1 hl2 HC
      dsimp only at hl1 hl2 HC
      have KA := Lib.hid (fun W hd => pint_calls ⟨p1.toArray⟩ (by show p1.toArray.size ≤ _; rw [List.size_toArray]; omega) W hd)
      have KB := Lib.hid (fun W hd => pint_calls ⟨p2.toArray⟩ (by show p2.toArray.size ≤ _; rw [List.size_toArray]; omega) W hd)
      change Hid (∀ W (hd : DomLaid W), Calls Tryz.prog 68 #[.string ⟨p1.toArray⟩, .int .i64 10, .int .i64 64] W fun e w' => PInt p1 e ∧ Below W.heap.size W w') at KA
      change Hid (∀ W (hd : DomLaid W), Calls Tryz.prog 68 #[.string ⟨p2.toArray⟩, .int .i64 10, .int .i64 64] W fun e w' => PInt p2 e ∧ Below W.heap.size W w') at KB
      have HCUT := Lib.hid hcut; have HTW := Lib.hid htw
      clear hcut htw hl1 hl2 hxd hstep
      cases two with
      | false =>
        clear KB
        have HK2 := KA
        have HTW2 : Hid (twoB x.data.toList = p1) := HTW
        go_wp2_with fail
        refine (HC.out _ HDW.out).mono ?_
        rintro e w2 ⟨rfl, hb2⟩
        have HB2 := Lib.hid (below_step hB.out hb2); have HDW2 := Lib.hid (HDW.out.below hb2)
        have HO2 := Lib.hid (hO.out.below hb2)
        clear hb2
        go_wp2_with fail
        refine (KA.out _ HDW2.out).mono ?_
        rintro e w3 ⟨hP3, hb3⟩
        have HB3 := Lib.hid (below_step HB2.out hb3); have HDW3 := Lib.hid (HDW2.out.below hb3)
        have HO3 := Lib.hid (HO2.out.below hb3)
        clear hb3
        rcases hP3 with ⟨a, hpa, rfl⟩ | ⟨hpa, n1, a1, rfl⟩
        · have HPA := Lib.hid hpa
          clear hpa
          go_wp2_with fail
          refine (HK2.out _ HDW3.out).mono ?_
          rintro e w4 ⟨hP4, hb4⟩
          have HB4 := Lib.hid (below_step HB3.out hb4)
          have HO4 := Lib.hid (HO3.out.below hb4)
          clear hb4
          rcases hP4 with ⟨b, hpb, rfl⟩ | ⟨hpb, n2, a2, rfl⟩
          · have hgood := parsePart_good (x := x.data.toList) (lo := a) (hi := b) (by rw [HCUT.out]; exact HPA.out) (by rw [HTW2.out]; exact hpb)
            have HST2 : Hid (parseAll xs [] = parseAll (xs.drop (k + 1)) (acc ++ [⟨a, b⟩])) := by have := HST.out; rw [hgood] at this; exact this
            have hgz4 := HB4.out.size
            clear hgood hpb HST
            go_wp2_with ((with_reducible refine gate_dst (N := 58) rfl ?_); refine wpList_append_own _ rfl _ _ 23 rfl w1.heap.size 57 i0 _ 2 16 Tryz.underlying23 hi0 hz0 hz1 hzz2 rfl (by decide) _ _ _ rfl ((Row.own HO4.out).alloc _) ⟨_, 0, none⟩ 1 1 [.int .i64 a, .int .i64 b] rfl rfl (cell_pair_at _ _ (by simp) _ _ _) (by simp [Value.oneCell']) (by simp only [maxLen]; omega) (by omega) (by first | omega | (simp; omega)) ?_; intro v' w6 hown' hgrow _; obtain ⟨q1, q2⟩ := HO4.out.pushed hown' hgrow (by first | omega | (simp; omega)); have hQ1 := Lib.hid q1; have hQ2 := Lib.hid (HB4.out.trans q2); clear hown' hgrow q1 q2)
            refine ⟨⟨k + 1, acc ++ [⟨a, b⟩], by rw [Int.natCast_add]; rfl, by omega, by rw [List.length_append, List.length_singleton]; omega, HST2, hQ1, hQ2⟩, by simp [intOf]; omega⟩
          · have hbad := parsePart_bad (x := x.data.toList) (.inr (by rw [HTW2.out]; exact hpb))
            have hres : res = ([], 20) := by rw [← HRES.out, HST.out, hbad]; rfl
            have HRS := Lib.hid hres
            clear hres hbad hpb
            go_wp2_with fail
            go_ret2
            rw [HRS.out]
            exact ⟨_, rfl, Row.nil _ _, HG.out ▸ below_step HB1.out HB4.out⟩
        · have hbad := parsePart_bad (x := x.data.toList) (.inl (by rw [HCUT.out]; exact hpa))
          have hres : res = ([], 20) := by rw [← HRES.out, HST.out, hbad]; rfl
          have HRS := Lib.hid hres
          clear hres hbad hpa
          go_wp2_with fail
          refine (HK2.out _ HDW3.out).mono ?_
          rintro e w4 ⟨hP4, hb4⟩
          have HB4 := Lib.hid (below_step HB3.out hb4)
          clear hb4
          rcases hP4 with ⟨b, hpb, rfl⟩ | ⟨hpb, n2, a2, rfl⟩
          all_goals
            clear hpb
            go_wp2_with fail
            go_ret2
            rw [HRS.out]
            exact ⟨_, rfl, Row.nil _ _, HG.out ▸ below_step HB1.out HB4.out⟩
      | true =>
        have HK2 := KB
        have HTW2 : Hid (twoB x.data.toList = p2) := HTW
        go_wp2_with fail
        refine (HC.out _ HDW.out).mono ?_
        rintro e w2 ⟨rfl, hb2⟩
        have HB2 := Lib.hid (below_step hB.out hb2); have HDW2 := Lib.hid (HDW.out.below hb2)
        have HO2 := Lib.hid (hO.out.below hb2)
        clear hb2
        go_wp2_with fail
        refine (KA.out _ HDW2.out).mono ?_
        rintro e w3 ⟨hP3, hb3⟩
        have HB3 := Lib.hid (below_step HB2.out hb3); have HDW3 := Lib.hid (HDW2.out.below hb3)
        have HO3 := Lib.hid (HO2.out.below hb3)
        clear hb3
        rcases hP3 with ⟨a, hpa, rfl⟩ | ⟨hpa, n1, a1, rfl⟩
        · have HPA := Lib.hid hpa
          clear hpa
          go_wp2_with fail
          refine (HK2.out _ HDW3.out).mono ?_
          rintro e w4 ⟨hP4, hb4⟩
          have HB4 := Lib.hid (below_step HB3.out hb4)
          have HO4 := Lib.hid (HO3.out.below hb4)
          clear hb4
          rcases hP4 with ⟨b, hpb, rfl⟩ | ⟨hpb, n2, a2, rfl⟩
          · have hgood := parsePart_good (x := x.data.toList) (lo := a) (hi := b) (by rw [HCUT.out]; exact HPA.out) (by rw [HTW2.out]; exact hpb)
            have HST2 : Hid (parseAll xs [] = parseAll (xs.drop (k + 1)) (acc ++ [⟨a, b⟩])) := by have := HST.out; rw [hgood] at this; exact this
            have hgz4 := HB4.out.size
            clear hgood hpb HST
            go_wp2_with ((with_reducible refine gate_dst (N := 58) rfl ?_); refine wpList_append_own _ rfl _ _ 23 rfl w1.heap.size 57 i0 _ 2 16 Tryz.underlying23 hi0 hz0 hz1 hzz2 rfl (by decide) _ _ _ rfl ((Row.own HO4.out).alloc _) ⟨_, 0, none⟩ 1 1 [.int .i64 a, .int .i64 b] rfl rfl (cell_pair_at _ _ (by simp) _ _ _) (by simp [Value.oneCell']) (by simp only [maxLen]; omega) (by omega) (by first | omega | (simp; omega)) ?_; intro v' w6 hown' hgrow _; obtain ⟨q1, q2⟩ := HO4.out.pushed hown' hgrow (by first | omega | (simp; omega)); have hQ1 := Lib.hid q1; have hQ2 := Lib.hid (HB4.out.trans q2); clear hown' hgrow q1 q2)
            refine ⟨⟨k + 1, acc ++ [⟨a, b⟩], by rw [Int.natCast_add]; rfl, by omega, by rw [List.length_append, List.length_singleton]; omega, HST2, hQ1, hQ2⟩, by simp [intOf]; omega⟩
          · have hbad := parsePart_bad (x := x.data.toList) (.inr (by rw [HTW2.out]; exact hpb))
            have hres : res = ([], 20) := by rw [← HRES.out, HST.out, hbad]; rfl
            have HRS := Lib.hid hres
            clear hres hbad hpb
            go_wp2_with fail
            go_ret2
            rw [HRS.out]
            exact ⟨_, rfl, Row.nil _ _, HG.out ▸ below_step HB1.out HB4.out⟩
        · have hbad := parsePart_bad (x := x.data.toList) (.inl (by rw [HCUT.out]; exact hpa))
          have hres : res = ([], 20) := by rw [← HRES.out, HST.out, hbad]; rfl
          have HRS := Lib.hid hres
          clear hres hbad hpa
          go_wp2_with fail
          refine (HK2.out _ HDW3.out).mono ?_
          rintro e w4 ⟨hP4, hb4⟩
          have HB4 := Lib.hid (below_step HB3.out hb4)
          clear hb4
          rcases hP4 with ⟨b, hpb, rfl⟩ | ⟨hpb, n2, a2, rfl⟩
          all_goals
            clear hpb
            go_wp2_with fail
            go_ret2
            rw [HRS.out]
            exact ⟨_, rfl, Row.nil _ _, HG.out ▸ below_step HB1.out HB4.out⟩
    · obtain rfl : k = n := by omega
      have hdr : xs.drop k = [] := List.drop_eq_nil_iff.2 (by rw [HN.out]; exact Nat.le_refl _)
      have hpa : parseO s (some acc) = res := by
        rw [← HRES.out, hP.out, hdr]
        rfl
      have HPA := Lib.hid hpa
      have HDW := Lib.hid (HD1.out.below hB.out)
      have HR := Lib.hid (right_calls (v := .slice A0 acc.length c0) acc wr hO.out.lst)
      have HB2 := Lib.hid (below_step HB1.out hB.out)
      have hle := hB.out.size
      clear hpa hdr
      cases hR : rightS acc with
      | false =>
        rw [hR] at HR
        go_wp2_with fail
        refine HR.out.mono ?_
        rintro e w3 ⟨rfl, hb3⟩
        go_wp2_with fail
        go_ret2
        have : res = ([], 20) := by rw [← HPA.out]; unfold parseO; dsimp only; rw [if_neg (by rw [hR]; simp)]
        rw [this, HG.out]
        exact ⟨_, rfl, Row.nil _ _, HG.out ▸ below_step HB2.out hb3⟩
      | true =>
        rw [hR] at HR
        go_wp2_with fail
        refine HR.out.mono ?_
        rintro e w3 ⟨rfl, hb3⟩
        have HT := Lib.hid (Text_calls (v := .slice A0 acc.length c0) acc w3 (hO.out.lst.below hb3) (HDW.out.below hb3))
        rw [takenL_of hR] at HT
        have HB3 := Lib.hid (below_step HB2.out hb3)
        have HO3 := Lib.hid (hO.out.below hb3)
        clear hb3
        by_cases hT : textT acc = s
        · have hres : res = (acc, 0) := by rw [← HPA.out]; unfold parseO; dsimp only; rw [if_pos ⟨hR, hT⟩]
          have HRS := Lib.hid hres
          rw [hT] at HT
          clear hres hT
          go_wp2_with fail
          refine HT.out.mono ?_
          rintro e w4 ⟨rfl, hb4⟩
          go_wp2_with fail
          go_ret2
          rw [HRS.out]
          exact ⟨_, rfl, (HO3.out.below hb4).lower (by have := HB1.out.size; omega), HG.out ▸ below_step HB3.out hb4⟩
        · have hres : res = ([], 20) := by rw [← HPA.out]; unfold parseO; dsimp only; rw [if_neg (by rintro ⟨_, h⟩; exact hT h)]
          have HRS := Lib.hid hres
          have hT' : ((textT acc).toList == s.toList) = false := by rw [str_eqB, decide_eq_false hT]
          clear hres
          generalize textT acc = T at *
          go_wp2_with fail
          refine HT.out.mono ?_
          rintro e w4 ⟨rfl, hb4⟩
          go_wp2_with fail
          go_ret2
          rw [HRS.out]
          exact ⟨_, rfl, Row.nil _ _, HG.out ▸ below_step HB3.out hb4⟩

end Go.Proofs.YtnfdppkbbfdmnaaGreatDoor.PD

namespace Go.Proofs.YtnfdppkbbfdmnaaGreatDoor.PD
open Go.RowKit Go.Proofs.YtnfdppkbbfdmnaaGreatDoorW.PrintWords Go.Proofs.YtnfdppkbbfdmnaaGreatDoorW.PrintLast Go.Proofs.YtnfdppkbbfdmnaaGreatDoorW.PrintMore
set_option linter.unusedVariables false
set_option linter.unusedSimpArgs false
/-! ### ranges read off a text, one by one -/
def dots : List UInt8 → Bool
  | a :: b :: _ => a == 46 && b == 46
  | _ => false
def postT (t : List S57) : List UInt8 := Lib.joinTail [44] ((partsT t).map (·.data.toList))
theorem postT_nil : postT [] = [] := rfl
theorem postT_cons (r : S57) (t : List S57) : postT (r :: t) = 44 :: (textT (r :: t)).data.toList := by
  rw [textT_list]
  unfold postT
  have e : (partsT (r :: t)).map (·.data.toList) = (rngT r).data.toList :: (partsT t).map (·.data.toList) := rfl
  rw [e]
  simp [Lib.joinTail]
theorem postT_head (t : List S57) : ∀ c ∈ (postT t).head?, ¬ digU c := by
  cases t with
  | nil => intro c hc; simp [postT_nil] at hc
  | cons r t =>
    intro c hc
    rw [postT_cons] at hc
    simp at hc
    subst hc
    decide
theorem itoa_rng (r : S57) : (rngT r).data.toList = if r.f0 < r.f1 then Lib.itoa r.f0 ++ 46 :: 46 :: Lib.itoa r.f1 else Lib.itoa r.f0 := by
  unfold rngT
  split
  · rw [ByteArray.data_append, ByteArray.data_append, Array.toList_append, Array.toList_append]
    rfl
  · rfl
/-- what stands in a text where a range begins -/
structure StepT (D : List UInt8) (r : S57) (t : List S57) : Prop where
  one : numS D = (r.f0, (Lib.itoa r.f0).length, true)
  dot : dots (D.drop (Lib.itoa r.f0).length) = decide (r.f0 < r.f1)
  two : r.f0 < r.f1 → numS (D.drop ((Lib.itoa r.f0).length + 2)) = (r.f1, (Lib.itoa r.f1).length, true) ∧ D.drop ((Lib.itoa r.f0).length + 2 + (Lib.itoa r.f1).length) = postT t
  none : ¬ r.f0 < r.f1 → D.drop (Lib.itoa r.f0).length = postT t
theorem step_text (r : S57) (t : List S57) (h0 : -1000000 ≤ r.f0) (h : r.f0 ≤ r.f1) (h1 : r.f1 ≤ 1000000) : StepT (textT (r :: t)).data.toList r t := by
  have e : (textT (r :: t)).data.toList = (rngT r).data.toList ++ postT t := textT_list
  rw [itoa_rng] at e
  have hp := postT_head t
  by_cases hc : r.f0 < r.f1
  · rw [if_pos hc, List.append_assoc, List.cons_append, List.cons_append] at e
    have d0 : (Lib.itoa r.f0 ++ 46 :: 46 :: (Lib.itoa r.f1 ++ postT t)).drop (Lib.itoa r.f0).length = 46 :: 46 :: (Lib.itoa r.f1 ++ postT t) := List.drop_left' rfl
    have d1 : (Lib.itoa r.f0 ++ 46 :: 46 :: (Lib.itoa r.f1 ++ postT t)).drop ((Lib.itoa r.f0).length + 2) = Lib.itoa r.f1 ++ postT t := by
      rw [← List.drop_drop, d0]; rfl
    rw [e]
    refine ⟨numS_itoa r.f0 h0 (by omega) _ (by intro c hc; simp at hc; subst hc; decide), ?_, fun _ => ⟨?_, ?_⟩, fun h => absurd hc h⟩
    · rw [d0, decide_eq_true hc]; rfl
    · rw [d1]; exact numS_itoa r.f1 (by omega) h1 _ hp
    · rw [← List.drop_drop, d1]; exact List.drop_left' rfl
  · rw [if_neg hc] at e
    rw [e]
    have d0 : (Lib.itoa r.f0 ++ postT t).drop (Lib.itoa r.f0).length = postT t := List.drop_left' rfl
    refine ⟨numS_itoa r.f0 h0 (by omega) _ hp, ?_, fun h => absurd h hc, fun _ => d0⟩
    rw [d0, decide_eq_false hc]
    cases t with
    | nil => rfl
    | cons q t =>
      rw [postT_cons]
      cases hq : (textT (q :: t)).data.toList with
      | nil => rfl
      | cons a u => rfl
/-- so far the text is as it must be -/
def GoodAt (s : ByteArray) (k : Nat) (acc : List S57) : Prop := ∀ l, rightS l = true → 0 < l.length → textT l = s → ∃ j, j < l.length ∧ acc = l.take j ∧ s.data.toList.drop k = (textT (l.drop j)).data.toList
/-- of a text that is some ranges' -/
theorem GoodAt.next {s : ByteArray} {k : Nat} {acc : List S57} (h : GoodAt s k acc) {l : List S57} (hR : rightS l = true) (hl : 0 < l.length) (e : textT l = s) :
    ∃ r t, StepT (s.data.toList.drop k) r t ∧ (t = [] → acc ++ [r] = l) ∧ (t ≠ [] → ∃ j, j < l.length ∧ acc ++ [r] = l.take j ∧ t = l.drop j) := by
  obtain ⟨j, hj, hacc, hd⟩ := h l hR hl e
  have hr := right_mem hR _ (List.getElem_mem hj)
  rw [List.drop_eq_getElem_cons hj] at hd
  refine ⟨l[j], l.drop (j + 1), by rw [hd]; exact step_text _ _ hr.1 hr.2.1 hr.2.2, fun ht => ?_, fun ht => ?_⟩
  · have hlen : l.length ≤ j + 1 := by rw [List.drop_eq_nil_iff] at ht; exact ht
    rw [hacc, ← List.take_succ_eq_append_getElem hj]
    exact List.take_of_length_le hlen
  · refine ⟨j + 1, ?_, ?_, rfl⟩
    · have hlen : ¬ l.length ≤ j + 1 := fun q => ht (List.drop_eq_nil_iff.2 q)
      omega
    · rw [hacc, ← List.take_succ_eq_append_getElem hj]
/-- what the reference reads at a place -/
def readR (D : List UInt8) : S57 := if dots (D.drop (numS D).2.1) = true then ⟨(numS D).1, (numS (D.drop ((numS D).2.1 + 2))).1⟩ else ⟨(numS D).1, (numS D).1⟩
def readN (D : List UInt8) : Nat := if dots (D.drop (numS D).2.1) = true then (numS D).2.1 + 2 + (numS (D.drop ((numS D).2.1 + 2))).2.1 else (numS D).2.1
theorem StepT.read {D : List UInt8} {r : S57} {t : List S57} (h : StepT D r t) (hr : r.f0 ≤ r.f1) : readR D = r ∧ D.drop (readN D) = postT t := by
  obtain ⟨h1, h2, h3, h4⟩ := h
  have a1 : (numS D).1 = r.f0 := by rw [h1]
  have a2 : (numS D).2.1 = (Lib.itoa r.f0).length := by rw [h1]
  unfold readR readN
  rw [a1, a2, h2]
  by_cases hc : r.f0 < r.f1
  · obtain ⟨q1, q2⟩ := h3 hc
    rw [if_pos (decide_eq_true hc), if_pos (decide_eq_true hc), q1]
    exact ⟨rfl, q2⟩
  · rw [if_neg (by simpa using hc), if_neg (by simpa using hc)]
    exact ⟨S57_eta rfl (by show r.f0 = r.f1; omega), h4 hc⟩
/-- behind a range: the end, a comma, or no ranges -/
theorem GoodAt.after {s : ByteArray} {k : Nat} {acc : List S57} (h : GoodAt s k acc) (hk : k ≤ s.size) :
    (k + readN (s.data.toList.drop k) = s.size → ∀ l, rightS l = true → 0 < l.length → textT l = s → acc ++ [readR (s.data.toList.drop k)] = l) ∧
    (∀ c u, s.data.toList.drop (k + readN (s.data.toList.drop k)) = c :: u → c = 44 → GoodAt s (k + readN (s.data.toList.drop k) + 1) (acc ++ [readR (s.data.toList.drop k)])) ∧
    (∀ c u, s.data.toList.drop (k + readN (s.data.toList.drop k)) = c :: u → c ≠ 44 → ∀ l, rightS l = true → 0 < l.length → textT l = s → False) := by
  have key : ∀ l, rightS l = true → 0 < l.length → textT l = s → ∃ t, s.data.toList.drop (k + readN (s.data.toList.drop k)) = postT t ∧ (t = [] → acc ++ [readR (s.data.toList.drop k)] = l) ∧ (t ≠ [] → ∃ j, j < l.length ∧ acc ++ [readR (s.data.toList.drop k)] = l.take j ∧ t = l.drop j) := by
    intro l hR hl e
    obtain ⟨j, hj, hacc, hd⟩ := h l hR hl e
    have hr := right_mem hR _ (List.getElem_mem hj)
    have hs := step_text l[j] (l.drop (j + 1)) hr.1 hr.2.1 hr.2.2
    rw [← List.drop_eq_getElem_cons hj, ← hd] at hs
    obtain ⟨q1, q2⟩ := hs.read hr.2.1
    refine ⟨l.drop (j + 1), by rw [← List.drop_drop, q2], fun ht => ?_, fun ht => ?_⟩
    · have hlen : l.length ≤ j + 1 := by rw [List.drop_eq_nil_iff] at ht; exact ht
      rw [q1, hacc, ← List.take_succ_eq_append_getElem hj]
      exact List.take_of_length_le hlen
    · refine ⟨j + 1, ?_, ?_, rfl⟩
      · have hlen : ¬ l.length ≤ j + 1 := fun q => ht (List.drop_eq_nil_iff.2 q)
        omega
      · rw [q1, hacc, ← List.take_succ_eq_append_getElem hj]
  refine ⟨fun hend l hR hl e => ?_, fun c u hc hc44 l hR hl e => ?_, fun c u hc hc44 l hR hl e => ?_⟩
  · obtain ⟨t, q1, q2, q3⟩ := key l hR hl e
    rw [hend, List.drop_eq_nil_iff.2 (by simp)] at q1
    cases t with
    | nil => exact q2 rfl
    | cons r t => rw [postT_cons] at q1; cases q1
  · obtain ⟨t, q1, q2, q3⟩ := key l hR hl e
    cases t with
    | nil => rw [hc, postT_nil] at q1; cases q1
    | cons r t =>
      obtain ⟨j, hj, ha, ht⟩ := q3 (by simp)
      refine ⟨j, hj, ha, ?_⟩
      rw [← List.drop_drop, q1, postT_cons, ← ht]
      rfl
  · obtain ⟨t, q1, q2, q3⟩ := key l hR hl e
    cases t with
    | nil => rw [hc, postT_nil] at q1; cases q1
    | cons r t =>
      rw [hc, postT_cons] at q1
      injection q1 with q1
      exact hc44 q1
end Go.Proofs.YtnfdppkbbfdmnaaGreatDoor.PD

namespace Go.Proofs.YtnfdppkbbfdmnaaGreatDoor.PD
open Go.RowKit Go.Proofs.YtnfdppkbbfdmnaaGreatDoorW.PrintWords Go.Proofs.YtnfdppkbbfdmnaaGreatDoorW.PrintLast Go.Proofs.YtnfdppkbbfdmnaaGreatDoorW.PrintMore
set_option linter.unusedVariables false
set_option linter.unusedSimpArgs false
/-! ### Parse of the reference -/
end Go.Proofs.YtnfdppkbbfdmnaaGreatDoor.PD

namespace Go.Proofs.YtnfdppkbbfdmnaaGreatDoor.PD
open Go.RowKit Go.Proofs.YtnfdppkbbfdmnaaGreatDoorW.PrintWords Go.Proofs.YtnfdppkbbfdmnaaGreatDoorW.PrintLast Go.Proofs.YtnfdppkbbfdmnaaGreatDoorW.PrintMore
set_option linter.unusedVariables false
set_option linter.unusedSimpArgs false
/-! ### known -/
theorem ints_reps (w : World) (xs : List Int) : Reps ((Kd.int .i64).K w) 1 xs (ints64 xs) := by
  obtain ⟨r, rfl⟩ : ∃ r, xs = r.reverse := ⟨xs.reverse, by simp⟩
  induction r with
  | nil => exact Reps.none _ _
  | cons s r ih =>
    rw [List.reverse_cons, ints64_snoc]
    exact ih.snoc rfl rfl
theorem RowI.lst {w : World} {base : Nat} {v : Value} {l : List Int} (h : RowI w base v l) : LstI w v l := by
  obtain ⟨A, c, e, hC⟩ := own_reads_row h (ints_reps w l) rfl
  refine ⟨A, c, e, hC, ?_⟩
  subst e
  exact row_cap h
theorem four_ints (w : World) (a b c d : Int) : LstI (w.alloc (.cells #[.int .i64 a, .int .i64 b, .int .i64 c, .int .i64 d] 2)) (.slice (some ⟨w.heap.size, 0, none⟩) 4 4) [a, b, c, d] :=
  RowI.lst (base := w.heap.size) ⟨rfl, .inr ⟨w.heap.size, 4, _, rfl, Nat.le_refl _, World.alloc_heap_new _ _, Nat.le_refl _, by decide, rfl, rfl⟩⟩
theorem two_lst (w : World) (x y x' y' : Int) : Lst (w.alloc (.cells #[.int .i64 x, .int .i64 y, .int .i64 x', .int .i64 y'] 57)) (.slice (some ⟨w.heap.size, 0, none⟩) 2 2) [⟨x, y⟩, ⟨x', y'⟩] :=
  Row.lst (base := w.heap.size) ⟨rfl, .inr ⟨w.heap.size, 2, _, rfl, Nat.le_refl _, World.alloc_heap_new _ _, Nat.le_refl _, by decide, rfl, rfl⟩⟩
theorem kn9 : parseS ⟨#[49, 44, 50]⟩ = ([], 20) := by rfl
theorem kn10 : fitL [⟨1, 2⟩, ⟨6, 9⟩] = ([⟨1, 2⟩, ⟨6, 9⟩], 0) := by rfl
theorem kn11 : takenL [⟨1, 2⟩, ⟨5, 5⟩] = ([⟨1, 2⟩, ⟨5, 5⟩] : List S57) := by rfl
theorem kn12 : takenL [⟨1, 2⟩, ⟨6, 9⟩] = ([⟨1, 2⟩, ⟨6, 9⟩] : List S57) := by rfl
theorem known_of (w : World) : Calls Tryz.prog 10 #[.slice (some ⟨w.heap.size, 0, none⟩) 4 4] (w.alloc (.cells #[.int .i64 5, .int .i64 1, .int .i64 2, .int .i64 2] 2)) fun e w' => ∃ v', e = .returned (.tuple #[v', .int .i64 0]) ∧ Lst w' v' [⟨1, 2⟩, ⟨5, 5⟩] ∧ Below w.heap.size w w' := by
  have h := Of_calls [5, 1, 2, 2] _ (four_ints w 5 1 2 2) (by decide)
  rw [kn1] at h
  refine h.mono ?_
  rintro e w' ⟨v', rfl, hr, hb⟩
  exact ⟨v', rfl, hr.lst, below_step ((Below.refl _ _).alloc (Nat.le_refl _) _) hb⟩
theorem known_span (w : World) : Calls Tryz.prog 14 #[.int .i64 1, .int .i64 9] w fun e w' => ∃ v', e = .returned (.tuple #[v', .int .i64 0]) ∧ Lst w' v' [⟨1, 9⟩] ∧ Below w.heap.size w w' := by
  have h := Span_calls 1 9 w
  rw [kn2] at h
  refine h.mono ?_
  rintro e w' ⟨v', rfl, hr, hb⟩
  exact ⟨v', rfl, hr.lst, hb⟩
theorem known_less {v : Value} (w : World) (hv : Lst w v [⟨1, 9⟩]) : Calls Tryz.prog 44 #[v, .slice (some ⟨w.heap.size, 0, none⟩) 1 1] (w.alloc (.cells #[.int .i64 3, .int .i64 5] 57)) fun e w' => ∃ v', e = .returned (.tuple #[v', .int .i64 0]) ∧ Lst w' v' [⟨1, 2⟩, ⟨6, 9⟩] ∧ Below w.heap.size w w' := by
  have hb0 : Below w.heap.size w (w.alloc (.cells #[.int .i64 3, .int .i64 5] 57)) := (Below.refl _ _).alloc (Nat.le_refl _) _
  have h := less_calls _ _ _ (hv.below hb0) (one_lst w 3 5)
  rw [kn4, kn5, kn10] at h
  refine h.mono ?_
  rintro e w' ⟨v', e', rfl, ⟨hr, rfl⟩, hb⟩
  exact ⟨v', rfl, hr.lst, below_step hb0 hb⟩
theorem known_next (w : World) : Calls Tryz.prog 31 #[.slice (some ⟨w.heap.size, 0, none⟩) 2 2, .int .i64 3] (w.alloc (.cells #[.int .i64 1, .int .i64 2, .int .i64 7, .int .i64 9] 57)) fun e w' => e = .returned (.tuple #[.int .i64 7, .bool true]) ∧ Below w.heap.size w w' := by
  have h := next_calls _ 3 _ (two_lst w 1 2 7 9)
  rw [kn6] at h
  refine h.mono ?_
  rintro e w' ⟨rfl, hb⟩
  exact ⟨rfl, below_step ((Below.refl _ _).alloc (Nat.le_refl _) _) hb⟩
theorem known_parse (w : World) (hd : DomLaid w) : Calls Tryz.prog 24 #[.string ⟨#[49, 44, 50]⟩] w fun e w' => ∃ v', e = .returned (.tuple #[v', .int .i64 20]) ∧ Below w.heap.size w w' := by
  have h := Parse_calls ⟨#[49, 44, 50]⟩ (by decide) w hd
  rw [kn9] at h
  refine h.mono ?_
  rintro e w' ⟨v', rfl, _, hb⟩
  exact ⟨v', rfl, hb⟩
theorem known_text1 {v : Value} (w : World) (hd : DomLaid w) (h : Lst w v [⟨1, 2⟩, ⟨5, 5⟩]) : Calls Tryz.prog 23 #[v] w fun e w' => e = .returned (.string ⟨#[49, 46, 46, 50, 44, 53]⟩) ∧ Below w.heap.size w w' := by
  have h := Text_calls _ w h hd
  rw [kn11, kn7] at h
  exact h
theorem known_text2 {v : Value} (w : World) (hd : DomLaid w) (h : Lst w v [⟨1, 2⟩, ⟨6, 9⟩]) : Calls Tryz.prog 23 #[v] w fun e w' => e = .returned (.string ⟨#[49, 46, 46, 50, 44, 54, 46, 46, 57]⟩) ∧ Below w.heap.size w w' := by
  have h := Text_calls _ w h hd
  rw [kn12, kn8] at h
  exact h
set_option maxRecDepth 100000 in
set_option maxHeartbeats 8000000 in
theorem known_calls (w : World) (hd : DomLaid w) : Calls Tryz.prog 22 #[] w fun e w' => e = .returned (.bool true) ∧ Below w.heap.size w w' := by
  have HD := Lib.hid hd
  clear hd
  go_enter Tryz.func22, Tryz.ntmps22
  go_wp2_with fail
  refine (known_of w).mono ?_
  rintro e w1 ⟨v1, rfl, hL1, hb1⟩
  have HL1 := Lib.hid hL1; have HB1 := Lib.hid hb1
  clear hL1 hb1
  go_wp2_with fail
  refine (known_span w1).mono ?_
  rintro e w2 ⟨v2, rfl, hL2, hb2⟩
  have HK := Lib.hid (known_less w2 hL2); have HL1 := Lib.hid (HL1.out.below hb2); have HB2 := Lib.hid (below_step HB1.out hb2)
  clear hL2 hb2
  go_wp2_with fail
  refine HK.out.mono ?_
  rintro e w3 ⟨v3, rfl, hL3, hb3⟩
  have HL3 := Lib.hid hL3; have HL1 := Lib.hid (HL1.out.below hb3); have HB3 := Lib.hid (below_step HB2.out hb3)
  clear hL3 hb3 HK
  go_wp2_with fail
  refine (known_next w3).mono ?_
  rintro e w4 ⟨rfl, hb4⟩
  have HL3 := Lib.hid (HL3.out.below hb4); have HL1 := Lib.hid (HL1.out.below hb4); have HB4 := Lib.hid (below_step HB3.out hb4)
  clear hb4
  go_wp2_with fail
  refine (known_parse w4 (HD.out.below HB4.out)).mono ?_
  rintro e w5 ⟨v5, rfl, hb5⟩
  have HL3 := Lib.hid (HL3.out.below hb5); have HL1 := Lib.hid (HL1.out.below hb5); have HB5 := Lib.hid (below_step HB4.out hb5)
  clear hb5
  go_wp2_with fail
  refine (known_text1 _ (HD.out.below HB5.out) HL1.out).mono ?_
  rintro e w6 ⟨rfl, hb6⟩
  have HL3 := Lib.hid (HL3.out.below hb6); have HB6 := Lib.hid (below_step HB5.out hb6)
  clear hb6
  go_wp2_with fail
  refine (known_text2 _ (HD.out.below HB6.out) HL3.out).mono ?_
  rintro e w7 ⟨rfl, hb7⟩
  have HB7 := Lib.hid (below_step HB6.out hb7)
  clear hb7
  go_wp2_with fail
  go_ret
  exact ⟨rfl, HB7.out⟩

end Go.Proofs.YtnfdppkbbfdmnaaGreatDoor.PD

namespace Go.Proofs.YtnfdppkbbfdmnaaGreatDoor.PD
open Go.RowKit Go.Proofs.YtnfdppkbbfdmnaaGreatDoorW.PrintWords Go.Proofs.YtnfdppkbbfdmnaaGreatDoorW.PrintLast Go.Proofs.YtnfdppkbbfdmnaaGreatDoorW.PrintMore
set_option linter.unusedVariables false
set_option linter.unusedSimpArgs false
/-! ### DomMakes -/
end Go.Proofs.YtnfdppkbbfdmnaaGreatDoor.PD

namespace Go.Proofs.YtnfdppkbbfdmnaaGreatDoor.PD
open Go.RowKit Go.Proofs.YtnfdppkbbfdmnaaGreatDoorW.PrintWords Go.Proofs.YtnfdppkbbfdmnaaGreatDoorW.PrintLast Go.Proofs.YtnfdppkbbfdmnaaGreatDoorW.PrintMore
set_option linter.unusedVariables false
set_option linter.unusedSimpArgs false
/-! ### from each value to the next one -/
end Go.Proofs.YtnfdppkbbfdmnaaGreatDoor.PD

namespace Go.Proofs.YtnfdppkbbfdmnaaGreatDoor.PD
open Go.RowKit Go.Proofs.YtnfdppkbbfdmnaaGreatDoorW.PrintWords Go.Proofs.YtnfdppkbbfdmnaaGreatDoorW.PrintLast Go.Proofs.YtnfdppkbbfdmnaaGreatDoorW.PrintMore
set_option linter.unusedVariables false
set_option linter.unusedSimpArgs false
/-! ### Each of whatever ranges; what stands between two rounds of DomAsks -/
attribute [local go_sem] Oper.semAt_some
open Go.Shelf in
set_option maxRecDepth 100000 in
set_option maxHeartbeats 4000000 in
theorem dom_each_nil (n : Nat) (hn : 1 ≤ n) (B gp : Nat) (w : World) (hc : Boxed w B 23 (.slice none 0 0)) :
    SeqStopsK Fence.wide n Tryz.prog 73 #[.pointer (some ⟨B, 0, none⟩)] (fun x : Elt [] => #[.int .i64 x.1]) (keepsCells gp)
      (fun xs => xs.map (·.1) = spanAll []) (fun pre => pre.map (·.1) <+: spanAll []) (spanAll []).length w := fun lo J Jx W hW hJ hJx hY h0 => by
  refine callsIn_of_wp Tryz.func73 rfl trivial ?_ rfl
  simp only [Tryz.ntmps73, List.size_toArray, List.length_cons, List.length_nil, Nat.reduceAdd, Nat.reduceSub, Array.replicate_succ, Array.replicate_zero, List.push_toArray, List.append_toArray, List.nil_append, List.cons_append]
  have hbW := boxed_below hc hW
  have hcW := hbW.cell
  have HJ := Lib.hid hJ; have HY := Lib.hid hY
  clear hc hW hbW hJ hJx hY
  gi_wp2
  gi_loopw [8] (fun i wr => i = .int .i64 0 ∧ J [] wr) (fun i _ => 0)
  case atStart => exact ⟨rfl, h0⟩
  case round =>
    obtain ⟨rfl, hJp⟩ := hrel
    gi_wp2
    go_end0
    exact ⟨⟨_, rfl⟩, .inl ⟨[], rfl, hJp⟩⟩
open Go.Shelf in
theorem each_any (n : Nat) (hn : 1 ≤ n) (B gp base : Nat) (v : Value) (l : List S57) (w : World) (hc : Boxed w B 23 v) (hrow : Row w base v l) (hgp : gp < w.heap.size ∧ B ≠ gp ∧ gp < base) (hR : rightS l = true) :
    SeqStopsK Fence.wide n Tryz.prog 73 #[.pointer (some ⟨B, 0, none⟩)] (fun x : Elt l => #[.int .i64 x.1]) (keepsCells gp)
      (fun xs => xs.map (·.1) = spanAll l) (fun pre => pre.map (·.1) <+: spanAll l) (spanAll l).length w := by
  have hl := hrow.lst
  rcases hrow with ⟨_, ⟨hv, hn0⟩ | ⟨g, cap, cur, hv, hb, hh, h1, h2, h3, h4⟩⟩
  · have : l = [] := List.length_eq_zero_iff.1 hn0
    subst this
    subst hv
    exact dom_each_nil n hn B gp w hc
  · subst hv
    obtain ⟨A, c, e, hC, _⟩ := hl
    injection e with e1 e2 e3
    subst e1
    exact dom_each_stops n hn B g gp cap l w hc hC ⟨blk_lt hh, _, hh, rfl⟩ ⟨hgp.1, hgp.2.1, by omega⟩ hR
theorem keepsC_trans {gp : Nat} {A B C : World} (h : keepsCells gp A B) (k : keepsCells gp B C) : keepsCells gp A C :=
  ⟨Nat.le_trans h.1 k.1, fun b o hb ho hc => k.2 b o hb (h.2 b o hb ho hc) hc⟩
theorem keepsC_put {gp : Nat} (W : World) (l : Nat) (o o' : Obj) (ho : W.heap[l]? = some o) (hoc : o.isCells = false) : keepsCells gp W (W.putObj l o') :=
  ⟨by simp, fun b o1 h1 h3 h4 => (World.putObj_heap_other (fun e => by subst e; rw [h3] at ho; injection ho with ho; subst ho; rw [h4] at hoc; cases hoc)).trans h3⟩
theorem func_eqIn_nil (d : Nat) (fn : Fn) (a b : Array Value) (W : World) : (Op.equalIn (d + 1) 48 (.func fn a b) .nilFunc).run Tryz.prog W = .ok false W := by
  have h := Tryz.underlying48
  simp [Op.equalIn, run_underlying h]
theorem func_eql_nil (fn : Fn) (a b : Array Value) (W : World) : (binOp .eql 48 (.func fn a b) .nilFunc).run Tryz.prog W = .ok (.bool false) W := by
  have h : (Op.equal 48 (.func fn a b) .nilFunc).run Tryz.prog W = .ok false W := func_eqIn_nil 9999 fn a b W
  simp only [binOp]
  simp [h]
theorem LentR.lower {w : World} {base base' : Nat} {v : Value} {l : List S57} (h : LentR w base v l) (hb : base' ≤ base) : LentR w base' v l := by
  obtain ⟨A, c, e, hr⟩ := h
  exact ⟨A, c, e, hr.lower hb⟩
/-- the law's variables, between two rounds -/
def AskI (w : World) (ib bw bR : Nat) (v : Value) (V : List Int) (vo : Value) (l : List S57) (k : Nat) (W : World) : Prop :=
  Boxed W ib 3 (.int .i64 (k : Nat)) ∧ Boxed W bw 22 v ∧ Boxed W bR 4 (.bool false) ∧ RowI W w.heap.size v V ∧ LentR W w.heap.size vo l ∧ Below w.heap.size w W
theorem own_keep57 {W W' : World} {base n : Nat} {v : Value} {xs : List Value} (h : W.ownsRow base 57 2 v n xs) (hk : ∀ b o, v.ownBlock = some b → W.heap[b]? = some o → o.isCells = true → W'.heap[b]? = some o) : W'.ownsRow base 57 2 v n xs := by
  refine ⟨h.1, ?_⟩
  rcases h.2 with h | ⟨g, cap, cur, rfl, h1, h2, h3⟩
  · exact .inl h
  · exact .inr ⟨g, cap, cur, rfl, h1, hk g _ rfl h2 rfl, h3⟩
theorem own_keepI {W W' : World} {base n : Nat} {v : Value} {xs : List Value} (h : W.ownsRow base 2 1 v n xs) (hk : ∀ b o, v.ownBlock = some b → W.heap[b]? = some o → o.isCells = true → W'.heap[b]? = some o) : W'.ownsRow base 2 1 v n xs := by
  refine ⟨h.1, ?_⟩
  rcases h.2 with h | ⟨g, cap, cur, rfl, h1, h2, h3⟩
  · exact .inl h
  · exact .inr ⟨g, cap, cur, rfl, h1, hk g _ rfl h2 rfl, h3⟩
theorem AskI.own {α : Type} {w : World} {ib bw bR B : Nat} {v vo : Value} {V : List Int} {l : List S57} (f : List α → Nat) (hB : w.heap.size ≤ B) : OwnFrom B (fun (pre : List α) W => AskI w ib bw bR v V vo l (f pre) W) := by
  intro pre X Y row hs hg hr
  obtain ⟨h1, h2, h3, h5, ⟨A, c, e, h6⟩, h7⟩ := hs
  have hr' : ∀ r, row = some r → ∃ o : Obj, X.heap[r]? = some o ∧ o.isCells = false := fun r e => (hr r e).2
  have hkp : ∀ (b : Nat) (o : Obj), X.heap[b]? = some o → o.isCells = true → Y.heap[b]? = some o := fun b o ho hc => (hg.block b (Array.getElem?_eq_some_iff.1 ho).1 (fun e => by
    obtain ⟨o', ho', hc'⟩ := hr' b e.symm
    rw [ho] at ho'
    injection ho' with ho'
    subst ho'
    rw [hc] at hc'
    cases hc')).trans ho
  exact ⟨boxed_own ib 3 (fun (_ : Unit) => _) () X Y row h1 hg hr', boxed_own bw 22 (fun (_ : Unit) => _) () X Y row h2 hg hr', boxed_own bR 4 (fun (_ : Unit) => _) () X Y row h3 hg hr', own_keepI h5 (fun b o _ ho hc => hkp b o ho hc), ⟨A, c, e, own_keep57 h6 (fun b o _ ho hc => hkp b o ho hc)⟩, ownFrom_below (β := Unit) (Nat.le_refl w.heap.size) hB () X Y row h7 hg hr⟩
theorem AskI.next {w W : World} {ib bw bR : Nat} {v vo : Value} {V : List Int} {l : List S57} {k : Nat} (h : AskI w ib bw bR v V vo l k W) (h1 : bw ≠ ib) (h2 : bR ≠ ib) (h4 : w.heap.size ≤ ib) :
    AskI w ib bw bR v V vo l (k + 1) (W.setCell ⟨ib, 0, none⟩ (.int .i64 ((k : Int) + 1))) := by
  obtain ⟨q1, q2, q3, q5, ⟨A, c, e, q6⟩, q7⟩ := h
  refine ⟨?_, q2.other h1 _, q3.other h2 _, q5.own.kept (grownBy_setCell' _ ib _) (.inr (q1.not_row (by decide) q5.own).symm), ⟨A, c, e, q6.own.kept (grownBy_setCell' _ ib _) (.inr (q1.not_row (by decide) q6.own).symm)⟩, q7.setCell (p := ⟨ib, 0, none⟩) h4 _⟩
  rw [show (((k + 1 : Nat)) : Int) = (k : Int) + 1 by omega]
  exact q1.set _
theorem AskI.below {w W W' : World} {ib bw bR : Nat} {v vo : Value} {V : List Int} {l : List S57} {k : Nat} (h : AskI w ib bw bR v V vo l k W) (hb : Below W.heap.size W W') : AskI w ib bw bR v V vo l k W' :=
  ⟨boxed_below h.1 hb, boxed_below h.2.1 hb, boxed_below h.2.2.1 hb, h.2.2.2.1.below hb, h.2.2.2.2.1.below hb, below_step h.2.2.2.2.2 hb⟩
/-- the law's result, not yet told -/
def ResB (w : World) (b : Nat) : Prop := Boxed w b 4 (.bool false)
theorem ResB.below {w w' : World} {b : Nat} (h : ResB w b) (hb : Below w.heap.size w w') : ResB w' b := boxed_below h hb
/-- how the range may be left -/
def AskX (t : List S57) (w : World) (ib bw bR : Nat) (v : Value) (V : List Int) (vo : Value) (l : List S57) (c : Code) (pre : List (Elt t)) (W : World) : Prop :=
  (c = .exit 0 ∧ 500 < pre.length ∧ AskI w ib bw bR v V vo l 500 W) ∨ ¬ (pre.map (·.1) <+: spanAll t)
theorem AskX.own {t : List S57} {w : World} {ib bw bR B : Nat} {v vo : Value} {V : List Int} {l : List S57} (c : Code) (hB : w.heap.size ≤ B) : OwnFrom B (AskX t w ib bw bR v V vo l c) := by
  intro pre X Y row hs hg hr
  rcases hs with ⟨h1, h2, h3⟩ | h
  · exact .inl ⟨h1, h2, AskI.own (fun (_ : List Unit) => 500) hB [] X Y row h3 hg hr⟩
  · exact .inr h
theorem spanAll_vals (t : List S57) : spanAll t = valsL t := rfl
/-- what is told, held against what is wanted -/
theorem ask_hit {t : List S57} {V : List Int} {k : Nat} (hV : V = (valsL t).take 500) (hk : k < 500) (h : k < (spanAll t).length) : k < V.length ∧ ∀ (h' : k < V.length), V[k] = (spanAll t)[k] := by
  have hl : V.length = min 500 (spanAll t).length := by rw [hV, List.length_take]; rfl
  refine ⟨by omega, fun h' => ?_⟩
  have : V[k]? = (spanAll t)[k]? := by
    rw [hV, List.getElem?_take, if_pos hk]
    rfl
  rw [List.getElem?_eq_getElem h', List.getElem?_eq_getElem h] at this
  exact Option.some.inj this
theorem prefix_at {L pre : List Int} {x : Int} (h : pre.length < L.length) (hp : pre ++ [x] <+: L) : L[pre.length] = x := by
  obtain ⟨r, hr⟩ := hp
  have : L[pre.length]? = some x := by
    rw [← hr, List.append_assoc, List.getElem?_append_right (Nat.le_refl _), Nat.sub_self]
    rfl
  rw [List.getElem?_eq_getElem h] at this
  exact Option.some.inj this
theorem ask_miss {t : List S57} {pre : List (Elt t)} {x : Elt t} (h : pre.length < (spanAll t).length) (hne : (spanAll t)[pre.length] ≠ x.1) : ¬ ((pre ++ [x]).map (·.1) <+: spanAll t) := by
  intro hp
  apply hne
  rw [List.map_append] at hp
  have := prefix_at (L := spanAll t) (pre := pre.map (·.1)) (x := x.1) (by rw [List.length_map]; exact h) hp
  rw [← this]
  congr 1
  rw [List.length_map]

end Go.Proofs.YtnfdppkbbfdmnaaGreatDoor.PD

namespace Go.Proofs.YtnfdppkbbfdmnaaGreatDoor.PD
open Go.RowKit Go.Proofs.YtnfdppkbbfdmnaaGreatDoorW.PrintWords Go.Proofs.YtnfdppkbbfdmnaaGreatDoorW.PrintLast Go.Proofs.YtnfdppkbbfdmnaaGreatDoorW.PrintMore
set_option linter.unusedVariables false
set_option linter.unusedSimpArgs false
/-! ### DomSteps -/
end Go.Proofs.YtnfdppkbbfdmnaaGreatDoor.PD

namespace Go.Proofs.YtnfdppkbbfdmnaaGreatDoor.PD
open Go.RowKit Go.Proofs.YtnfdppkbbfdmnaaGreatDoorW.PrintWords Go.Proofs.YtnfdppkbbfdmnaaGreatDoorW.PrintLast Go.Proofs.YtnfdppkbbfdmnaaGreatDoorW.PrintMore
set_option linter.unusedVariables false
set_option linter.unusedSimpArgs false
/-! ### DomAsks -/
attribute [local go_sem] Oper.semAt_some
open Go.Shelf in
set_option maxRecDepth 100000 in
set_option maxHeartbeats 16000000 in
theorem asks_calls {v : Value} (l : List S57) (x : Int) (w : World) (hd : DomLaid w) (h1 : Lst w v l) (hl : l.length ≤ 8796093021952) :
    Calls Tryz.prog 5 #[v, .int .i64 x] w fun e w' => e = .returned (.bool true) ∧ Below w.heap.size w w' := by
  have hb0 : Below w.heap.size w (w.alloc (.cells #[.bool false] 4)) := (Below.refl _ _).alloc (Nat.le_refl _) _
  have HD0 := Lib.hid hd; have H10 := Lib.hid h1
  have HD := Lib.hid (hd.below hb0); have H1 := Lib.hid (h1.below hb0); have HB0 := Lib.hid hb0
  have HRB := Lib.hid (show ResB (w.alloc (.cells #[.bool false] 4)) w.heap.size from Boxed.new _ _ _)
  have KMI := Lib.hid (fun v W h => min_calls (v := v) l W h); have KMR := Lib.hid (fun v W h => Min_ref (v := v) l W h)
  have KMA := Lib.hid (fun v W h => max_calls (v := v) l W h); have KMX := Lib.hid (fun v W h => Max_ref (v := v) l W h)
  have KNE := Lib.hid (fun v W h => next_calls (v := v) l x W h); have KNR := Lib.hid (fun v W h => Next_ref (v := v) l x W h)
  have KHA := Lib.hid (fun v W h => has_calls (v := v) l x W h); have KHR := Lib.hid (fun v W h => Has_ref (v := v) l x W h)
  have KSI := Lib.hid (fun v W h => size_calls (v := v) l W h); have KSR := Lib.hid (fun v W h => Size_ref (v := v) l W h)
  have KV := Lib.hid (fun W h => Values_ref (v := v) l 500 (by omega) W h)
  have KEA := Lib.hid (fun v W h => Each_calls (v := v) l W h)
  have HR := takenL_right l
  have e1 := next_min HR
  have e2 := next_has (takenL l) _ x (right_norm HR)
  rw [e1] at KMI; rw [e2] at KHA
  generalize takenL l = t at *
  obtain ⟨⟨m1, m2⟩, e3⟩ : ∃ p, minL t = p := ⟨_, rfl⟩
  obtain ⟨⟨n1, n2⟩, e4⟩ : ∃ p, maxL t = p := ⟨_, rfl⟩
  obtain ⟨⟨p1, p2⟩, e5⟩ : ∃ p, nextL t x = p := ⟨_, rfl⟩
  obtain ⟨hx, e6⟩ : ∃ p, hasL t x = p := ⟨_, rfl⟩
  obtain ⟨sz, e7⟩ : ∃ p, sizeL t = p := ⟨_, rfl⟩
  obtain ⟨V, e8⟩ : ∃ p, (valsL t).take 500 = p := ⟨_, rfl⟩
  rw [e3] at KMI KMR; rw [e4] at KMA KMX; rw [e5] at KNE KNR; rw [e6] at KHA KHR; rw [e7] at KSI KSR; rw [e8] at KV
  dsimp only at KMI KMR KMA KMX KNE KNR
  have HVE := Lib.hid e8.symm; have HRT := Lib.hid HR
  clear hd h1 hb0 e1 e2 e3 e4 e5 e6 e7 e8 HR
  refine (callsIn_wide (n := 5)).1 ?_
  refine callsIn_of_wp_marks Tryz.func5 rfl trivial ?_ rfl
  simp only [Tryz.ntmps5, List.size_toArray, List.length_cons, List.length_nil, Nat.reduceAdd, Nat.reduceSub, Array.replicate_succ, Array.replicate_zero, List.push_toArray, List.append_toArray, List.nil_append, List.cons_append]
  refine wpIn_wide.2 ?_
  go_wp2_with fail
  refine (Lent_ref l _ H1.out hl).mono ?_
  rintro e w1 ⟨x1, rfl, hO, hb1⟩
  replace HD := Lib.hid (HD.out.below hb1)
  replace H1 := Lib.hid (H1.out.below hb1)
  replace HRB := Lib.hid (HRB.out.below hb1)
  have HB1 := Lib.hid (below_step HB0.out hb1)
  have HO := Lib.hid hO
  clear hb1 hO
  go_wp2_with fail
  refine (KMI.out _ _ HO.out.lst).mono ?_
  rintro e w2 ⟨rfl, hb2⟩
  replace HD := Lib.hid (HD.out.below hb2)
  replace H1 := Lib.hid (H1.out.below hb2)
  replace HRB := Lib.hid (HRB.out.below hb2)
  replace HO := Lib.hid (HO.out.below hb2)
  have HB2 := Lib.hid (below_step HB1.out hb2)
  clear hb2
  go_wp2_with fail
  refine (KMR.out _ _ H1.out).mono ?_
  rintro e w3 ⟨rfl, hb3⟩
  replace HD := Lib.hid (HD.out.below hb3)
  replace H1 := Lib.hid (H1.out.below hb3)
  replace HRB := Lib.hid (HRB.out.below hb3)
  replace HO := Lib.hid (HO.out.below hb3)
  have HB3 := Lib.hid (below_step HB2.out hb3)
  clear hb3
  go_wp2_with fail
  refine (KMA.out _ _ HO.out.lst).mono ?_
  rintro e w4 ⟨rfl, hb4⟩
  replace HD := Lib.hid (HD.out.below hb4)
  replace H1 := Lib.hid (H1.out.below hb4)
  replace HRB := Lib.hid (HRB.out.below hb4)
  replace HO := Lib.hid (HO.out.below hb4)
  have HB4 := Lib.hid (below_step HB3.out hb4)
  clear hb4
  go_wp2_with fail
  refine (KMX.out _ _ H1.out).mono ?_
  rintro e w5 ⟨rfl, hb5⟩
  replace HD := Lib.hid (HD.out.below hb5)
  replace H1 := Lib.hid (H1.out.below hb5)
  replace HRB := Lib.hid (HRB.out.below hb5)
  replace HO := Lib.hid (HO.out.below hb5)
  have HB5 := Lib.hid (below_step HB4.out hb5)
  clear hb5
  go_wp2_with fail
  refine (KNE.out _ _ HO.out.lst).mono ?_
  rintro e w6 ⟨rfl, hb6⟩
  replace HD := Lib.hid (HD.out.below hb6)
  replace H1 := Lib.hid (H1.out.below hb6)
  replace HRB := Lib.hid (HRB.out.below hb6)
  replace HO := Lib.hid (HO.out.below hb6)
  have HB6 := Lib.hid (below_step HB5.out hb6)
  clear hb6
  go_wp2_with fail
  refine (KNR.out _ _ H1.out).mono ?_
  rintro e w7 ⟨rfl, hb7⟩
  replace HD := Lib.hid (HD.out.below hb7)
  replace H1 := Lib.hid (H1.out.below hb7)
  replace HRB := Lib.hid (HRB.out.below hb7)
  replace HO := Lib.hid (HO.out.below hb7)
  have HB7 := Lib.hid (below_step HB6.out hb7)
  clear hb7
  go_wp2_with fail
  refine (KHA.out _ _ HO.out.lst).mono ?_
  rintro e w8 ⟨rfl, hb8⟩
  replace HD := Lib.hid (HD.out.below hb8)
  replace H1 := Lib.hid (H1.out.below hb8)
  replace HRB := Lib.hid (HRB.out.below hb8)
  replace HO := Lib.hid (HO.out.below hb8)
  have HB8 := Lib.hid (below_step HB7.out hb8)
  clear hb8
  go_wp2_with fail
  refine (KHR.out _ _ H1.out).mono ?_
  rintro e w9 ⟨rfl, hb9⟩
  replace HD := Lib.hid (HD.out.below hb9)
  replace H1 := Lib.hid (H1.out.below hb9)
  replace HRB := Lib.hid (HRB.out.below hb9)
  replace HO := Lib.hid (HO.out.below hb9)
  have HB9 := Lib.hid (below_step HB8.out hb9)
  clear hb9
  go_wp2_with fail
  refine (KSI.out _ _ HO.out.lst).mono ?_
  rintro e w10 ⟨rfl, hb10⟩
  replace HD := Lib.hid (HD.out.below hb10)
  replace H1 := Lib.hid (H1.out.below hb10)
  replace HRB := Lib.hid (HRB.out.below hb10)
  replace HO := Lib.hid (HO.out.below hb10)
  have HB10 := Lib.hid (below_step HB9.out hb10)
  clear hb10
  go_wp2_with fail
  refine (KSR.out _ _ H1.out).mono ?_
  rintro e w11 ⟨rfl, hb11⟩
  replace HD := Lib.hid (HD.out.below hb11)
  replace H1 := Lib.hid (H1.out.below hb11)
  replace HRB := Lib.hid (HRB.out.below hb11)
  replace HO := Lib.hid (HO.out.below hb11)
  have HB11 := Lib.hid (below_step HB10.out hb11)
  clear hb11
  go_wp2_with fail
  refine (KV.out _ H1.out).mono ?_
  rintro e w12 ⟨xv, rfl, hV, hb12⟩
  replace HD := Lib.hid (HD.out.below hb12)
  replace H1 := Lib.hid (H1.out.below hb12)
  replace HRB := Lib.hid (HRB.out.below hb12)
  replace HO := Lib.hid (HO.out.below hb12)
  have HB12 := Lib.hid (below_step HB11.out hb12)
  have hV2 := hV
  clear hb12 hV
  have hbr0 := (show Boxed _ _ _ _ from HRB.out).lt
  obtain ⟨A8, c8, hv8⟩ := row_form hV2.own
  subst hv8
  go_wp2_with fail
  have hb3 : Below w12.heap.size w12 ((w12.alloc (.cells #[.slice A8 V.length c8] 22)).alloc (.cells #[.int .i64 0] 3)) := ((Below.refl _ _).alloc (Nat.le_refl _) _).alloc (by simp) _
  have bW := (Boxed.new w12 22 (.slice A8 V.length c8)).alloc (.cells #[.int .i64 0] 3)
  have bN := Boxed.new (w12.alloc (.cells #[.slice A8 V.length c8] 22)) 3 (.int .i64 0)
  simp only [World.size_alloc] at bN
  have hszW : ((w12.alloc (.cells #[.slice A8 V.length c8] 22)).alloc (.cells #[.int .i64 0] 3)).heap.size = w12.heap.size + 2 := by simp
  obtain ⟨W3, hW3⟩ : ∃ W, (w12.alloc (.cells #[.slice A8 V.length c8] 22)).alloc (.cells #[.int .i64 0] 3) = W := ⟨_, rfl⟩
  rw [hW3] at hb3 bW bN hszW ⊢
  clear hW3
  have HV3 := Lib.hid ((hV2.below hb3).lower HB11.out.size)
  replace HO := Lib.hid (HO.out.below hb3); replace HRB := Lib.hid (HRB.out.below hb3)
  have HB3 := Lib.hid (below_step HB12.out hb3)
  clear hV2 hb3
  refine (KEA.out _ _ HO.out.lst).mono ?_
  rintro e W4 ⟨B, v4, rfl, hB1, hBx, hRow, hb4⟩
  have hsz4 := hb4.size
  have HIN := Lib.hid (show AskI w (w12.heap.size + 1) w12.heap.size w.heap.size (.slice A8 V.length c8) V x1 l 0 W4 from ⟨boxed_below bN hb4, boxed_below bW hb4, HRB.out.below hb4, HV3.out.below hb4, HO.out.below hb4 |>.lower (by simp), below_step HB3.out hb4⟩)
  have hst := each_any (5 - 1) (by decide) B (w12.heap.size + 1) W3.heap.size v4 t W4 hBx hRow ⟨by omega, by omega, by omega⟩ HRT.out
  have hw4 := HIN.out.2.2.2.2.2.size
  have hnf := fun (b : Array Value) (W : World) => func_eql_nil (.func 73) #[] b W
  clear bN bW hBx hRow hb4 HV3 HO HRB HD H1 HB3 KMI KMR KMA KMX KNE KNR KHA KHR KSI KSR KV KEA
  go_wp2_with fail
  refine (wpIn_wide (n := 5)).1 ?_
  refine wpIn_rangeFunc_ownF rfl (by decide) (gf := 73) (lb := #[.pointer (some ⟨B, 0, none⟩)]) rfl trivial (enters_of Tryz.func73 (by kernel_rfl) rfl)
    hst (fun h k => keepsC_trans h k) (fun W l o o' hl ho hoc _ => keepsC_put W l o o' ho hoc) (Below.refl _ _) (fun _ => rfl)
    (fun (pre : List (Elt t)) W => AskI w (w12.heap.size + 1) w12.heap.size w.heap.size (.slice A8 V.length c8) V x1 l pre.length W ∧ pre.length ≤ 500)
    (AskX t w (w12.heap.size + 1) w12.heap.size w.heap.size (.slice A8 V.length c8) V x1 l)
    (OwnFrom.and (AskI.own (fun pre => pre.length) hw4) (ownFrom_pure _ _)) (fun c => AskX.own c hw4) ⟨HIN.out, Nat.zero_le _⟩
    (fun y => { tmps := #[v, Value.int IntKind.i64 x, undef, undef, Value.pointer (some { block := w.heap.size, off := 0 }), x1, Value.int IntKind.i64 m1, Value.bool m2, Value.int IntKind.i64 m1, Value.bool m2, Value.int IntKind.i64 n1, Value.bool n2, Value.int IntKind.i64 n1, Value.bool n2, Value.int IntKind.i64 p1, Value.bool p2, Value.int IntKind.i64 p1, Value.bool p2, Value.pointer (some { block := w12.heap.size, off := 0 }), Value.pointer (some { block := w12.heap.size + 1, off := 0 }), Value.func (Fn.func 73) #[] #[Value.pointer (some { block := B, off := 0 })], Value.int IntKind.i64 y.1, v, x1, Value.tuple #[Value.int IntKind.i64 m1, Value.bool m2], x1, Value.tuple #[Value.int IntKind.i64 m1, Value.bool m2], Value.int IntKind.i64 m1, Value.bool m2, Value.tuple #[Value.int IntKind.i64 m1, Value.bool m2], v, Value.tuple #[Value.int IntKind.i64 m1, Value.bool m2], Value.int IntKind.i64 m1, Value.bool m2, Value.tuple #[Value.int IntKind.i64 n1, Value.bool n2], x1, Value.tuple #[Value.int IntKind.i64 n1, Value.bool n2], Value.int IntKind.i64 n1, Value.bool n2, Value.tuple #[Value.int IntKind.i64 n1, Value.bool n2], v, Value.tuple #[Value.int IntKind.i64 n1, Value.bool n2], Value.int IntKind.i64 n1, Value.bool n2, Value.tuple #[Value.int IntKind.i64 p1, Value.bool p2], x1, Value.int IntKind.i64 x, Value.tuple #[Value.int IntKind.i64 p1, Value.bool p2], Value.int IntKind.i64 p1, Value.bool p2, Value.tuple #[Value.int IntKind.i64 p1, Value.bool p2], v, Value.int IntKind.i64 x, Value.tuple #[Value.int IntKind.i64 p1, Value.bool p2], Value.int IntKind.i64 p1, Value.bool p2, Value.int IntKind.i64 m1, Value.int IntKind.i64 m1, Value.bool false, Value.bool false, Value.bool m2, Value.bool m2, Value.bool false, Value.bool false, Value.bool false, Value.int IntKind.i64 n1, Value.int IntKind.i64 n1, Value.bool false, Value.bool false, Value.bool false, Value.bool n2, Value.bool n2, Value.bool false, Value.bool false, Value.bool false, Value.int IntKind.i64 p1, Value.int IntKind.i64 p1, Value.bool false, Value.bool false, Value.bool false, Value.bool p2, Value.bool p2, Value.bool false, Value.bool false, Value.bool false, x1, Value.int IntKind.i64 x, Value.bool hx, v, Value.int IntKind.i64 x, Value.bool hx, Value.bool false, Value.bool false, Value.bool false, x1, Value.int IntKind.i64 sz, v, Value.int IntKind.i64 sz, Value.bool false, Value.bool false, v, Value.slice A8 V.length c8, x1, Value.func (Fn.func 73) #[] #[Value.pointer (some { block := B, off := 0 })], Value.func (Fn.func 73) #[] #[Value.pointer (some { block := B, off := 0 })], Value.bool false, Value.func (Fn.func 73) #[] #[Value.pointer (some { block := B, off := 0 })], Value.int IntKind.i64 y.1, undef, undef, undef, undef, undef, undef, undef, undef, undef, undef, undef, undef, undef, undef, undef, undef, undef, undef, undef, undef, undef, undef, undef, undef, undef, undef, undef, undef], defers := [] }) ?assign ?body ?done ?stop
  case assign =>
    intro l y W K hK
    gi_wp2
    exact hK
  case body =>
    rintro q pre y W ⟨hI, hp⟩ hlt
    have c1 := hI.1.cell; have f1 := hI.1.frozen; have c2 := hI.2.1.cell; have c3 := hI.2.2.1.cell; have f3 := hI.2.2.1.frozen
    have HI := Lib.hid hI
    obtain ⟨A', c', e', hC', hc'⟩ := hI.2.2.2.1.lst
    injection e' with e1 e2 e3
    subst e1 e3
    clear e2
    by_cases hq : pre.length < 500
    · obtain ⟨hk, hval⟩ := ask_hit HVE.out hq hlt
      obtain ⟨ad, hA, x0⟩ := Kd.at_int hC' (pre.length : Int) (by omega) (by omega)
      subst hA
      rw [rdI V _ hk, Int.toNat_natCast, hval hk] at x0
      have HMISS := Lib.hid (fun h => ask_miss (x := y) hlt h)
      have HNEXT := Lib.hid (hI.next (by omega) (by omega) (by omega))
      generalize (spanAll t)[pre.length] = z at *
      have hix := fun W => indexI_at ad V.length c8 (pre.length : Nat) (by omega) W
      simp only [Int.toNat_natCast] at hix
      have hg1 : decide ((pre.length : Int) ≥ 500) = false := decide_eq_false (by omega)
      have hg2 : decide ((500 : Int) ≤ (pre.length : Int)) = false := decide_eq_false (by omega)
      have hg3 : decide ((pre.length : Int) ≥ (V.length : Int)) = false := decide_eq_false (by omega)
      have hg4 : decide ((V.length : Int) ≤ (pre.length : Int)) = false := decide_eq_false (by omega)
      have hg5 : decide (V.length ≤ pre.length) = false := decide_eq_false (by omega)
      have hg6 : decide (500 ≤ pre.length) = false := decide_eq_false (by omega)
      have hwk : IntKind.i64.wrap ((pre.length : Int) + 1) = (pre.length : Int) + 1 := IntWalk.i64_in _ (by omega)
      have HPL := Lib.hid hq
      have HPP := Lib.hid (show (pre ++ [y]).length = pre.length + 1 by simp)
      clear hI hC' hc' hval hlt hk
      by_cases hz : z = y.1
      · subst hz
        have hn1 : (y.1 == y.1) = true := by simp
        have hn2 : (y.1 != y.1) = false := by simp
        gi_wp2
        refine ⟨KeepsOthers.setCell _ _ _, ⟨by simp, fun b o h1 h3 _ => (Below.heap_setCell _ _ _ b h1).trans h3⟩, ?_, ?_⟩
        · rw [HPP.out]
          exact HNEXT.out
        · have := HPL.out
          rw [HPP.out]
          omega
      · have hn1 : (z == y.1) = false := by rw [beq_eq_false_iff_ne]; exact hz
        have hn2 : (z != y.1) = true := by rw [bne_iff_ne]; exact hz
        have HX := Lib.hid (HMISS.out hz)
        clear hz
        gi_wp2
        exact ⟨KeepsOthers.setCell _ _ _, .inr HX.out⟩
    · have hp5 : pre.length = 500 := by omega
      have hg1 : decide ((pre.length : Int) ≥ 500) = true := decide_eq_true (by omega)
      have hg2 : decide ((500 : Int) ≤ (pre.length : Int)) = true := decide_eq_true (by omega)
      have hg6 : decide (500 ≤ pre.length) = true := decide_eq_true (by omega)
      have HP5 := Lib.hid hp5
      clear hI hC' hc' hp5 hlt
      gi_wp2
      refine ⟨KeepsOthers.refl _, .inl ⟨rfl, by rw [List.length_append, List.length_singleton, HP5.out]; decide, ?_⟩⟩
      have := HI.out
      rw [HP5.out] at this
      exact this
  case done =>
    rintro D xs W hD hS ⟨hI, hp⟩ hK
    have hVk : V.length = xs.length := by
      have h1 := congrArg List.length hS
      rw [List.length_map, spanAll_vals] at h1
      rw [HVE.out, List.length_take]
      omega
    replace HIN := Lib.hid hI
    clear hS hI hst
    have hle := HIN.out.2.2.2.2.2.size
    have hdl := (Array.getElem?_eq_some_iff.1 hK).1
    have HK := Lib.hid hK
    have hbr := HIN.out.2.2.1.lt
    have c1 := HIN.out.1.cell; have c2 := HIN.out.2.1.cell
    rw [hVk] at c2
    have HKE := Lib.hid (Kept_ref l W HIN.out.2.2.2.2.1 (H10.out.below HIN.out.2.2.2.2.2) hl)
    clear hK
    have he1 : ((xs.length : Int) == (xs.length : Int)) = true := by simp
    generalize xs.length = kk at *
    gi_wp2_with fail
    go_wp2_with fail
    refine HKE.out.mono ?_
    rintro e W5 ⟨rfl, hb5⟩
    have HI5 := Lib.hid (HIN.out.below hb5); have HK5 := Lib.hid ((hb5.block D hdl).trans HK.out)
    have HKN := Lib.hid (known_calls W5 (HD0.out.below HI5.out.2.2.2.2.2))
    have hd5 := (Array.getElem?_eq_some_iff.1 HK5.out).1
    clear hb5 hdl
    go_wp2_with fail
    refine HKN.out.mono ?_
    rintro e W6 ⟨rfl, hb6⟩
    have HI6 := Lib.hid (HI5.out.below hb6); have HK6 := Lib.hid ((hb6.block D hd5).trans HK5.out)
    clear hb6
    have c3 := HI6.out.2.2.1.cell; have f3 := HI6.out.2.2.1.frozen
    go_wp2_with fail
    have hDR : D ≠ w.heap.size := by omega
    have gK : (W6.setCell ⟨w.heap.size, 0, none⟩ (.bool true)).heap[D]? = some (.deferred (some [])) := (Below.heap_setCell _ _ _ D hDR).trans HK6.out
    have gR : Boxed ((W6.setCell ⟨w.heap.size, 0, none⟩ (.bool true)).putObj D (.deferred none)) w.heap.size 4 (.bool true) := (World.putObj_heap_other (by omega)).trans (HI6.out.2.2.1.set _)
    have gc := gR.cell
    refine ⟨by simp, .inl ⟨_, _, rfl, run_takeDeferred gK, ?_⟩⟩
    refine ⟨_, by simp [results, Tryz.results5, go_sem, gc], rfl, ?_⟩
    exact (HI6.out.2.2.2.2.2.setCell (p := ⟨w.heap.size, 0, none⟩) (Nat.le_refl _) _).trans (belowK_b (w := w) (Nat.le_refl _) _ D _ _ (by omega) gK rfl rfl)
  case stop =>
    rintro D c pre W hD hSp hX hK
    rcases hX with ⟨rfl, hlen, hI⟩ | hX
    · have hVk : V.length = 500 := by
        obtain ⟨r, hr⟩ := hSp
        have h1 := congrArg List.length hr
        rw [List.length_append, List.length_map, spanAll_vals] at h1
        rw [HVE.out, List.length_take]
        omega
      replace HIN := Lib.hid hI
      clear hSp hI hst hlen
      have hle := HIN.out.2.2.2.2.2.size
      have hdl := (Array.getElem?_eq_some_iff.1 hK).1
      have HK := Lib.hid hK
      have hbr := HIN.out.2.2.1.lt
      have c1 := HIN.out.1.cell; have c2 := HIN.out.2.1.cell
      rw [hVk] at c2
      have HKE := Lib.hid (Kept_ref l W HIN.out.2.2.2.2.1 (H10.out.below HIN.out.2.2.2.2.2) hl)
      clear hK
      gi_wp2_with fail
      go_wp2_with fail
      refine HKE.out.mono ?_
      rintro e W5 ⟨rfl, hb5⟩
      have HI5 := Lib.hid (HIN.out.below hb5); have HK5 := Lib.hid ((hb5.block D hdl).trans HK.out)
      have HKN := Lib.hid (known_calls W5 (HD0.out.below HI5.out.2.2.2.2.2))
      have hd5 := (Array.getElem?_eq_some_iff.1 HK5.out).1
      clear hb5 hdl
      go_wp2_with fail
      refine HKN.out.mono ?_
      rintro e W6 ⟨rfl, hb6⟩
      have HI6 := Lib.hid (HI5.out.below hb6); have HK6 := Lib.hid ((hb6.block D hd5).trans HK5.out)
      clear hb6
      have c3 := HI6.out.2.2.1.cell; have f3 := HI6.out.2.2.1.frozen
      go_wp2_with fail
      have hDR : D ≠ w.heap.size := by omega
      have gK : (W6.setCell ⟨w.heap.size, 0, none⟩ (.bool true)).heap[D]? = some (.deferred (some [])) := (Below.heap_setCell _ _ _ D hDR).trans HK6.out
      have gR : Boxed ((W6.setCell ⟨w.heap.size, 0, none⟩ (.bool true)).putObj D (.deferred none)) w.heap.size 4 (.bool true) := (World.putObj_heap_other (by omega)).trans (HI6.out.2.2.1.set _)
      have gc := gR.cell
      refine ⟨by simp, .inl ⟨_, _, rfl, run_takeDeferred gK, ?_⟩⟩
      refine ⟨_, by simp [results, Tryz.results5, go_sem, gc], rfl, ?_⟩
      exact (HI6.out.2.2.2.2.2.setCell (p := ⟨w.heap.size, 0, none⟩) (Nat.le_refl _) _).trans (belowK_b (w := w) (Nat.le_refl _) _ D _ _ (by omega) gK rfl rfl)
    · exact absurd hSp hX

end Go.Proofs.YtnfdppkbbfdmnaaGreatDoor.PD
