/- Parts of the laws of sets and branch: functions of the program, each with the proof of what it answers; the conditions are those of each theorem. -/
import Derived.Test.YtjeomiooheoegaaGreatDoorC8
import Derived.Test.YtjeomiooheoegaaGreatDoorVShelf
import Derived.Lib.SmallJoins
namespace Go.Proofs.YtjeomiooheoegaaGreatDoor.PD
open Go.RowKit Go.Proofs.YtjeomiooheoegaaGreatDoorW.PrintWords Go.Proofs.YtjeomiooheoegaaGreatDoorW.PrintLast Go.Proofs.YtjeomiooheoegaaGreatDoorW.PrintMore
set_option linter.unusedVariables false
set_option linter.unusedSimpArgs false
/-! ### texts of numbers, and of lists; what the library of strings answers -/
structure DomLaid (w : World) : Prop where
  syn : ∃ tp p, w.var? Tryz.prog "strconv.ErrSyntax" = some #[.iface tp p]
  rng : ∃ tp p, w.var? Tryz.prog "strconv.ErrRange" = some #[.iface tp p]
  tab : Lib.TabIs Tryz.prog w "internal/strconv.uint64pow10" .u64 Lib.pow10Tab
  mx : ∃ m, w.cell? ⟨3, 0, none⟩ = some (.int .i64 m)
theorem DomLaid.below {w w' : World} (h : DomLaid w) (hb : Below w.heap.size w w') : DomLaid w' := by
  obtain ⟨⟨tp, p, h1⟩, ⟨tq, q, h2⟩, h3, m, h4⟩ := h
  exact ⟨⟨tp, p, Go.Joins.var_stays rfl h1 hb (Nat.le_refl _)⟩, ⟨tq, q, Go.Joins.var_stays rfl h2 hb (Nat.le_refl _)⟩, Go.Joins.tab_stays rfl h3 hb (Nat.le_refl _), m, (hb.cell (World.block_lt_of_cell? w _ h4)).trans h4⟩
theorem grow_below (B : Nat) (w : World) (hB : B ≤ w.heap.size) (k : Nat) (os : Array Obj) : Below B w (Sort.grow (w.drewN k) os) :=
  ⟨rfl, rfl, rfl, by show w.heap.size ≤ (w.heap ++ os).size; rw [Array.size_append]; omega, fun j hj => Array.getElem?_append_left (by show j < w.heap.size; omega)⟩
def decB (n : Int) : ByteArray := ⟨(Lib.itoa n).toArray⟩
theorem format_calls (n : Int) (h0 : -1000000 ≤ n) (h1 : n ≤ 1000000) (w : World) (hl : DomLaid w) :
    Calls Tryz.prog 114 #[.int .i64 n, .int .i64 10] w fun e w' => e = .returned (.string (decB n)) ∧ Below w.heap.size w w' := by
  refine (Tryz.strconv_FormatInt_10 n (by omega) (by omega) w hl.tab).mono ?_
  rintro e w' ⟨rfl, k, os, rfl⟩
  exact ⟨rfl, grow_below _ _ (Nat.le_refl _) _ _⟩
/-- a range as text, a list of ranges as text -/
def rngT (r : S119) : ByteArray := if r.f0 < r.f1 then decB r.f0 ++ (⟨#[46, 46]⟩ ++ decB r.f1) else decB r.f0
def restT : List S119 → ByteArray
  | [] => ⟨#[]⟩
  | r :: t => ⟨#[44]⟩ ++ rngT r ++ restT t
def textT : List S119 → ByteArray
  | [] => ⟨#[123, 125]⟩
  | r :: t => rngT r ++ restT t
/-- behind so many ranges -/
def upT : List S119 → ByteArray
  | [] => ⟨#[]⟩
  | r :: t => rngT r ++ restT t
theorem ba_assoc (a b c : ByteArray) : a ++ b ++ c = a ++ (b ++ c) := ByteArray.append_assoc
theorem ba_nil (b : ByteArray) : (⟨#[]⟩ : ByteArray) ++ b = b := ByteArray.empty_append
theorem ba_nil' (b : ByteArray) : b ++ (⟨#[]⟩ : ByteArray) = b := ByteArray.append_empty
theorem restT_snoc : ∀ (l : List S119) (r : S119), restT (l ++ [r]) = restT l ++ (⟨#[44]⟩ ++ rngT r)
  | [], r => by
    show ⟨#[44]⟩ ++ rngT r ++ (⟨#[]⟩ : ByteArray) = (⟨#[]⟩ : ByteArray) ++ (⟨#[44]⟩ ++ rngT r)
    rw [ba_nil, ba_nil']
  | s :: l, r => by
    rw [List.cons_append, restT, restT, restT_snoc l r, ba_assoc, ba_assoc, ba_assoc]
theorem decD_len : ∀ (d m : Nat), m < 10 ^ (d + 1) → (Lib.decDigits m).length ≤ d + 1
  | 0, m, h => by
    rw [Lib.decDigits, dif_pos (by simpa using h)]
    simp
  | d + 1, m, h => by
    rw [Lib.decDigits]
    split
    · simp
    · have := decD_len d (m / 10) (by rw [Nat.div_lt_iff_lt_mul (by decide)]; rw [Nat.pow_succ] at h; exact h)
      rw [List.length_append]
      simp only [List.length_cons, List.length_nil]
      omega
theorem decB_size (n : Int) (h0 : -1000000 ≤ n) (h1 : n ≤ 1000000) : (decB n).size ≤ 8 := by
  have := decD_len 6 n.natAbs (by omega)
  have e : (decB n).size = (Lib.itoa n).length := by
    show (Lib.itoa n).toArray.size = _
    simp
  rw [e]
  unfold Lib.itoa
  split
  · rw [List.length_cons]; omega
  · rename_i h
    rw [show n.toNat = n.natAbs by omega]
    omega
theorem rngT_size (r : S119) (h0 : -1000000 ≤ r.f0) (h : r.f0 ≤ r.f1) (h1 : r.f1 ≤ 1000000) : (rngT r).size ≤ 18 := by
  have q0 := decB_size r.f0 h0 (by omega)
  have q1 := decB_size r.f1 (by omega) h1
  have q2 : (⟨#[46, 46]⟩ : ByteArray).size = 2 := rfl
  unfold rngT
  split
  · rw [ByteArray.size_append, ByteArray.size_append, q2]; omega
  · omega
theorem upT_size : ∀ (l : List S119), (∀ s ∈ l, -1000000 ≤ s.f0 ∧ s.f0 ≤ s.f1 ∧ s.f1 ≤ 1000000) → (upT l).size ≤ 19 * l.length
  | [], _ => by show (⟨#[]⟩ : ByteArray).size ≤ _; exact Nat.zero_le _
  | r :: t, h => by
    have hr := h r (by simp)
    have q := rngT_size r hr.1 hr.2.1 hr.2.2
    have hrest : ∀ (t : List S119), (∀ s ∈ t, -1000000 ≤ s.f0 ∧ s.f0 ≤ s.f1 ∧ s.f1 ≤ 1000000) → (restT t).size ≤ 19 * t.length := by
      intro t
      induction t with
      | nil => intro _; show (⟨#[]⟩ : ByteArray).size ≤ _; exact Nat.zero_le _
      | cons s t ih =>
        intro h
        have hs := h s (by simp)
        have q := rngT_size s hs.1 hs.2.1 hs.2.2
        have q3 := ih (fun x hx => h x (by simp [hx]))
        have q2 : (⟨#[44]⟩ : ByteArray).size = 1 := rfl
        rw [restT, ByteArray.size_append, ByteArray.size_append, q2, List.length_cons]
        omega
    have := hrest t (fun x hx => h x (by simp [hx]))
    rw [upT, ByteArray.size_append, List.length_cons]
    omega
theorem upT_one (r : S119) : upT [r] = rngT r := by
  show rngT r ++ (⟨#[]⟩ : ByteArray) = _
  rw [ba_nil']
theorem upT_snoc {l : List S119} (r : S119) (h : 0 < l.length) : upT (l ++ [r]) = upT l ++ ⟨#[44]⟩ ++ rngT r := by
  cases l with
  | nil => simp at h
  | cons s l => rw [List.cons_append, upT, upT, restT_snoc, ba_assoc, ba_assoc]
theorem Tryz.info9 : (Tryz.prog.info? 9).map (fun i => (i.zero, i.size, i.bytes)) = some (some (.string ⟨#[]⟩), 1, 16) := by kernel_rfl
def strs (l : List ByteArray) : List Value := l.map Value.string
theorem strs_snoc (l : List ByteArray) (x : ByteArray) : strs (l ++ [x]) = strs l ++ [.string x] := by simp [strs]
/-- a row of texts of the call's own -/
def RowS (w : World) (base : Nat) (v : Value) (l : List ByteArray) : Prop := w.ownsRow base 9 1 v l.length (strs l)
theorem RowS.nil (w : World) (base : Nat) : RowS w base (.slice none 0 0) [] := World.ownsRow_nil _ _ _ _
theorem RowS.below {w w' : World} {base : Nat} {v : Value} {l : List ByteArray} (h : RowS w base v l) (hb : Below w.heap.size w w') : RowS w' base v l := pw_own_below h hb
theorem RowS.own {w : World} {base : Nat} {v : Value} {l : List ByteArray} (h : RowS w base v l) : w.ownsRow base 9 1 v l.length (strs l) := h
def partsT (l : List S119) : List ByteArray := l.map rngT
theorem restT_list : ∀ (t : List S119), (restT t).data.toList = Lib.joinTail [44] ((partsT t).map (·.data.toList))
  | [] => rfl
  | r :: t => by
    have ih := restT_list t
    have e : Lib.joinTail [44] ((partsT (r :: t)).map (·.data.toList)) = 44 :: (rngT r).data.toList ++ Lib.joinTail [44] ((partsT t).map (·.data.toList)) := by
      simp [Lib.joinTail, partsT]
    rw [e, ← ih, restT, ByteArray.data_append, ByteArray.data_append, Array.toList_append, Array.toList_append]
    rfl
theorem join_text {t : List S119} (h : 0 < t.length) : (⟨(Lib.join ((partsT t).map (·.data.toList)) (⟨#[44]⟩ : ByteArray).data.toList).toArray⟩ : ByteArray) = textT t := by
  cases t with
  | nil => simp at h
  | cons r t =>
    have e : (partsT (r :: t)).map (·.data.toList) = (rngT r).data.toList :: (partsT t).map (·.data.toList) := rfl
    have e2 : (⟨#[44]⟩ : ByteArray).data.toList = [44] := rfl
    rw [e, e2, Lib.join_cons, ← restT_list t]
    have e3 : textT (r :: t) = rngT r ++ restT t := rfl
    have e4 : ((rngT r).data.toList ++ (restT t).data.toList).toArray = (rngT r ++ restT t).data := by rw [ByteArray.data_append]; simp
    rw [e3, e4]
theorem partsT_len (l : List S119) : (partsT l).length = l.length := by unfold partsT; rw [List.length_map]

end Go.Proofs.YtjeomiooheoegaaGreatDoor.PD
