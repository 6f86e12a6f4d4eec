/- Parts of the laws of sets and branch: functions of the program, each with the proof of what it answers; the conditions are those of each theorem. -/
import Derived.Test.YtjeomiooheoegaaGreatDoorC13
import Derived.Deep.Cut
import Derived.Deep.DeepCutAuto
import Derived.Test.YtjeomiooheoegaaGreatDoorC11
import Derived.Test.YtjeomiooheoegaaGreatDoorC1
namespace Go.Proofs.YtjeomiooheoegaaGreatDoor.PD
open Go.RowKit Go.Proofs.YtjeomiooheoegaaGreatDoorW.PrintWords Go.Proofs.YtjeomiooheoegaaGreatDoorW.PrintLast Go.Proofs.YtjeomiooheoegaaGreatDoorW.PrintMore
set_option linter.unusedVariables false
set_option linter.unusedSimpArgs false
/-! ### lists alike; SetsAlgebra -/
theorem same_l0 (l : List Int) (hl : l.length < 4611686018427387904) : ∀ (d i : Nat), l.length = i + d → jigsawref01_Same.l0 (d + 1) l l (i : Int) = some true
  | 0, i, hd => by rw [jigsawref01_Same.l0, if_neg (by omega)]
  | d + 1, i, hd => by
    rw [jigsawref01_Same.l0]
    rw [if_pos (by omega), if_pos (by omega), if_pos (by omega), if_pos rfl]
    rw [show wrap64 ((i : Int) + 1) = ((i + 1 : Nat) : Int) from IntWalk.wrap64_in _ (by omega)]
    exact same_l0 l hl d (i + 1) (by omega)
theorem same_f (l : List Int) (hl : l.length < 4611686018427387904) : jigsawref01_Same.f (l.length + 1) l l = some true := by
  unfold jigsawref01_Same.f
  rw [if_pos rfl]
  exact same_l0 l hl l.length 0 (by omega)
theorem SameI_ref {v1 v2 : Value} (l : List Int) (w : World) (h1 : LstI w v1 l) (h2 : LstI w v2 l) (hl : l.length ≤ 8000000000000) :
    Calls Tryz.prog 45 #[v1, v2] w fun e w' => e = .returned (.bool true) ∧ Below w.heap.size w w' := by
  obtain ⟨A, c, rfl, hC, hc⟩ := h1
  obtain ⟨A', c', rfl, hC', hc'⟩ := h2
  refine (jigsawref01_Same.calls _ A c l A' c' l true w hC hc hC' hc' (same_f l (by omega))).mono ?_
  rintro e w' ⟨rfl, hd⟩
  exact ⟨rfl, hd.below⟩
end Go.Proofs.YtjeomiooheoegaaGreatDoor.PD

namespace Go.Proofs.YtjeomiooheoegaaGreatDoor.PD
open Go.RowKit Go.Proofs.YtjeomiooheoegaaGreatDoorW.PrintWords Go.Proofs.YtjeomiooheoegaaGreatDoorW.PrintLast Go.Proofs.YtjeomiooheoegaaGreatDoorW.PrintMore
set_option linter.unusedVariables false
set_option linter.unusedSimpArgs false
/-! ### a text, looked through for a set's elements -/
def tailI (l : List Int) : List UInt8 := Lib.joinTail [44] (l.map Lib.itoa) ++ [125]
theorem tailI_nil : tailI [] = [125] := rfl
theorem tailI_cons (x : Int) (l : List Int) : tailI (x :: l) = 44 :: (Lib.itoa x ++ tailI l) := by
  unfold tailI
  simp [Lib.joinTail]
theorem restT_points (l : List Int) : (restT (points l)).data.toList = Lib.joinTail [44] (l.map Lib.itoa) := by
  rw [restT_list, parts_points, List.map_map]
  rfl
theorem setT_cons (x : Int) (l : List Int) : (setT (x :: l)).data.toList = 123 :: (Lib.itoa x ++ tailI l) := by
  rw [setT_list]
  have e : upT (points (x :: l)) = rngT ⟨x, x⟩ ++ restT (points l) := rfl
  rw [e, rng_point, ByteArray.data_append, Array.toList_append, decB_list, restT_points]
  unfold tailI
  simp
theorem itoa_byte (n : Int) : ∀ c ∈ Lib.itoa n, c ≠ 44 := by
  intro c hc e
  subst e
  rcases decB_ok n 44 hc with h | h
  · exact absurd h (by decide)
  · exact absurd h.1 (by decide)
theorem itoa_pos (n : Int) (h : -1000000 ≤ n ∧ n ≤ 1000000) : 0 < (Lib.itoa n).length := by
  have := parse_itoa n h.1 h.2
  rcases e : Lib.itoa n with _ | ⟨c, t⟩
  · rw [e] at this
    cases this
  · simp
/-- the number of a text -/
def restN (l : List UInt8) : List UInt8 := if l.head? = some 45 then l.tail else l
def numR (l : List UInt8) : Int × Bool := if (restN l).all digitB = true ∧ (restN l).length ≤ 9 then ((if l.head? = some 45 then -(decV (restN l) : Int) else (decV (restN l) : Int)), decide (0 < (restN l).length)) else (0, false)
theorem numR_itoa (n : Int) (h : -1000000 ≤ n ∧ n ≤ 1000000) : numR (Lib.itoa n) = (n, true) := by
  have hd := decD_all n.natAbs
  have hl := decD_len 6 n.natAbs (by omega)
  have hall : (Lib.decDigits n.natAbs).all digitB = true := List.all_eq_true.2 hd.1
  have hp : 0 < (Lib.decDigits n.natAbs).length := List.length_pos_iff.2 hd.2.1
  unfold Lib.itoa
  split
  · rename_i hn
    have e : restN (45 :: Lib.decDigits n.natAbs) = Lib.decDigits n.natAbs := by unfold restN; rfl
    unfold numR
    rw [e, if_pos ⟨hall, by omega⟩, if_pos (show (45 :: Lib.decDigits n.natAbs).head? = some 45 from rfl), hd.2.2, decide_eq_true hp]
    congr 1
    omega
  · rename_i hn
    rw [show n.toNat = n.natAbs by omega]
    have hh : ¬ (Lib.decDigits n.natAbs).head? = some 45 := by
      intro e
      rcases e2 : Lib.decDigits n.natAbs with _ | ⟨c, t⟩
      · rw [e2] at e; cases e
      · rw [e2] at e
        injection e with e
        have := hd.1 c (by rw [e2]; simp)
        rw [e] at this
        exact absurd this (by decide)
    have e : restN (Lib.decDigits n.natAbs) = Lib.decDigits n.natAbs := by unfold restN; rw [if_neg hh]
    unfold numR
    rw [e, if_pos ⟨hall, by omega⟩, if_neg hh, hd.2.2, decide_eq_true hp]
    congr 1
    omega
/-- what holds where the look stands at i, a number having begun at fr -/
def Scan (s : ByteArray) (i fr : Nat) (acc : List Int) : Prop := ∀ l0, setS l0 = true → setT l0 = s → ∃ j, acc = l0.take j ∧
  ((∃ h : j < l0.length, fr ≤ i ∧ i ≤ fr + (Lib.itoa l0[j]).length ∧ s.data.toList.drop fr = Lib.itoa l0[j] ++ tailI (l0.drop (j + 1))) ∨ (j = l0.length ∧ fr = s.size ∧ i = s.size))
theorem Scan.start {s : ByteArray} (h : 2 < s.size) : Scan s 1 1 [] := by
  intro l0 h1 h2
  cases l0 with
  | nil =>
    have : s.size = 2 := by rw [← h2]; rfl
    omega
  | cons x t =>
    refine ⟨0, rfl, .inl ⟨by simp, Nat.le_refl _, by omega, ?_⟩⟩
    rw [← h2, setT_cons]
    rfl
theorem Scan.size {s : ByteArray} {i fr j : Nat} {acc l0 : List Int} (h : j < l0.length) (e : s.data.toList.drop fr = Lib.itoa l0[j] ++ tailI (l0.drop (j + 1))) : s.size = fr + (Lib.itoa l0[j]).length + (tailI (l0.drop (j + 1))).length ∧ 0 < (tailI (l0.drop (j + 1))).length := by
  have hs : s.data.toList.length = s.size := by simp
  have hl := congrArg List.length e
  rw [List.length_drop, hs, List.length_append] at hl
  have hp : 0 < (tailI (l0.drop (j + 1))).length := by unfold tailI; rw [List.length_append]; simp
  omega
theorem drop_at (l : List UInt8) (fr i : Nat) (a b : List UInt8) (e : l.drop fr = a ++ b) (hi : fr ≤ i) : (i < fr + a.length → ∀ c, l[i]? = some c → c ∈ a) ∧ (i = fr + a.length → l[i]? = b.head?) := by
  have h : l[i]? = (a ++ b)[i - fr]? := by rw [← e, List.getElem?_drop]; congr 1; omega
  constructor
  · intro hlt c hc
    rw [h, List.getElem?_append_left (by omega)] at hc
    exact List.mem_of_getElem? hc
  · intro he
    rw [h, List.getElem?_append_right (by omega), show i - fr - a.length = 0 by omega]
    cases b <;> rfl
/-- it goes on -/
theorem Scan.pass {s : ByteArray} {i fr : Nat} {acc : List Int} {c : UInt8} (h : Scan s i fr acc) (hi : i + 1 < s.size) (hc : s.data.toList[i]? = some c) (h44 : c ≠ 44) : Scan s (i + 1) fr acc := by
  intro l0 h1 h2
  obtain ⟨j, ha, ⟨hj, h3, h4, h5⟩ | ⟨_, _, h5⟩⟩ := h l0 h1 h2
  · refine ⟨j, ha, .inl ⟨hj, by omega, ?_, h5⟩⟩
    obtain ⟨q1, q2⟩ := drop_at _ fr i _ _ h5 h3
    have hz := Scan.size (i := i) (acc := acc) hj h5
    refine Classical.byContradiction fun hn => ?_
    have e := q2 (by omega)
    rw [hc] at e
    rcases e2 : l0.drop (j + 1) with _ | ⟨x, t⟩
    · rw [e2, tailI_nil] at hz
      simp at hz
      omega
    · rw [e2, tailI_cons] at e
      simp at e
      exact h44 e
  · omega
/-- a number ends here -/
theorem Scan.stop {s : ByteArray} {i fr : Nat} {acc : List Int} (h : Scan s i fr acc) (hi : i < s.size) (hs : s.data.toList[i]? = some 44 ∨ i + 1 = s.size) :
    ∀ l0, setS l0 = true → setT l0 = s → numR ((s.data.toList.drop fr).take (i - fr)) = (l0.getD acc.length 0, true) ∧ ∃ j, acc ++ [l0.getD acc.length 0] = l0.take j ∧
      ((∃ h : j < l0.length, i + 1 ≤ i + 1 ∧ i + 1 ≤ i + 1 + (Lib.itoa l0[j]).length ∧ s.data.toList.drop (i + 1) = Lib.itoa l0[j] ++ tailI (l0.drop (j + 1))) ∨ (j = l0.length ∧ i + 1 = s.size ∧ i + 1 = s.size)) := by
  intro l0 h1 h2
  obtain ⟨j, ha, ⟨hj, h3, h4, h5⟩ | ⟨_, _, h5⟩⟩ := h l0 h1 h2
  · obtain ⟨q1, q2⟩ := drop_at _ fr i _ _ h5 h3
    obtain ⟨hz, hz2⟩ := Scan.size (i := i) (acc := acc) hj h5
    have hin := set_in h1 _ (List.getElem_mem hj)
    have hie : i = fr + (Lib.itoa l0[j]).length := by
      refine Classical.byContradiction fun hn => ?_
      rcases hs with hs | hs
      · exact itoa_byte _ _ (q1 (by omega) 44 hs) rfl
      · omega
    have hal : acc.length = j := by rw [ha, List.length_take]; omega
    have hgd : l0.getD acc.length 0 = l0[j] := by rw [hal, List.getD_eq_getElem?_getD, List.getElem?_eq_getElem hj]; rfl
    refine ⟨?_, j + 1, ?_, ?_⟩
    · rw [h5, hie, Nat.add_sub_cancel_left, List.take_left' rfl, numR_itoa _ hin, hgd]
    · rw [hgd, List.take_succ_eq_append_getElem hj, ha]
    · have hdr : s.data.toList.drop (i + 1) = (tailI (l0.drop (j + 1))).drop 1 := by
        rw [show i + 1 = fr + ((Lib.itoa l0[j]).length + 1) by omega, ← List.drop_drop, h5, ← List.drop_drop, List.drop_left' rfl]
      rcases e2 : l0.drop (j + 1) with _ | ⟨x, t⟩
      · right
        have hle : l0.length ≤ j + 1 := by rw [← List.drop_eq_nil_iff]; exact e2
        rw [e2, tailI_nil] at hz
        simp only [List.length_singleton] at hz
        omega
      · left
        have hlt : j + 1 < l0.length := by
          refine Classical.byContradiction fun hn => ?_
          rw [List.drop_eq_nil_of_le (by omega)] at e2
          cases e2
        have e3 := List.drop_eq_getElem_cons hlt
        rw [e2] at e3
        injection e3 with e4 e5
        refine ⟨hlt, Nat.le_refl _, by omega, ?_⟩
        rw [hdr, e2, tailI_cons, ← e4, ← e5]
        rfl
  · omega
theorem Scan.bad {s : ByteArray} {i fr : Nat} {acc : List Int} (h : Scan s i fr acc) (hz : s.size ≤ 65536) (hi : i < s.size) (hs : s.data.toList[i]? = some 44 ∨ i + 1 = s.size) (hb : (numR ((s.data.toList.drop fr).take (i - fr))).2 = false) : parseP s = ([], 20) := by
  refine parse_none hz fun l0 h1 h2 => ?_
  have := (h.stop hi hs l0 h1 h2).1
  rw [this] at hb
  cases hb
theorem Scan.next {s : ByteArray} {i fr : Nat} {acc : List Int} (h : Scan s i fr acc) (hi : i < s.size) (hs : s.data.toList[i]? = some 44 ∨ i + 1 = s.size) : Scan s (i + 1) (i + 1) (acc ++ [(numR ((s.data.toList.drop fr).take (i - fr))).1]) := by
  intro l0 h1 h2
  obtain ⟨e, j, hj⟩ := h.stop hi hs l0 h1 h2
  rw [e]
  exact ⟨j, hj⟩
theorem Scan.done {s : ByteArray} {fr : Nat} {acc : List Int} (h : Scan s s.size fr acc) (hz : s.size ≤ 65536) : checkT s (some acc) = parseP s := by
  unfold checkT
  dsimp only
  split
  · rename_i hc
    rw [← hc.2]
    exact (parse_set hc.1).symm
  · rename_i hc
    refine (parse_none hz fun l0 h1 h2 => hc ?_).symm
    obtain ⟨j, ha, ⟨hj, h3, h4, h5⟩ | ⟨hj, _, _⟩⟩ := h l0 h1 h2
    · have := Scan.size (i := s.size) (acc := acc) hj h5
      omega
    · rw [hj, List.take_length] at ha
      subst ha
      exact ⟨h1, h2⟩
theorem scan_small {s : ByteArray} (hz : s.size ≤ 2) : checkT s (some []) = parseP s := by
  unfold checkT
  dsimp only
  split
  · rename_i hc
    rw [← hc.2]
    exact (parse_set hc.1).symm
  · rename_i hc
    refine (parse_none (by omega) fun l0 h1 h2 => hc ?_).symm
    cases l0 with
    | nil => exact ⟨h1, h2⟩
    | cons x t =>
      have e := setT_cons x t
      rw [h2] at e
      have hl := congrArg List.length e
      have hs : s.data.toList.length = s.size := by simp
      have hp := itoa_pos x (set_in h1 x (by simp))
      rw [hs, List.length_cons, List.length_append] at hl
      unfold tailI at hl
      rw [List.length_append, List.length_singleton] at hl
      omega
/-- a text that does not begin, or end, so is no set's -/
theorem parse_ends {s : ByteArray} (hz : s.size ≤ 65536) (h : s.size < 2 ∨ s.data.toList[0]? ≠ some 123 ∨ s.data.toList[s.size - 1]? ≠ some 125) : parseP s = ([], 20) := by
  refine parse_none hz fun l h1 h2 => ?_
  have e := setT_list l
  rw [h2] at e
  have hs : s.data.toList.length = s.size := by simp
  have hl := congrArg List.length e
  rw [hs, List.length_cons, List.length_append, List.length_singleton] at hl
  rcases h with h | h | h
  · omega
  · rw [e] at h
    exact h rfl
  · rw [e] at h
    refine h ?_
    rw [hl, show (upT (points l)).data.toList.length + 1 + 1 - 1 = (upT (points l)).data.toList.length + 1 by omega, List.getElem?_cons_succ, List.getElem?_append_right (Nat.le_refl _), Nat.sub_self]
    rfl

end Go.Proofs.YtjeomiooheoegaaGreatDoor.PD

namespace Go.Proofs.YtjeomiooheoegaaGreatDoor.PD
open Go.RowKit Go.Proofs.YtjeomiooheoegaaGreatDoorW.PrintWords Go.Proofs.YtjeomiooheoegaaGreatDoorW.PrintLast Go.Proofs.YtjeomiooheoegaaGreatDoorW.PrintMore
attribute [local go_sem] max2_int min2_int max_two min_two max_three min_three max_four min_four   -- for this text's walks alone
set_option linter.unusedVariables false
set_option linter.unusedSimpArgs false

/-! ### jigsawref04_number: function 135 -/
mutual
def jigsawref04_number.j0 : Nat → ByteArray → Bool → Option (Int × Bool)
  | 0, _, _ => none
  | k + 1, x0, x4 => if x4 = true then (if 1 ≤ (x0.size : Int) then (jigsawref04_number.j1 k (x0.extract 1 x0.size) x4) else (none)) else (jigsawref04_number.j1 k x0 x4)
def jigsawref04_number.j1 : Nat → ByteArray → Bool → Option (Int × Bool)
  | 0, _, _ => none
  | k + 1, x0, x4 => jigsawref04_number.l0 k x0 x4 0 0
def jigsawref04_number.l0 : Nat → ByteArray → Bool → Int → Int → Option (Int × Bool)
  | 0, _, _, _, _ => none
  | k + 1, x0, x4, x5, x6 => if x6 < (x0.size : Int) then (if 0 ≤ x6 then (if (bt x0 x6) < 48 then (some (0, false)) else (if (bt x0 x6) > 57 then (some (0, false)) else (if (x0.size : Int) > 9 then (some (0, false)) else (jigsawref04_number.l0 k x0 x4 (wrap64 ((wrap64 (10 * x5)) + (((bt x0 x6) - 48) % 256))) (wrap64 (x6 + 1)))))) else (none)) else (if x4 = true then (some (wrap64 (-x5), decide ((x0.size : Int) > 0))) else (some (x5, decide ((x0.size : Int) > 0))))
end
def jigsawref04_number.f (k : Nat) (a0 : ByteArray) : Option (Int × Bool) := if (a0.size : Int) > 0 then (if 0 < (a0.size : Int) then (jigsawref04_number.j0 k a0 ((bt a0 0) == 45)) else (none)) else (jigsawref04_number.j0 k a0 false)
theorem jigsawref04_number.mono_l : ∀ k, (∀ y0 y1, LeO (jigsawref04_number.j0 k y0 y1) (jigsawref04_number.j0 (k + 1) y0 y1)) ∧ (∀ y0 y1, LeO (jigsawref04_number.j1 k y0 y1) (jigsawref04_number.j1 (k + 1) y0 y1)) ∧ (∀ y0 y1 y2 y3, LeO (jigsawref04_number.l0 k y0 y1 y2 y3) (jigsawref04_number.l0 (k + 1) y0 y1 y2 y3))
  | 0 => ⟨fun _ _ r h => by simp [jigsawref04_number.j0] at h, fun _ _ r h => by simp [jigsawref04_number.j1] at h, fun _ _ _ _ r h => by simp [jigsawref04_number.l0] at h⟩
  | k + 1 => by
    obtain ⟨ih0, ih1, ih2⟩ := jigsawref04_number.mono_l k
    refine ⟨?_, ?_, ?_⟩
    · intro y0 y1
      unfold jigsawref04_number.j0
      repeat' first
      | (with_reducible exact ih0 _ _)
      | (with_reducible exact ih1 _ _)
      | (with_reducible exact ih2 _ _ _ _)
      | (with_reducible exact LeO.refl _)
      | (with_reducible exact LeO.none _)
      | (with_reducible refine LeO.ite ?_ ?_)
      | (with_reducible refine LeO.bind ?_ (fun _ => ?_))
      | exact ih0 _ _
      | exact ih1 _ _
      | exact ih2 _ _ _ _
      | exact LeO.none _
      | refine LeO.ite ?_ ?_
      | refine LeO.bind ?_ (fun _ => ?_)
    · intro y0 y1
      unfold jigsawref04_number.j1
      repeat' first
      | (with_reducible exact ih0 _ _)
      | (with_reducible exact ih1 _ _)
      | (with_reducible exact ih2 _ _ _ _)
      | (with_reducible exact LeO.refl _)
      | (with_reducible exact LeO.none _)
      | (with_reducible refine LeO.ite ?_ ?_)
      | (with_reducible refine LeO.bind ?_ (fun _ => ?_))
      | exact ih0 _ _
      | exact ih1 _ _
      | exact ih2 _ _ _ _
      | exact LeO.none _
      | refine LeO.ite ?_ ?_
      | refine LeO.bind ?_ (fun _ => ?_)
    · intro y0 y1 y2 y3
      unfold jigsawref04_number.l0
      repeat' first
      | (with_reducible exact ih0 _ _)
      | (with_reducible exact ih1 _ _)
      | (with_reducible exact ih2 _ _ _ _)
      | (with_reducible exact LeO.refl _)
      | (with_reducible exact LeO.none _)
      | (with_reducible refine LeO.ite ?_ ?_)
      | (with_reducible refine LeO.bind ?_ (fun _ => ?_))
      | exact ih0 _ _
      | exact ih1 _ _
      | exact ih2 _ _ _ _
      | exact LeO.none _
      | refine LeO.ite ?_ ?_
      | refine LeO.bind ?_ (fun _ => ?_)
theorem jigsawref04_number.mono : ∀ a0 k, LeO (jigsawref04_number.f k a0) (jigsawref04_number.f (k + 1) a0) := by
  intro a0 k
  obtain ⟨ih0, ih1, ih2⟩ := jigsawref04_number.mono_l k
  unfold jigsawref04_number.f
  repeat' first
      | (with_reducible exact ih0 _ _)
      | (with_reducible exact ih1 _ _)
      | (with_reducible exact ih2 _ _ _ _)
      | (with_reducible exact LeO.refl _)
      | (with_reducible exact LeO.none _)
      | (with_reducible refine LeO.ite ?_ ?_)
      | (with_reducible refine LeO.bind ?_ (fun _ => ?_))
      | exact ih0 _ _
      | exact ih1 _ _
      | exact ih2 _ _ _ _
      | exact LeO.none _
      | refine LeO.ite ?_ ?_
      | refine LeO.bind ?_ (fun _ => ?_)
set_option maxHeartbeats 8000000 in
set_option maxRecDepth 100000 in
theorem jigsawref04_number.calls (k : Nat) (a0 : ByteArray) (r1 : Int) (r2 : Bool) (w : World) (h : jigsawref04_number.f k a0 = some (r1, r2)) :
    Calls Tryz.prog 135 #[.string a0] w fun e w' => e = .returned (.tuple #[.int .i64 r1, .bool r2]) ∧ Drawn0 w w' := by
  have H : (if (a0.size : Int) > 0 then (if 0 < (a0.size : Int) then (jigsawref04_number.j0 k a0 ((bt a0 0) == 45)) else (none)) else (jigsawref04_number.j0 k a0 false)) = some (r1, r2) := h
  clear h
  have HC2 := Aside0.mk H
  clear H
  go_enter Tryz.func135, Tryz.ntmps135
  go_upto_region 1 with (fail)
  go_cut [4] (fun v4 wc => ∃ (kq : Nat) (x4_1 : Bool), v4 = .bool x4_1 ∧ Aside0 (jigsawref04_number.j0 kq a0 x4_1 = some (r1, r2)) ∧ Aside0 (kq ≤ k) ∧ Drawn0 w wc)
  case first =>
    have H := HC2.out
    clear HC2
    by_cases c3 : (a0.size : Int) > 0
    · rw [if_pos c3] at H
      have c3b0 : decide (0 < (a0.size : Int)) = true := decide_eq_true c3
      have c3b1 : decide (0 < a0.size) = true := decide_eq_true (by omega)
      clear c3
      (first | rw [c3b0] | (simp only [i64_w, i32_w]; rw [c3b0]) | skip)
      by_cases c4 : 0 < (a0.size : Int)
      · rw [if_pos c4] at H
        have c4b0 : decide (0 < (a0.size : Int)) = true := decide_eq_true c4
        have c4b1 : decide (0 < a0.size) = true := decide_eq_true (by omega)
        clear c4
        have H' := Aside0.mk H
        clear H
        have p5 : 0 ≤ (0 : Int) := (by omega)
        have q5 : 0 < a0.size := (by have : (0 : Int) < (a0.size : Int) := of_decide_eq_true (by first | (with_reducible assumption) | assumption); omega)
        have hx5 : ∀ h : 0 < a0.size, ((a0[0]'h).toNat : Int) = bt a0 0 := bt_at a0 0
        clear p5
        have qi5 : (0 < (a0.size : Int)) = True := eq_true (of_decide_eq_true (by first | (with_reducible assumption) | assumption))
        replace q5 := eq_true q5
        go_wp2
        go_meet
        case rel => exact ⟨_, (((bt a0 0) == 45)), (by first | rfl | (simp; done) | (simp [*]; done)), H', ⟨by first | omega | exact Nat.le_refl _⟩, by repeat (first | exact Drawn0.refl _ | apply Drawn0.step)⟩
      · rw [if_neg c4] at H
        exact absurd H (by simp)
    · rw [if_neg c3] at H
      have c3b0 : decide (0 < (a0.size : Int)) = false := decide_eq_false c3
      have c3b1 : decide (0 < a0.size) = false := decide_eq_false (by omega)
      clear c3
      (first | rw [c3b0] | (simp only [i64_w, i32_w]; rw [c3b0]) | skip)
      have H' := Aside0.mk H
      clear H
      go_wp2
      go_meet
      case rel => exact ⟨_, (false), (by first | rfl | (simp; done) | (simp [*]; done)), H', ⟨by first | omega | exact Nat.le_refl _⟩, by repeat (first | exact Drawn0.refl _ | apply Drawn0.step)⟩
  case rest =>
    clear HC2
    try clear c1
    try clear p2
    try clear c3
    try clear c3b0
    try clear c3b1
    try clear c4
    try clear c4b0
    try clear c4b1
    try clear p5
    try clear q5
    try clear hx5
    try clear qi5
    try clear p5
    try clear q5
    obtain ⟨kq, x4_1, rfl, HA, HJ1, ⟨mc1, rfl⟩⟩ := hcut
    cases kq with
    | zero => exact absurd HA.out (by simp [jigsawref04_number.j0])
    | succ kj1 =>
      have H := HA.out
      clear HA
      simp only [jigsawref04_number.j0] at H
      have HC6 := Aside0.mk H
      clear H
      go_upto_if 15 with (fail)
      go_cut [0] (fun v0 wc => ∃ (kq : Nat) (x0_5 : ByteArray), v0 = .string x0_5 ∧ Aside0 (jigsawref04_number.j1 kq x0_5 x4_1 = some (r1, r2)) ∧ Aside0 (kq ≤ kj1) ∧ Drawn0 w wc)
      case first =>
        have H := HC6.out
        clear HC6
        by_cases c7 : x4_1 = true
        · subst c7
          have H1 : (if 1 ≤ (a0.size : Int) then (jigsawref04_number.j1 kj1 (a0.extract 1 a0.size) true) else (none)) = some (r1, r2) := by rw [if_pos rfl] at H; exact H
          clear H
          have H := H1
          clear H1
          by_cases c8 : 1 ≤ (a0.size : Int)
          · rw [if_pos c8] at H
            have c8b0 := eq_true c8
            have c8b1 : decide (1 ≤ (a0.size : Int)) = true := decide_eq_true c8
            clear c8
            have H' := Aside0.mk H
            clear H
            go_wp2
            go_meet
            case rel => exact ⟨_, (a0.extract 1 a0.size), (by first | rfl | (simp; done) | (simp [*]; done)), H', ⟨by have := HJ1.out; first | omega | exact Nat.le_refl _⟩, by repeat (first | exact Drawn0.refl _ | apply Drawn0.step)⟩
          · rw [if_neg c8] at H
            exact absurd H (by simp)
        · replace c7 := Bool.eq_false_iff.mpr c7
          subst c7
          have H1 : (jigsawref04_number.j1 kj1 a0 false) = some (r1, r2) := by rw [if_neg (show ¬ (false = true) by decide)] at H; exact H
          clear H
          have H := H1
          clear H1
          have H' := Aside0.mk H
          clear H
          go_wp2
          go_meet
          case rel => exact ⟨_, (a0), (by first | rfl | (simp; done) | (simp [*]; done)), H', ⟨by have := HJ1.out; first | omega | exact Nat.le_refl _⟩, by repeat (first | exact Drawn0.refl _ | apply Drawn0.step)⟩
      case rest =>
        clear HC6
        try clear c1
        try clear p2
        try clear c3
        try clear c3b0
        try clear c3b1
        try clear c4
        try clear c4b0
        try clear c4b1
        try clear p5
        try clear q5
        try clear hx5
        try clear qi5
        try clear c7
        try clear c8
        try clear c8b0
        try clear c8b1
        try clear p2
        try clear p5
        try clear q5
        obtain ⟨kq, x0_5, rfl, HA, HJ5, ⟨mc5, rfl⟩⟩ := hcut
        cases kq with
        | zero => exact absurd HA.out (by simp [jigsawref04_number.j1])
        | succ kj5 =>
          have H := HA.out
          clear HA
          simp only [jigsawref04_number.j1] at H
          have H' := Aside0.mk H
          clear H
          go_wp2
          go_loopg [5, 6] kj5 (fun kq v5 v6 w' => ∃ (x5_3 : Int) (x6_3 : Int), v5 = .int .i64 x5_3 ∧ v6 = .int .i64 x6_3 ∧ Aside0 (jigsawref04_number.l0 kq x0_5 x4_1 x5_3 x6_3 = some (r1, r2)) ∧ Aside0 (kq ≤ kj5) ∧ Drawn0 w w')
          case atStart => exact ⟨(0), (0), (by first | rfl | (simp; done) | (simp [*]; done)), (by first | rfl | (simp; done) | (simp [*]; done)), H', ⟨Nat.le_refl _⟩, by repeat (first | exact Drawn0.refl _ | apply Drawn0.step)⟩
          case round =>
            clear H'
            try clear c1
            try clear p2
            try clear c3
            try clear c3b0
            try clear c3b1
            try clear c4
            try clear c4b0
            try clear c4b1
            try clear c5
            try clear p5
            try clear q5
            try clear hx5
            try clear qi5
            try clear c7
            try clear c8
            try clear c8b0
            try clear c8b1
            try clear p2
            try clear p5
            try clear q5
            obtain ⟨x5_3, x6_3, rfl, rfl, HA, HK3, ⟨m3, rfl⟩⟩ := hrel
            cases gk with
            | zero => exact absurd HA.out (by simp [jigsawref04_number.l0])
            | succ k3 =>
              have H := HA.out
              clear HA
              simp only [jigsawref04_number.l0] at H
              by_cases c9 : x6_3 < (x0_5.size : Int)
              · rw [if_pos c9] at H
                have c9b0 : decide (x6_3 < (x0_5.size : Int)) = true := decide_eq_true c9
                clear c9
                by_cases c10 : 0 ≤ x6_3
                · rw [if_pos c10] at H
                  have c10b0 : decide (0 ≤ x6_3) = true := decide_eq_true c10
                  clear c10
                  by_cases c12 : (bt x0_5 x6_3) < 48
                  · rw [if_pos c12] at H
                    have c12b0 : decide ((bt x0_5 x6_3) < 48) = true := decide_eq_true c12
                    clear c12
                    simp only [Option.some.injEq, Prod.mk.injEq] at H
                    obtain ⟨rfl, rfl⟩ := H
                    have p11 : 0 ≤ (x6_3 : Int) := of_decide_eq_true (by first | (with_reducible assumption) | assumption)
                    have q11 : x6_3 < (x0_5.size : Int) := of_decide_eq_true (by first | (with_reducible assumption) | assumption)
                    have hx11 := bt_at x0_5 x6_3
                    replace p11 := eq_true p11
                    replace q11 := eq_true q11
                    go_wp2
                    go_ret2
                    exact ⟨by first | rfl | (simp; done) | (simp [*]; done), by repeat (first | exact Drawn0.refl _ | apply Drawn0.step)⟩
                  · rw [if_neg c12] at H
                    have c12b0 : decide ((bt x0_5 x6_3) < 48) = false := decide_eq_false c12
                    clear c12
                    by_cases c14 : (bt x0_5 x6_3) > 57
                    · rw [if_pos c14] at H
                      have c14b0 : decide (57 < (bt x0_5 x6_3)) = true := decide_eq_true c14
                      clear c14
                      simp only [Option.some.injEq, Prod.mk.injEq] at H
                      obtain ⟨rfl, rfl⟩ := H
                      have p11 : 0 ≤ (x6_3 : Int) := of_decide_eq_true (by first | (with_reducible assumption) | assumption)
                      have q11 : x6_3 < (x0_5.size : Int) := of_decide_eq_true (by first | (with_reducible assumption) | assumption)
                      have hx11 := bt_at x0_5 x6_3
                      replace p11 := eq_true p11
                      replace q11 := eq_true q11
                      have p13 : 0 ≤ (x6_3 : Int) := of_decide_eq_true (by first | (with_reducible assumption) | assumption)
                      have q13 : x6_3 < (x0_5.size : Int) := of_decide_eq_true (by first | (with_reducible assumption) | assumption)
                      have hx13 := bt_at x0_5 x6_3
                      replace p13 := eq_true p13
                      replace q13 := eq_true q13
                      go_wp2
                      go_ret2
                      exact ⟨by first | rfl | (simp; done) | (simp [*]; done), by repeat (first | exact Drawn0.refl _ | apply Drawn0.step)⟩
                    · rw [if_neg c14] at H
                      have c14b0 : decide (57 < (bt x0_5 x6_3)) = false := decide_eq_false c14
                      clear c14
                      by_cases c15 : (x0_5.size : Int) > 9
                      · rw [if_pos c15] at H
                        have c15b0 : decide (9 < (x0_5.size : Int)) = true := decide_eq_true c15
                        have c15b1 : decide (9 < x0_5.size) = true := decide_eq_true (by omega)
                        clear c15
                        simp only [Option.some.injEq, Prod.mk.injEq] at H
                        obtain ⟨rfl, rfl⟩ := H
                        have p11 : 0 ≤ (x6_3 : Int) := of_decide_eq_true (by first | (with_reducible assumption) | assumption)
                        have q11 : x6_3 < (x0_5.size : Int) := of_decide_eq_true (by first | (with_reducible assumption) | assumption)
                        have hx11 := bt_at x0_5 x6_3
                        replace p11 := eq_true p11
                        replace q11 := eq_true q11
                        have p13 : 0 ≤ (x6_3 : Int) := of_decide_eq_true (by first | (with_reducible assumption) | assumption)
                        have q13 : x6_3 < (x0_5.size : Int) := of_decide_eq_true (by first | (with_reducible assumption) | assumption)
                        have hx13 := bt_at x0_5 x6_3
                        replace p13 := eq_true p13
                        replace q13 := eq_true q13
                        go_wp2
                        go_ret2
                        exact ⟨by first | rfl | (simp; done) | (simp [*]; done), by repeat (first | exact Drawn0.refl _ | apply Drawn0.step)⟩
                      · rw [if_neg c15] at H
                        have c15b0 : decide (9 < (x0_5.size : Int)) = false := decide_eq_false c15
                        have c15b1 : decide (9 < x0_5.size) = false := decide_eq_false (by omega)
                        clear c15
                        have H' := Aside0.mk H
                        clear H
                        have p11 : 0 ≤ (x6_3 : Int) := of_decide_eq_true (by first | (with_reducible assumption) | assumption)
                        have q11 : x6_3 < (x0_5.size : Int) := of_decide_eq_true (by first | (with_reducible assumption) | assumption)
                        have hx11 := bt_at x0_5 x6_3
                        replace p11 := eq_true p11
                        replace q11 := eq_true q11
                        have p13 : 0 ≤ (x6_3 : Int) := of_decide_eq_true (by first | (with_reducible assumption) | assumption)
                        have q13 : x6_3 < (x0_5.size : Int) := of_decide_eq_true (by first | (with_reducible assumption) | assumption)
                        have hx13 := bt_at x0_5 x6_3
                        replace p13 := eq_true p13
                        replace q13 := eq_true q13
                        have p16 : 0 ≤ (x6_3 : Int) := of_decide_eq_true (by first | (with_reducible assumption) | assumption)
                        have q16 : x6_3 < (x0_5.size : Int) := of_decide_eq_true (by first | (with_reducible assumption) | assumption)
                        have hx16 := bt_at x0_5 x6_3
                        replace p16 := eq_true p16
                        replace q16 := eq_true q16
                        go_wp2
                        go_roundg k3
                        case measure => have := HJ1.out; have := HJ5.out; have := HK3.out; omega
                        case rel => exact ⟨(wrap64 ((wrap64 (10 * x5_3)) + (((bt x0_5 x6_3) - 48) % 256))), (wrap64 (x6_3 + 1)), (by first | rfl | (simp; done) | (simp [*]; done)), (by first | rfl | (simp; done) | (simp [*]; done)), H', ⟨by have := HJ1.out; have := HJ5.out; have := HK3.out; omega⟩, by repeat (first | exact Drawn0.refl _ | apply Drawn0.step)⟩
                · rw [if_neg c10] at H
                  exact absurd H (by simp)
              · rw [if_neg c9] at H
                have c9b0 : decide (x6_3 < (x0_5.size : Int)) = false := decide_eq_false c9
                clear c9
                by_cases c17 : x4_1 = true
                · subst c17
                  have H1 : (some (wrap64 (-x5_3), decide ((x0_5.size : Int) > 0))) = some (r1, r2) := by rw [if_pos rfl] at H; exact H
                  clear H
                  have H := H1
                  clear H1
                  simp only [Option.some.injEq, Prod.mk.injEq] at H
                  obtain ⟨rfl, rfl⟩ := H
                  go_wp2
                  go_ret2
                  exact ⟨by first | rfl | (simp; done) | (simp [*]; done), by repeat (first | exact Drawn0.refl _ | apply Drawn0.step)⟩
                · replace c17 := Bool.eq_false_iff.mpr c17
                  subst c17
                  have H1 : (some (x5_3, decide ((x0_5.size : Int) > 0))) = some (r1, r2) := by rw [if_neg (show ¬ (false = true) by decide)] at H; exact H
                  clear H
                  have H := H1
                  clear H1
                  simp only [Option.some.injEq, Prod.mk.injEq] at H
                  obtain ⟨rfl, rfl⟩ := H
                  go_wp2
                  go_ret2
                  exact ⟨by first | rfl | (simp; done) | (simp [*]; done), by repeat (first | exact Drawn0.refl _ | apply Drawn0.step)⟩
end Go.Proofs.YtjeomiooheoegaaGreatDoor.PD

namespace Go.Proofs.YtjeomiooheoegaaGreatDoor.PD
open Go.RowKit Go.Proofs.YtjeomiooheoegaaGreatDoorW.PrintWords Go.Proofs.YtjeomiooheoegaaGreatDoorW.PrintLast Go.Proofs.YtjeomiooheoegaaGreatDoorW.PrintMore
set_option linter.unusedVariables false
set_option linter.unusedSimpArgs false
/-! ### the reference's number -/
theorem bt_get (s : ByteArray) (i : Nat) (c : UInt8) (t : List UInt8) (e : s.data.toList.drop i = c :: t) : i < s.size ∧ bt s (i : Int) = (c.toNat : Int) ∧ s.data.toList.drop (i + 1) = t := by
  have hlen : s.data.toList.length = s.size := by simp
  have h : i < s.data.toList.length := by
    have := congrArg List.length e
    rw [List.length_drop, List.length_cons] at this
    omega
  have e2 := List.drop_eq_getElem_cons h
  rw [e2] at e
  injection e with e3 e4
  refine ⟨by omega, ?_, e4⟩
  unfold bt
  rw [dif_pos (by omega)]
  congr 2
def foldV (n : Nat) (l : List UInt8) : Nat := l.foldl (fun n c => 10 * n + (c.toNat - 48)) n
def numO (m : Bool) (n len : Nat) (l : List UInt8) : Int × Bool := if l.all digitB = true then ((if m = true then -(foldV n l : Int) else (foldV n l : Int)), decide (0 < len)) else (0, false)
theorem numr_l0 (s : ByteArray) (hz : s.size ≤ 9) (m : Bool) : ∀ (d i n : Nat), s.size = i + d → n < 10 ^ i → jigsawref04_number.l0 (d + 1) s m (n : Int) (i : Int) = some (numO m n s.size (s.data.toList.drop i))
  | 0, i, n, hd, hn => by
    have hsl : s.data.toList.length = s.size := by simp
    have h8 : 10 ^ i ≤ 10 ^ 9 := Nat.pow_le_pow_right (by decide) (by omega)
    rw [List.drop_eq_nil_of_le (by omega)]
    rw [jigsawref04_number.l0, if_neg (by omega), show wrap64 (-(n : Int)) = -(n : Int) from IntWalk.wrap64_in _ (by omega)]
    unfold numO
    rw [if_pos (show ([] : List UInt8).all digitB = true from rfl), show foldV n [] = n from rfl]
    have e : decide ((s.size : Int) > 0) = decide (0 < s.size) := by congr 1; exact propext ⟨fun h => by omega, fun h => by omega⟩
    rw [e]
    cases m <;> rfl
  | d + 1, i, n, hd, hn => by
    have hsl : s.data.toList.length = s.size := by simp
    have h8 : 10 ^ i ≤ 10 ^ 8 := Nat.pow_le_pow_right (by decide) (by omega)
    rcases e : s.data.toList.drop i with _ | ⟨b, t⟩
    · have := congrArg List.length e
      rw [List.length_drop, List.length_nil] at this
      omega
    · obtain ⟨q1, q2, q3⟩ := bt_get s i b t e
      rw [jigsawref04_number.l0, if_pos (by omega), if_pos (by omega), q2]
      by_cases hdg : digitB b = true
      · have hb := digitB_nat hdg
        have ih := numr_l0 s hz m d (i + 1) (10 * n + (b.toNat - 48)) (by omega) (by rw [Nat.pow_succ]; omega)
        have hw2 : wrap64 ((i : Int) + 1) = ((i + 1 : Nat) : Int) := by rw [IntWalk.wrap64_in _ (by omega)]; omega
        have hw3 : wrap64 (10 * (n : Int)) = 10 * (n : Int) := IntWalk.wrap64_in _ (by omega)
        have hw4 : wrap64 (10 * (n : Int) + ((b.toNat : Int) - 48) % 256) = ((10 * n + (b.toNat - 48) : Nat) : Int) := by rw [IntWalk.wrap64_in _ (by omega)]; omega
        rw [if_neg (by omega), if_neg (by omega), if_neg (by omega), hw2, hw3, hw4, ih, q3]
        unfold numO
        rw [List.all_cons, hdg, Bool.true_and]
        rfl
      · have e2 : numO m n s.size (b :: t) = (0, false) := by
          unfold numO
          rw [List.all_cons, Bool.not_eq_true _ |>.mp hdg, Bool.false_and, if_neg (by decide)]
        have hnb : ¬ (48 ≤ b.toNat ∧ b.toNat ≤ 57) := fun h => hdg (by
          unfold digitB
          rw [Bool.and_eq_true, decide_eq_true_iff, decide_eq_true_iff, UInt8.le_iff_toNat_le, UInt8.le_iff_toNat_le]
          exact h)
        rw [e2]
        by_cases h1 : (b.toNat : Int) < 48
        · rw [if_pos h1]
        · rw [if_neg h1, if_pos (by omega)]
def numC (m : Bool) (l : List UInt8) : Int × Bool := if l.all digitB = true ∧ l.length ≤ 9 then ((if m = true then -(decV l : Int) else (decV l : Int)), decide (0 < l.length)) else (0, false)
theorem numr_core (x : ByteArray) (m : Bool) : jigsawref04_number.l0 (x.size + 1) x m 0 0 = some (numC m x.data.toList) := by
  have hsl : x.data.toList.length = x.size := by simp
  by_cases hz : x.size ≤ 9
  · have h := numr_l0 x hz m x.size 0 0 (by omega) (by decide)
    rw [List.drop_zero] at h
    refine h.trans ?_
    unfold numO numC
    rw [hsl]
    by_cases ha : x.data.toList.all digitB = true
    · rw [if_pos ha, if_pos (show x.data.toList.all digitB = true ∧ x.size ≤ 9 from ⟨ha, hz⟩)]
      rfl
    · rw [if_neg ha, if_neg (show ¬ (x.data.toList.all digitB = true ∧ x.size ≤ 9) from fun h => ha h.1)]
  · have e : numC m x.data.toList = (0, false) := by
      unfold numC
      rw [if_neg (show ¬ (x.data.toList.all digitB = true ∧ x.data.toList.length ≤ 9) from by rw [hsl]; exact fun h => hz h.2)]
    rw [e]
    rw [jigsawref04_number.l0, if_pos (by omega), if_pos (by omega)]
    split
    · rfl
    · split
      · rfl
      · rw [if_pos (by omega)]
theorem number_f4 (s : ByteArray) : ∃ k, jigsawref04_number.f k s = some ((numR s.data.toList).1, (numR s.data.toList).2) := by
  have hsl : s.data.toList.length = s.size := by simp
  rcases e : s.data.toList with _ | ⟨b, t⟩
  · have hz : s.size = 0 := by rw [← hsl, e]; rfl
    refine ⟨s.size + 1 + 2, ?_⟩
    unfold jigsawref04_number.f
    rw [if_neg (by omega)]
    simp only [jigsawref04_number.j0, jigsawref04_number.j1, Bool.false_eq_true, if_false]
    rw [numr_core, e]
    rfl
  · have hz : 0 < s.size := by rw [← hsl, e]; simp
    obtain ⟨q1, q2, q3⟩ := bt_get s 0 b t (by rw [List.drop_zero]; exact e)
    have q2' : bt s 0 = (b.toNat : Int) := q2
    by_cases hb : b = 45
    · have hx : (s.extract 1 s.size).data.toList = t := by
        rw [ByteArray.data_extract, Array.toList_extract, e]
        simp only [List.extract_eq_take_drop, List.drop_succ_cons, List.drop_zero]
        rw [List.take_of_length_le (by have := congrArg List.length e; rw [hsl, List.length_cons] at this; omega)]
      refine ⟨(s.extract 1 s.size).size + 1 + 2, ?_⟩
      unfold jigsawref04_number.f
      rw [if_pos (by omega), if_pos (by omega), q2', hb]
      simp only [jigsawref04_number.j0, jigsawref04_number.j1]
      rw [if_pos (by rfl), if_pos (by omega), show (((45 : UInt8).toNat : Int) == 45) = true from rfl, numr_core, hx]
      have e2 : numC true t = numR (45 :: t) := by
        unfold numC numR restN
        simp only [if_pos (show ((45 : UInt8) :: t).head? = some 45 from rfl), List.tail_cons, if_true]
      rw [e2]
    · have hb2 : (((b.toNat : Int)) == 45) = false := by
        rw [beq_eq_false_iff_ne]
        intro h
        exact hb (UInt8.toNat_inj.1 (by show b.toNat = 45; omega))
      refine ⟨s.size + 1 + 2, ?_⟩
      unfold jigsawref04_number.f
      rw [if_pos (by omega), if_pos (by omega), q2', hb2]
      simp only [jigsawref04_number.j0, jigsawref04_number.j1, Bool.false_eq_true, if_false]
      rw [numr_core, e]
      have hh : ¬ (b :: t).head? = some 45 := fun h => hb (by injection h)
      have e2 : numC false (b :: t) = numR (b :: t) := by
        unfold numC numR restN
        simp only [if_neg hh, Bool.false_eq_true, if_false]
      rw [e2]
theorem number_ref4 (s : ByteArray) (w : World) : Calls Tryz.prog 135 #[.string s] w fun e w' => e = .returned (.tuple #[.int .i64 (numR s.data.toList).1, .bool (numR s.data.toList).2]) ∧ Below w.heap.size w w' := by
  obtain ⟨k, hk⟩ := number_f4 s
  refine (jigsawref04_number.calls k s _ _ w hk).mono ?_
  rintro e w' ⟨rfl, hd⟩
  exact ⟨rfl, hd.below⟩

end Go.Proofs.YtjeomiooheoegaaGreatDoor.PD

namespace Go.Proofs.YtjeomiooheoegaaGreatDoor.PD
open Go.RowKit Go.Proofs.YtjeomiooheoegaaGreatDoorW.PrintWords Go.Proofs.YtjeomiooheoegaaGreatDoorW.PrintLast Go.Proofs.YtjeomiooheoegaaGreatDoorW.PrintMore
set_option linter.unusedVariables false
set_option linter.unusedSimpArgs false
/-! ### the reference's Text -/
theorem points_take {l : List Int} {k : Nat} (h : k < l.length) : points (l.take (k + 1)) = points (l.take k) ++ [⟨l[k], l[k]⟩] := by
  rw [List.take_succ_eq_append_getElem h]
  unfold points
  rw [List.map_append]
  rfl
theorem headT_step {l : List Int} {k : Nat} (h : k < l.length) : (⟨#[123]⟩ : ByteArray) ++ upT (points (l.take (k + 1))) = (if 0 < k then (⟨#[123]⟩ : ByteArray) ++ upT (points (l.take k)) ++ ⟨#[44]⟩ else (⟨#[123]⟩ : ByteArray) ++ upT (points (l.take k))) ++ decB l[k] := by
  rw [points_take h]
  by_cases hk : 0 < k
  · rw [if_pos hk, upT_snoc _ (by rw [points_length, List.length_take]; omega), rng_point, ba_assoc, ba_assoc, ba_assoc]
  · obtain rfl : k = 0 := by omega
    rw [if_neg hk, List.take_zero]
    show (⟨#[123]⟩ : ByteArray) ++ upT [⟨l[0], l[0]⟩] = (⟨#[123]⟩ : ByteArray) ++ (⟨#[]⟩ : ByteArray) ++ decB l[0]
    rw [upT_one, rng_point, ba_nil']
set_option maxRecDepth 100000 in
set_option maxHeartbeats 8000000 in
theorem Text_ref4 {v : Value} (l : List Int) (w : World) (h : LstI w v l) (hd : DomLaid w) :
    Calls Tryz.prog 61 #[v] w fun e w' => e = .returned (.string (setT (asL l))) ∧ Below w.heap.size w w' := by
  have HT := Lib.hid (Taken4_ref l w h)
  have hset := asL_set l
  have hlen := set_len hset
  have HM := Lib.hid (set_in hset)
  have HD := Lib.hid hd
  obtain ⟨A, c, hv⟩ := h.form
  subst hv
  generalize asL l = t at *
  obtain ⟨res, hres⟩ : ∃ res, setT t = res := ⟨_, rfl⟩
  rw [hres]
  have HRES := Lib.hid hres
  clear hset hd h hres
  go_enter Tryz.func61, Tryz.ntmps61
  go_wp2_with fail
  refine HT.out.mono ?_
  rintro e w1 ⟨v1, rfl, hL, hb⟩
  have HL := Lib.hid hL; have HB := Lib.hid hb
  have HD1 := Lib.hid (HD.out.below hb)
  obtain ⟨A1, c1, hv1⟩ := hL.form
  subst hv1
  clear hL hb HT
  generalize hm : t.length = m at *
  have HN := Lib.hid hm
  clear hm
  go_wp2_with fail
  go_loopw [3, 4] (fun s i wr => ∃ k : Nat, i = .int .i64 k ∧ k ≤ m ∧ s = .string ((⟨#[123]⟩ : ByteArray) ++ upT (points (t.take k))) ∧ Hid (Below w1.heap.size w1 wr))
    (fun _ i _ => m - (intOf i).toNat)
  case atStart => exact ⟨0, rfl, Nat.zero_le _, rfl, Lib.hid (Below.refl _ _)⟩
  case round =>
    obtain ⟨k, rfl, hk, rfl, hB⟩ := hrel
    have hus := upT_size (points (t.take k)) (points_in (fun x hx => HM.out x (List.mem_of_mem_take hx)))
    rw [points_length, List.length_take] at hus
    have hbs : ((⟨#[123]⟩ : ByteArray) ++ upT (points (t.take k))).size ≤ 1400 := by
      rw [ByteArray.size_append, show (⟨#[123]⟩ : ByteArray).size = 1 from rfl]; omega
    by_cases hkm : k < m
    · have hkt : k < t.length := by rw [HN.out]; exact hkm
      obtain ⟨ad, hA, x0⟩ := (show LstI wr (.slice A1 m c1) t from HL.out.below hB.out).at k hkt
      subst hA
      have hs := HM.out _ (List.getElem_mem hkt)
      have HST := Lib.hid (headT_step hkt)
      generalize (⟨#[123]⟩ : ByteArray) ++ upT (points (t.take k)) = b at *
      generalize t[k] = x at *
      have hxs := decB_size x (by omega) (by omega)
      have HX := Lib.hid (format_calls x (by omega) (by omega) wr (HD1.out.below hB.out))
      generalize decB x = bx at *
      have hix := fun W => indexI_at ad m c1 (k : Nat) (by omega) W
      simp only [Int.toNat_natCast] at hix
      have hc1' : (9223372036854775807 < b.size + 1) = False := eq_false (by omega)
      have hc2' : (9223372036854775807 < b.size + 1 + bx.size) = False := eq_false (by omega)
      have hc3' : (9223372036854775807 < b.size + bx.size) = False := eq_false (by omega)
      by_cases hk0 : 0 < k
      · have hkb : decide ((k : Int) > 0) = true := decide_eq_true (by omega)
        have hkb2 : decide (0 < k) = true := decide_eq_true hk0
        rw [if_pos hk0] at HST
        go_wp2_with fail
        refine HX.out.mono ?_
        rintro e w2 ⟨rfl, hb2⟩
        have HB2 := Lib.hid (below_step hB.out hb2)
        clear hb2 x0
        go_wp2_with fail
        refine ⟨⟨k + 1, by rw [Int.natCast_add]; rfl, by omega, by rw [HST.out], HB2⟩, by simp [intOf]; omega⟩
      · have hkb : decide ((k : Int) > 0) = false := decide_eq_false (by omega)
        have hkb2 : decide (0 < k) = false := decide_eq_false hk0
        rw [if_neg hk0] at HST
        go_wp2_with fail
        refine HX.out.mono ?_
        rintro e w2 ⟨rfl, hb2⟩
        have HB2 := Lib.hid (below_step hB.out hb2)
        clear hb2 x0
        go_wp2_with fail
        refine ⟨⟨k + 1, by rw [Int.natCast_add]; rfl, by omega, by rw [HST.out], HB2⟩, by simp [intOf]; omega⟩
    · obtain rfl : k = m := by omega
      have hr : (⟨#[123]⟩ : ByteArray) ++ upT (points (t.take k)) ++ ⟨#[125]⟩ = res := by
        rw [List.take_of_length_le (by rw [HN.out]; exact Nat.le_refl _), ← HRES.out]
        unfold setT
        rw [ba_assoc]
      have HR := Lib.hid hr
      clear hr
      generalize (⟨#[123]⟩ : ByteArray) ++ upT (points (t.take k)) = b at *
      have hc1' : (9223372036854775807 < b.size + 1) = False := eq_false (by omega)
      go_wp2_with fail
      go_ret
      rw [← HR.out]
      exact ⟨rfl, below_step HB.out hB.out⟩

/-! ### the reference's Parse -/
theorem slice_str (s : ByteArray) (a b : Nat) (h : a ≤ b) (hb : b ≤ s.size) (W : World) : (Instr.slice 9 (.string s) (some (.int .i64 (a : Nat))) (some (.int .i64 (b : Nat))) none).run Tryz.prog W = .ok (.string (s.extract a b)) W := by
  have := run_slice_string (P := Tryz.prog) 9 s .i64 .i64 (a : Int) (b : Int) Tryz.underlying9 (by omega) (by omega) (by omega) (w := W)
  rw [Int.toNat_natCast, Int.toNat_natCast] at this
  exact this
theorem ext_list (s : ByteArray) (a b : Nat) : (s.extract a b).data.toList = (s.data.toList.drop a).take (b - a) := by
  rw [ByteArray.data_extract, Array.toList_extract, List.extract_eq_take_drop]
theorem list_at (s : ByteArray) (k : Nat) (h : k < s.size) : s.data.toList[k]? = some s[k] := by
  rw [List.getElem?_eq_getElem (by simpa using h)]
  rfl
theorem u8_ne {c : UInt8} {n : UInt8} (h : c ≠ n) : ((c.toNat : Int) != (n.toNat : Int)) = true := by
  rw [bne_iff_ne]
  intro e
  exact h (UInt8.toNat_inj.1 (by omega))
set_option maxRecDepth 100000 in
set_option maxHeartbeats 8000000 in
theorem Parse_ref4 (s : ByteArray) (hz : s.size ≤ 140737488351232) (w : World) (hd : DomLaid w) :
    Calls Tryz.prog 59 #[.string s] w fun e w' => ∃ v', e = .returned (.tuple #[v', .int .i64 (parseP s).2]) ∧ RowI w' w.heap.size v' (parseP s).1 ∧ Below w.heap.size w w' := by
  by_cases hbig : 65536 < s.size
  · rw [parse_big hbig]
    clear hd
    go_enter Tryz.func59, Tryz.ntmps59
    go_wp2_with fail
    go_ret2
    exact ⟨_, rfl, RowI.nil _ _, Below.refl _ _⟩
  have hz2 : s.size ≤ 65536 := by omega
  have hsl : s.data.toList.length = s.size := by simp
  by_cases hlt : s.size < 2
  · rw [parse_ends hz2 (.inl hlt)]
    have hb : decide ((s.size : Int) < 2) = true := decide_eq_true (by omega)
    have hb2 : decide (s.size < 2) = true := decide_eq_true hlt
    clear hd
    go_enter Tryz.func59, Tryz.ntmps59
    go_wp2_with fail
    go_ret2
    exact ⟨_, rfl, RowI.nil _ _, Below.refl _ _⟩
  have hb : decide ((s.size : Int) < 2) = false := decide_eq_false (by omega)
  have hb2 : decide (s.size < 2) = false := decide_eq_false hlt
  have h0 : 0 < s.size := by omega
  have hw1 : IntKind.i64.wrap ((s.size : Int) - 1) = (s.size : Int) - 1 := IntWalk.i64_in _ (by omega)
  by_cases hc0 : s[0]'h0 = 123
  case neg =>
    rw [parse_ends hz2 (.inr (.inl (by rw [list_at s 0 h0]; intro e; injection e with e; exact hc0 e)))]
    have hq : (((s[0]'h0).toNat : Int) != 123) = true := u8_ne (n := 123) hc0
    clear hd
    go_enter Tryz.func59, Tryz.ntmps59
    go_wp2_with fail
    go_ret2
    exact ⟨_, rfl, RowI.nil _ _, Below.refl _ _⟩
  have hq0 : (((s[0]'h0).toNat : Int) != 123) = false := by rw [hc0]; rfl
  have hl0 : s.size - 1 < s.size := by omega
  have hl1 : 1 ≤ (s.size : Int) ∧ (s.size : Int) - 1 < (s.size : Int) := by omega
  by_cases hcl : s[s.size - 1]'hl0 = 125
  case neg =>
    rw [parse_ends hz2 (.inr (.inr (by rw [list_at s (s.size - 1) hl0]; intro e; injection e with e; exact hcl e)))]
    have hq : (((s[s.size - 1]'hl0).toNat : Int) != 125) = true := u8_ne (n := 125) hcl
    clear hd
    go_enter Tryz.func59, Tryz.ntmps59
    go_wp2_with fail
    go_ret2
    exact ⟨_, rfl, RowI.nil _ _, Below.refl _ _⟩
  have hql : (((s[s.size - 1]'hl0).toNat : Int) != 125) = false := by rw [hcl]; rfl
  obtain ⟨i0, hi0, hz0, hz1, hzz2⟩ := info_parts infoI
  have HD := Lib.hid hd
  obtain ⟨res, hres⟩ : ∃ res, parseP s = res := ⟨_, rfl⟩
  rw [hres]
  have HRES := Lib.hid hres
  have HC0 := Lib.hid hc0; have HCL := Lib.hid hcl
  clear hd hres hc0 hcl
  go_enter Tryz.func59, Tryz.ntmps59
  go_wp2_with fail
  go_loopw [4, 5, 6] (fun o f i wr => ∃ (k fr : Nat) (acc : List Int), i = .int .i64 k ∧ f = .int .i64 fr ∧ 1 ≤ k ∧ fr ≤ k ∧ k ≤ s.size ∧ acc.length ≤ k ∧ Hid (2 < s.size → Scan s k fr acc) ∧ Hid (s.size ≤ 2 → acc = []) ∧ Hid (RowI wr w.heap.size o acc) ∧ Hid (Below w.heap.size w wr))
    (fun _ _ i _ => s.size + 1 - (intOf i).toNat)
  case atStart => exact ⟨1, 1, [], rfl, rfl, Nat.le_refl _, Nat.le_refl _, by omega, Nat.zero_le _, Lib.hid (fun h => Scan.start h), Lib.hid (fun _ => rfl), Lib.hid (RowI.nil _ _), Lib.hid (Below.refl _ _)⟩
  case round =>
    obtain ⟨k, fr, acc, rfl, rfl, hk1, hfk, hk, hal, hS, hE, hO, hB⟩ := hrel
    obtain ⟨A0, c0, rfl, hcc0⟩ := hO.out.form
    have hsz := hB.out.size
    by_cases hgo : k < s.size ∧ 2 < s.size
    · obtain ⟨hks, h2⟩ := hgo
      have HS := Lib.hid (hS.out h2)
      have hkb : decide ((k : Int) < (s.size : Int)) = true := decide_eq_true (by omega)
      have hkb2 : decide (k < s.size) = true := decide_eq_true hks
      have hgb : decide ((s.size : Int) > 2) = true := decide_eq_true (by omega)
      have hgb2 : decide (2 < s.size) = true := decide_eq_true h2
      have hat := list_at s k hks
      have HAT := Lib.hid hat
      clear hat hS hE
      generalize hcq : s[k]'hks = c at *
      have HCQ := Lib.hid hcq
      by_cases hst : c ≠ 44 ∧ k + 1 ≠ s.size
      · have hq1 : ((c.toNat : Int) != 44) = true := u8_ne (n := 44) hst.1
        have hq2 : ((k : Int) != (s.size : Int) - 1) = true := by rw [bne_iff_ne]; omega
        have HN := Lib.hid (HS.out.pass (by omega) HAT.out hst.1)
        clear hst
        go_wp2_with fail
        refine ⟨⟨k + 1, fr, acc, by rw [Int.natCast_add]; rfl, rfl, by omega, by omega, by omega, by omega, Lib.hid (fun _ => HN.out), Lib.hid (fun q => absurd q (by omega)), hO, hB⟩, by simp [intOf]; omega⟩
      · have hend : s.data.toList[k]? = some 44 ∨ k + 1 = s.size := by
          by_cases h44 : c = 44
          · exact .inl (by rw [HAT.out, h44])
          · exact .inr (Classical.byContradiction fun hq => hst ⟨h44, hq⟩)
        have hq : (((c.toNat : Int) != 44) && ((k : Int) != (s.size : Int) - 1)) = false := by
          rcases hend with h | h
          · rw [HAT.out] at h
            injection h with h
            rw [h]
            rfl
          · rw [show ((k : Int) != (s.size : Int) - 1) = false by rw [bne_eq_false_iff_eq]; omega, Bool.and_false]
        have HEND := Lib.hid hend
        have HNX := Lib.hid (HS.out.next hks hend)
        have HBD := Lib.hid (HS.out.bad hz2 hks hend)
        rw [← ext_list] at HNX HBD
        have HNR := Lib.hid (number_ref4 (s.extract fr k) wr)
        have hsl2 := fun W => slice_str s fr k hfk (by omega) W
        obtain ⟨⟨x, b⟩, hxb⟩ : ∃ q, numR (s.extract fr k).data.toList = q := ⟨_, rfl⟩
        rw [hxb] at HNX HBD HNR
        generalize s.extract fr k = sub at *
        clear hst hend hxb HS
        dsimp only at HNX HBD HNR
        have hwk : IntKind.i64.wrap ((k : Int) + 1) = (k : Int) + 1 := IntWalk.i64_in _ (by omega)
        generalize hc44 : ((c.toNat : Int) != 44) = t44 at *
        cases t44 with
        | false =>
          cases b with
          | false =>
            have hr : res = ([], 20) := by rw [← HRES.out]; exact HBD.out rfl
            have HR := Lib.hid hr
            clear hr hq
            go_wp2_with fail
            refine HNR.out.mono ?_
            rintro e w2 ⟨rfl, hb2⟩
            go_wp2_with fail
            go_ret2
            rw [HR.out]
            exact ⟨_, rfl, RowI.nil _ _, below_step hB.out hb2⟩
          | true =>
            clear hq
            go_wp2_with fail
            refine HNR.out.mono ?_
            rintro e w2 ⟨rfl, hb2⟩
            have HO2 := Lib.hid (hO.out.below hb2); have HB2 := Lib.hid (below_step hB.out hb2)
            have hsz2 := HB2.out.size
            clear hb2
            go_wp2_with ((with_reducible refine gate_dst (N := 63) rfl ?_); refine wpList_append_own _ rfl _ _ 50 rfl w.heap.size 2 i0 _ 1 8 Tryz.underlying50 hi0 hz0 hz1 hzz2 rfl (by decide) _ _ _ rfl ((RowI.own HO2.out).alloc _) ⟨_, 0, none⟩ 1 1 [.int .i64 x] rfl rfl (cell_one_at _ _ (by simp) _ _) (by simp [Value.oneCell']) (by simp only [maxLen]; omega) (by omega) (by first | omega | (simp; omega)) ?_; intro v' w6 hown' hgrow _; obtain ⟨q1, q2⟩ := HO2.out.pushed hown' hgrow (by first | omega | (simp; omega)); have hQ1 := Lib.hid q1; have hQ2 := Lib.hid (HB2.out.trans q2); clear hown' hgrow q1 q2)
            refine ⟨⟨k + 1, k + 1, acc ++ [x], by rw [Int.natCast_add]; rfl, by rw [Int.natCast_add]; rfl, by omega, Nat.le_refl _, by omega, by rw [List.length_append, List.length_singleton]; omega, Lib.hid (fun _ => HNX.out), Lib.hid (fun q => absurd q (by omega)), hQ1, hQ2⟩, by simp [intOf]; omega⟩
        | true =>
          have hq2 : ((k : Int) != (s.size : Int) - 1) = false := by simpa using hq
          cases b with
          | false =>
            have hr : res = ([], 20) := by rw [← HRES.out]; exact HBD.out rfl
            have HR := Lib.hid hr
            clear hr hq
            go_wp2_with fail
            refine HNR.out.mono ?_
            rintro e w2 ⟨rfl, hb2⟩
            go_wp2_with fail
            go_ret2
            rw [HR.out]
            exact ⟨_, rfl, RowI.nil _ _, below_step hB.out hb2⟩
          | true =>
            clear hq
            go_wp2_with fail
            refine HNR.out.mono ?_
            rintro e w2 ⟨rfl, hb2⟩
            have HO2 := Lib.hid (hO.out.below hb2); have HB2 := Lib.hid (below_step hB.out hb2)
            have hsz2 := HB2.out.size
            clear hb2
            go_wp2_with ((with_reducible refine gate_dst (N := 63) rfl ?_); refine wpList_append_own _ rfl _ _ 50 rfl w.heap.size 2 i0 _ 1 8 Tryz.underlying50 hi0 hz0 hz1 hzz2 rfl (by decide) _ _ _ rfl ((RowI.own HO2.out).alloc _) ⟨_, 0, none⟩ 1 1 [.int .i64 x] rfl rfl (cell_one_at _ _ (by simp) _ _) (by simp [Value.oneCell']) (by simp only [maxLen]; omega) (by omega) (by first | omega | (simp; omega)) ?_; intro v' w6 hown' hgrow _; obtain ⟨q1, q2⟩ := HO2.out.pushed hown' hgrow (by first | omega | (simp; omega)); have hQ1 := Lib.hid q1; have hQ2 := Lib.hid (HB2.out.trans q2); clear hown' hgrow q1 q2)
            refine ⟨⟨k + 1, k + 1, acc ++ [x], by rw [Int.natCast_add]; rfl, by rw [Int.natCast_add]; rfl, by omega, Nat.le_refl _, by omega, by rw [List.length_append, List.length_singleton]; omega, Lib.hid (fun _ => HNX.out), Lib.hid (fun q => absurd q (by omega)), hQ1, hQ2⟩, by simp [intOf]; omega⟩
    · have hpa : checkT s (some acc) = res := by
        rw [← HRES.out]
        by_cases h2 : 2 < s.size
        · obtain rfl : k = s.size := by omega
          exact (hS.out h2).done hz2
        · rw [hE.out (by omega)]
          exact scan_small (by omega)
      have HPA := Lib.hid hpa
      have HDW := Lib.hid (HD.out.below hB.out)
      have HR := Lib.hid (Set_ref (v := .slice A0 acc.length c0) acc wr hO.out.lst)
      have hle := hB.out.size
      have hzz : k < s.size → s.size ≤ 2 := fun h => by omega
      clear hpa hS hE hgo
      by_cases hks : k < s.size
      · have hkb : decide ((k : Int) < (s.size : Int)) = true := decide_eq_true (by omega)
        have hkb2 : decide (k < s.size) = true := decide_eq_true hks
        have hgb2 : decide (2 < s.size) = false := decide_eq_false (by have := hzz hks; omega)
        have hgb3 : decide (2 < (s.size : Int)) = false := decide_eq_false (by have := hzz hks; omega)
        clear hzz
        cases hR : setS acc with
        | false =>
          rw [hR] at HR
          go_wp2_with fail
          refine HR.out.mono ?_
          rintro e w3 ⟨rfl, hb3⟩
          go_wp2_with fail
          go_ret2
          have : res = ([], 20) := by rw [← HPA.out]; unfold checkT; dsimp only; rw [if_neg (by rw [hR]; simp)]
          rw [this]
          exact ⟨_, rfl, RowI.nil _ _, below_step hB.out hb3⟩
        | true =>
          rw [hR] at HR
          go_wp2_with fail
          refine HR.out.mono ?_
          rintro e w3 ⟨rfl, hb3⟩
          have HT := Lib.hid (Text_ref4 (v := .slice A0 acc.length c0) acc w3 (hO.out.lst.below hb3) (HDW.out.below hb3))
          rw [asL_of hR] at HT
          have HB3 := Lib.hid (below_step hB.out hb3)
          have HO3 := Lib.hid (hO.out.below hb3)
          clear hb3
          by_cases hT : setT acc = s
          · have hres : res = (acc, 0) := by rw [← HPA.out]; unfold checkT; dsimp only; rw [if_pos ⟨hR, hT⟩]
            have HRS := Lib.hid hres
            rw [hT] at HT
            clear hres hT
            go_wp2_with fail
            refine HT.out.mono ?_
            rintro e w4 ⟨rfl, hb4⟩
            go_wp2_with fail
            go_ret2
            rw [HRS.out]
            exact ⟨_, rfl, HO3.out.below hb4, below_step HB3.out hb4⟩
          · have hres : res = ([], 20) := by rw [← HPA.out]; unfold checkT; dsimp only; rw [if_neg (by rintro ⟨_, h⟩; exact hT h)]
            have HRS := Lib.hid hres
            have hT' : ((setT acc).toList == s.toList) = false := by rw [str_eqB, decide_eq_false hT]
            clear hres
            generalize setT acc = T at *
            go_wp2_with fail
            refine HT.out.mono ?_
            rintro e w4 ⟨rfl, hb4⟩
            go_wp2_with fail
            go_ret2
            rw [HRS.out]
            exact ⟨_, rfl, RowI.nil _ _, below_step HB3.out hb4⟩
      · have hkb : decide ((k : Int) < (s.size : Int)) = false := decide_eq_false (by omega)
        have hkb2 : decide (k < s.size) = false := decide_eq_false hks
        clear hzz
        cases hR : setS acc with
        | false =>
          rw [hR] at HR
          go_wp2_with fail
          refine HR.out.mono ?_
          rintro e w3 ⟨rfl, hb3⟩
          go_wp2_with fail
          go_ret2
          have : res = ([], 20) := by rw [← HPA.out]; unfold checkT; dsimp only; rw [if_neg (by rw [hR]; simp)]
          rw [this]
          exact ⟨_, rfl, RowI.nil _ _, below_step hB.out hb3⟩
        | true =>
          rw [hR] at HR
          go_wp2_with fail
          refine HR.out.mono ?_
          rintro e w3 ⟨rfl, hb3⟩
          have HT := Lib.hid (Text_ref4 (v := .slice A0 acc.length c0) acc w3 (hO.out.lst.below hb3) (HDW.out.below hb3))
          rw [asL_of hR] at HT
          have HB3 := Lib.hid (below_step hB.out hb3)
          have HO3 := Lib.hid (hO.out.below hb3)
          clear hb3
          by_cases hT : setT acc = s
          · have hres : res = (acc, 0) := by rw [← HPA.out]; unfold checkT; dsimp only; rw [if_pos ⟨hR, hT⟩]
            have HRS := Lib.hid hres
            rw [hT] at HT
            clear hres hT
            go_wp2_with fail
            refine HT.out.mono ?_
            rintro e w4 ⟨rfl, hb4⟩
            go_wp2_with fail
            go_ret2
            rw [HRS.out]
            exact ⟨_, rfl, HO3.out.below hb4, below_step HB3.out hb4⟩
          · have hres : res = ([], 20) := by rw [← HPA.out]; unfold checkT; dsimp only; rw [if_neg (by rintro ⟨_, h⟩; exact hT h)]
            have HRS := Lib.hid hres
            have hT' : ((setT acc).toList == s.toList) = false := by rw [str_eqB, decide_eq_false hT]
            clear hres
            generalize setT acc = T at *
            go_wp2_with fail
            refine HT.out.mono ?_
            rintro e w4 ⟨rfl, hb4⟩
            go_wp2_with fail
            go_ret2
            rw [HRS.out]
            exact ⟨_, rfl, RowI.nil _ _, below_step HB3.out hb4⟩

end Go.Proofs.YtjeomiooheoegaaGreatDoor.PD

namespace Go.Proofs.YtjeomiooheoegaaGreatDoor.PD
open Go.RowKit Go.Proofs.YtjeomiooheoegaaGreatDoorW.PrintWords Go.Proofs.YtjeomiooheoegaaGreatDoorW.PrintLast Go.Proofs.YtjeomiooheoegaaGreatDoorW.PrintMore
set_option linter.unusedVariables false
set_option linter.unusedSimpArgs false
/-! ### whole numbers: lent lists -/
theorem cut_cap {P : Program} (t e : TypeId) (kh : IntKind) {i : TypeInfo} (ht : P.underlying t = some (.slice e)) (hi : P.info? e = some i) (A : Option Addr) (n c : Nat) (j : Int) (h0 : 0 ≤ j) (hm : j ≤ c) :
    ∀ W : World, (Instr.slice t (.slice A n c) none (some (.int kh j)) none).run P W = .ok (.slice A j.toNat c) W := by
  intro W
  have hel : P.elem t = e := by simp [Program.elem, ht]
  have hu : P.underlying t = some (.slice (P.elem t)) := by rw [hel]; exact ht
  have ha : (A.map fun x => x.add 0) = A := by cases A <;> simp [Addr.add]
  rw [run_slice_h W t A n c hu kh j h0 (by omega), hel]
  simp [sizeOf, typeInfo, hi, sliced, Result.andThen, ha]
/-- whole numbers with the mark behind them -/
def LentI (w : World) (base : Nat) (v : Value) (l : List Int) : Prop := ∃ A c, v = .slice A l.length c ∧ Kd.R (Kd.int .i64) 2 w base (fun _ => True) (.slice A (l.length + 1) c) (l ++ [7777])
theorem LentI.below {w w' : World} {base : Nat} {v : Value} {l : List Int} (h : LentI w base v l) (hb : Below w.heap.size w w') : LentI w' base v l := by
  obtain ⟨A, c, e, hr⟩ := h
  exact ⟨A, c, e, Kd.R_below hr hb⟩
theorem LentI.full {w : World} {base : Nat} {A : Option Addr} {c : Nat} {l : List Int} (h : Kd.R (Kd.int .i64) 2 w base (fun _ => True) (.slice A (l.length + 1) c) (l ++ [7777])) :
    l.length + 1 ≤ c ∧ Kd.C (Kd.int .i64) w A (l ++ [7777]).length (l ++ [7777]) ∧ Kd.C (Kd.int .i64) w A l.length l := by
  obtain ⟨_, hc, hC⟩ := Kd.R_reads' h
  have hx' := Kd.C_take (m := l.length) hC (by simp)
  rw [List.take_left' rfl] at hx'
  exact ⟨hc, hC, hx'⟩
theorem LentI.lst {w : World} {base : Nat} {v : Value} {l : List Int} (h : LentI w base v l) : LstI w v l := by
  obtain ⟨A, c, e, hr⟩ := h
  obtain ⟨hc, _, hC⟩ := LentI.full hr
  exact ⟨A, c, e, hC, by omega⟩
set_option maxRecDepth 100000 in
set_option maxHeartbeats 4000000 in
theorem LentI_ref {v : Value} (l : List Int) (w : World) (h : LstI w v l) (hl : l.length ≤ 17592186044000) :
    Calls Tryz.prog 49 #[v] w fun e w' => ∃ v', e = .returned v' ∧ LentI w' w.heap.size v' l ∧ Below w.heap.size w w' := by
  obtain ⟨i0, hi0, hz0, hz1, hz2⟩ := info_parts infoI
  obtain ⟨A, c, rfl, hC, hc⟩ := h
  have HC := Lib.hid hC
  clear hC
  generalize hm : l.length = m at *
  have HL := Lib.hid hm
  clear hm
  go_enter Tryz.func49, Tryz.ntmps49
  go_upto_region 3 with ((with_reducible refine gate_builtin (b := .append) (xs := #[.tmp 4, .tmp 5]) rfl ?_); at_builtin; refine Kd.R_append_rows (Kd.int .i64) (w0 := w) w.heap.size rfl (.tmp 4) (.tmp 5) 50 2 (.int .i64 0) 8 rfl Tryz.underlying50 infoI rfl (by decide) (by omega) (.slice none 0 0) ([] : List Int) l _ _ _ (fun _ => True) (fun _ => False) rfl rfl (Kd.R_nil _ _ _ _ (fun _ => True)) HC.out (fun _ _ h => h) (fun _ h => h.elim) (fun _ _ => trivial) (Below.refl _ _) (Nat.le_refl _) (by simp; omega) ?_; intro v4 w2 hO2 hb2 _ _; rw [List.nil_append] at hO2; obtain ⟨A4, c4, hv4⟩ := Kd.R_slice hO2; subst hv4; have HO2 := Lib.hid hO2; have HB2 := Lib.hid hb2; clear hO2 hb2)
  have hle := HB2.out.size
  rw [HL.out]
  go_wp2_with ((with_reducible refine gate_builtin (b := .append) (xs := #[.tmp 7, .tmp 8]) rfl ?_); at_builtin; refine Kd.R_append (Kd.int .i64) (w0 := w) w.heap.size rfl (.tmp 7) (.tmp 8) 50 2 (.int .i64 0) 8 rfl Tryz.underlying50 infoI rfl (by decide) (by omega) _ l 7777 [.int .i64 7777] (fun _ => True) (fun _ => False) rfl rfl rfl (fun _ hk => hk.elim) (fun _ _ => trivial) (by have := HO2.out; rw [HL.out] at this; exact this) HB2.out hle (by rw [HL.out]; omega) ?_; intro v5 w5 hO5 hb5 _ _; obtain ⟨A5, c5, hv5⟩ := Kd.R_slice hO5; rw [List.length_append, List.length_singleton, HL.out] at hv5; subst hv5; have hcap := (Kd.R_reads' hO5).2.1; have HO5 := Lib.hid hO5; have HB5 := Lib.hid hb5; clear hO5 hb5; have hcut := fun W => cut_cap (P := Tryz.prog) 50 2 .i64 Tryz.underlying50 hi0 A5 (m + 1) c5 (m : Nat) (by omega) (by omega) W; simp only [Int.toNat_natCast] at hcut)
  go_ret
  refine ⟨_, rfl, ⟨A5, c5, by rw [HL.out]; rfl, ?_⟩, HB5.out⟩
  rw [HL.out]
  exact HO5.out
theorem rd_snoc (l : List Int) (d : Int) : rd (l ++ [d]) l.length = d := by
  unfold rd
  rw [Int.toNat_natCast, List.getD_eq_getElem?_getD, List.getElem?_append_right (Nat.le_refl _), Nat.sub_self]
  rfl
set_option maxRecDepth 100000 in
set_option maxHeartbeats 4000000 in
theorem KeptI_ref {v v1 : Value} {base : Nat} (l : List Int) (w : World) (hx : LentI w base v l) (h1 : LstI w v1 l) (hl : l.length ≤ 17592186044000) :
    Calls Tryz.prog 70 #[v, v1] w fun e w' => e = .returned (.bool true) ∧ Below w.heap.size w w' := by
  obtain ⟨A, c, rfl, hrow⟩ := hx
  obtain ⟨A1, c1, rfl, hr1, hc1⟩ := h1
  obtain ⟨hc, hx, hx'⟩ := LentI.full hrow
  obtain ⟨ad, eA, hcell⟩ := Kd.at_int hx (l.length : Int) (by omega) (by simp; omega)
  rw [rd_snoc, Int.toNat_natCast] at hcell
  subst eA
  obtain ⟨i0, hi0, _, _, _⟩ := info_parts infoI
  have hcut := cut_cap (P := Tryz.prog) 50 2 .i64 Tryz.underlying50 hi0 (some ad) l.length c ((l.length : Int) + 1) (by omega) (by omega)
  have e1 : ((l.length : Int) + 1).toNat = l.length + 1 := by omega
  rw [e1] at hcut
  have hw : IntKind.i64.wrap ((l.length : Int) + 1) = (l.length : Int) + 1 := IntWalk.i64_in _ (by omega)
  have HS := Lib.hid (jigsawref01_Same.calls _ _ c l _ c1 l true w hx' (by omega) hr1 hc1 (same_f l (by omega)))
  clear hx hx' hr1 e1 hrow
  go_enter Tryz.func70, Tryz.ntmps70
  go_wp2_with fail
  refine HS.out.mono ?_
  rintro e w' ⟨rfl, ⟨nd, rfl⟩⟩
  go_wp2_with fail
  go_ret
  exact ⟨rfl, Drawn0.below ⟨⟨_, rfl⟩⟩⟩

end Go.Proofs.YtjeomiooheoegaaGreatDoor.PD

namespace Go.Proofs.YtjeomiooheoegaaGreatDoor.PD
open Go.RowKit Go.Proofs.YtjeomiooheoegaaGreatDoorW.PrintWords Go.Proofs.YtjeomiooheoegaaGreatDoorW.PrintLast Go.Proofs.YtjeomiooheoegaaGreatDoorW.PrintMore
set_option linter.unusedVariables false
set_option linter.unusedSimpArgs false
/-! ### SetsReckons -/
theorem indexIS_at (g m c : Nat) (i : Nat) (h : i < m) (W : World) : (Instr.indexAt 50 (.slice (some ⟨g, 0, none⟩) m c) (.int .i64 (i : Nat))).run Tryz.prog W = .ok (.pointer (some ⟨g, i, none⟩)) W := by
  have := indexI_at ⟨g, 0, none⟩ m c (i : Int) (by omega) W
  rw [Int.toNat_natCast, add_zero_off] at this
  exact this
/-- a world in which but one block may have turned -/
structure OneG (g : Nat) (W W' : World) : Prop where
  os : W'.os = W.os
  tape : W'.tape = W.tape
  output : W'.output = W.output
  size : W'.heap.size = W.heap.size
  other : ∀ k, k ≠ g → W'.heap[k]? = W.heap[k]?
theorem OneG.refl (g : Nat) (W : World) : OneG g W W := ⟨rfl, rfl, rfl, rfl, fun _ _ => rfl⟩
theorem OneG.set {g : Nat} {W W' : World} (h : OneG g W W') (i : Nat) (u : Value) : OneG g W (W'.setCell ⟨g, i, none⟩ u) :=
  ⟨h.os, h.tape, h.output, by simp [h.size], fun k hk => (Below.heap_setCell W' ⟨g, i, none⟩ u k hk).trans (h.other k hk)⟩
theorem OneG.below {g base : Nat} {W W' : World} (h : OneG g W W') (hb : base ≤ g) : Below base W W' := ⟨h.os, h.tape, h.output, Nat.le_of_eq h.size.symm, fun k hk => h.other k (by omega)⟩
/-- a row's block, whatever it holds -/
def BlkI (W : World) (g n : Nat) : Prop := ∃ cur, W.heap[g]? = some (.cells cur 2 (0, 0)) ∧ n ≤ cur.size
theorem BlkI.set {W : World} {g n : Nat} (h : BlkI W g n) (i : Nat) (u : Value) : BlkI (W.setCell ⟨g, i, none⟩ u) g n := by
  obtain ⟨cur, h1, h2⟩ := h
  exact ⟨_, blk_set h1 i u, by simpa using h2⟩
theorem BlkI.at {W : World} {g n : Nat} (h : BlkI W g n) (i : Nat) (hi : i < n) : (∃ u, W.cell? ⟨g, i, none⟩ = some u) ∧ W.frozen? ⟨g, i, none⟩ = false := by
  obtain ⟨cur, h1, h2⟩ := h
  exact ⟨⟨cur[i]'(by omega), (blk_cell h1 i).trans (Array.getElem?_eq_getElem (by omega))⟩, blk_frozen h1 i⟩
theorem RowI.blk {W : World} {base n c : Nat} {A : Option Addr} {l : List Int} (h : RowI W base (.slice A n c) l) (hn : 0 < n) : ∃ g, A = some ⟨g, 0, none⟩ ∧ base ≤ g ∧ BlkI W g n := by
  have ho := h.own
  rcases ho.2 with ⟨hv, h0⟩ | ⟨g, cap, cur, hv, hbg, hg, hnc, hcm, hcs, hcur⟩
  · injection hv with _ h1 _
    omega
  · injection hv with hA h1 h2
    exact ⟨g, hA, hbg, cur, hg, by rw [hcs]; omega⟩
set_option maxRecDepth 100000 in
set_option maxHeartbeats 16000000 in
theorem reckons_calls {v1 v2 : Value} (a b : List Int) (x : Int) (s : ByteArray) (w : World) (h1 : LstI w v1 a) (h2 : LstI w v2 b) (ha : a.length ≤ 17592186044000) (hb : b.length ≤ 17592186044000) (hz : s.size ≤ 140737488351232) (hd : DomLaid w) :
    Calls Tryz.prog 9 #[v1, v2, .int .i64 x, .string s] w fun e w' => e = .returned (.bool true) ∧ Below w.heap.size w w' := by
  have H1 := Lib.hid (fun W (h : Below w.heap.size w W) => h1.below h)
  have H2 := Lib.hid (fun W (h : Below w.heap.size w W) => h2.below h)
  have HD := Lib.hid (fun W (h : Below w.heap.size w W) => hd.below h)
  have HKN := Lib.hid (fun W (h : Below w.heap.size w W) => known_calls W (HD.out W h))
  have HLA := Lib.hid (LentI_ref a w h1 ha)
  have HLB := Lib.hid (fun W (h : Below w.heap.size w W) => LentI_ref b W (H2.out W h) hb)
  have HPP := Lib.hid (fun W (h : Below w.heap.size w W) => Parse_calls s hz W (HD.out W h))
  have HPR := Lib.hid (fun W (h : Below w.heap.size w W) => Parse_ref4 s hz W (HD.out W h))
  have HRJ := Lib.hid (fun W (h : Below w.heap.size w W) => Join_ref a b W (H1.out W h) (H2.out W h))
  have HRM := Lib.hid (fun W (h : Below w.heap.size w W) => Meet_ref a b W (H1.out W h) (H2.out W h))
  have HRL := Lib.hid (fun W (h : Below w.heap.size w W) => Less_ref a b W (H1.out W h) (H2.out W h))
  have HRY := Lib.hid (fun W (h : Below w.heap.size w W) => Sym_ref a b W (H1.out W h) (H2.out W h))
  have HRT := Lib.hid (fun W (h : Below w.heap.size w W) => Text_ref4 a W (H1.out W h) (HD.out W h))
  have HRC := Lib.hid (fun W (h : Below w.heap.size w W) => Cmp_ref a b W (H1.out W h) (H2.out W h))
  have HRI := Lib.hid (fun W (h : Below w.heap.size w W) => In_ref x a W (H1.out W h))
  have HRS := Lib.hid (fun W (h : Below w.heap.size w W) => Sub_ref a b W (H1.out W h) (H2.out W h))
  have HRX := Lib.hid (fun W (h : Below w.heap.size w W) => Set_ref a W (H1.out W h))
  have HSAM := Lib.hid (fun W u1 u2 l (g1 : LstI W u1 l) (g2 : LstI W u2 l) (hl : l.length ≤ 200) => SameI_ref l W g1 g2 (by omega))
  have hpl : (parseP s).1.length ≤ 64 := by
    by_cases q : s.size ≤ 65536
    · rcases parse_cases q with ⟨l, r1, _, r2⟩ | ⟨_, r2⟩
      · rw [r2]; exact set_len r1
      · rw [r2]; exact Nat.zero_le _
    · rw [parse_big (by omega)]; exact Nat.zero_le _
  have HPL := Lib.hid hpl
  have hjl : (joinS a b).length ≤ 128 := pickS_len _ a b
  have hml : (meetS a b).length ≤ 128 := pickS_len _ a b
  have hll : (lessI a b).length ≤ 128 := pickS_len _ a b
  have hyl : (symS a b).length ≤ 128 := pickS_len _ a b
  have HJL := Lib.hid hjl; have HML := Lib.hid hml; have HLL := Lib.hid hll; have HYL := Lib.hid hyl
  obtain ⟨A1, c1, e1⟩ := h1.form
  obtain ⟨A2, c2, e2⟩ := h2.form
  subst e1 e2
  have HLTA := Lib.hid ha; have HLTB := Lib.hid hb
  clear h1 h2 ha hb hz hd hpl hjl hml hll hyl
  go_enter Tryz.func9, Tryz.ntmps9
  go_wp2_with fail
  refine HLA.out.mono ?_
  rintro e w1 ⟨va, rfl, hva, hb1⟩
  have HB := Lib.hid hb1
  have HVA := Lib.hid hva
  clear hb1 hva HLA
  obtain ⟨Aa, ca, ea⟩ := HVA.out.lst.form
  subst ea
  go_wp2_with fail
  refine (HLB.out _ HB.out).mono ?_
  rintro e w2 ⟨vb, rfl, hvb, hb2⟩
  obtain ⟨Ab, cb, eb⟩ := hvb.lst.form
  subst eb
  replace HVA := Lib.hid (fun W (h : Below w2.heap.size w2 W) => (HVA.out.below hb2).below h)
  have HVB := Lib.hid (fun W (h : Below w2.heap.size w2 W) => hvb.below h)
  replace HB := Lib.hid (fun W (h : Below w2.heap.size w2 W) => below_step (below_step HB.out hb2) h)
  have HE := Lib.hid (Below.refl w2.heap.size w2)
  have HSZ := Lib.hid (Nat.le_refl w2.heap.size)
  clear hb2 hvb HLB
  obtain ⟨Bc, hBc⟩ : ∃ n, n = w2.heap.size := ⟨_, rfl⟩
  go_wp2_with fail
  refine (Join_calls a b _ (HVA.out _ HE.out).lst (HVB.out _ HE.out).lst).mono ?_
  rintro e w3 ⟨vc, rfl, ho3, hb3⟩
  replace HE := Lib.hid (below_step HE.out hb3)
  have HVc := Lib.hid ho3.lst
  obtain ⟨Ac, cc, ccc, ec, -, ho3⟩ := ho3
  subst ec
  have HOc : Hid (RowI w3 Bc (.slice Ac (joinS a b).length ccc) (joinS a b)) := Lib.hid (by rw [hBc]; exact ho3)
  clear ho3
  have HGc : Hid (∃ g, Bc ≤ g ∧ (0 < (joinS a b).length → Ac = some ⟨g, 0, none⟩ ∧ g < w3.heap.size)) := Lib.hid (by
    by_cases q : 0 < (joinS a b).length
    · obtain ⟨g, q1, q2, cur, q3, _⟩ := HOc.out.blk q
      exact ⟨g, q2, fun _ => ⟨q1, blk_lt q3⟩⟩
    · exact ⟨Bc, Nat.le_refl _, fun q2 => absurd q2 q⟩)
  have HSc := Lib.hid hBc
  clear hBc
  clear hb3
  obtain ⟨Bd, hBd⟩ : ∃ n, n = w3.heap.size := ⟨_, rfl⟩
  go_wp2_with fail
  refine (Meet_calls a b _ (HVA.out _ HE.out).lst (HVB.out _ HE.out).lst).mono ?_
  rintro e w4 ⟨vd, rfl, ho4, hb4⟩
  replace HE := Lib.hid (below_step HE.out hb4)
  replace HOc := Lib.hid (HOc.out.below hb4)
  replace HVc := Lib.hid (HVc.out.below hb4)
  have HVd := Lib.hid ho4.lst
  obtain ⟨Ad, cd, ccd, ed, -, ho4⟩ := ho4
  subst ed
  have HOd : Hid (RowI w4 Bd (.slice Ad (meetS a b).length ccd) (meetS a b)) := Lib.hid (by rw [hBd]; exact ho4)
  clear ho4
  have HSd := Lib.hid hBd
  clear hBd
  have HSZ34 := Lib.hid hb4.size
  clear hb4
  obtain ⟨Be, hBe⟩ : ∃ n, n = w4.heap.size := ⟨_, rfl⟩
  have HE4 := HE
  go_wp2_with fail
  refine (Less_calls a b _ (HVA.out _ HE.out).lst (HVB.out _ HE.out).lst).mono ?_
  rintro e w5 ⟨ve, rfl, ho5, hb5⟩
  replace HE := Lib.hid (below_step HE.out hb5)
  replace HOc := Lib.hid (HOc.out.below hb5)
  replace HVc := Lib.hid (HVc.out.below hb5)
  replace HOd := Lib.hid (HOd.out.below hb5)
  replace HVd := Lib.hid (HVd.out.below hb5)
  have HVe := Lib.hid ho5.lst
  obtain ⟨Ae, ce, cce, ee, -, ho5⟩ := ho5
  subst ee
  have HOe : Hid (RowI w5 Be (.slice Ae (lessI a b).length cce) (lessI a b)) := Lib.hid (by rw [hBe]; exact ho5)
  clear ho5
  have HGe : Hid (∃ g, Be ≤ g ∧ (0 < (lessI a b).length → Ae = some ⟨g, 0, none⟩ ∧ g < w5.heap.size)) := Lib.hid (by
    by_cases q : 0 < (lessI a b).length
    · obtain ⟨g, q1, q2, cur, q3, _⟩ := HOe.out.blk q
      exact ⟨g, q2, fun _ => ⟨q1, blk_lt q3⟩⟩
    · exact ⟨Be, Nat.le_refl _, fun q2 => absurd q2 q⟩)
  have HSe := Lib.hid hBe
  clear hBe
  have HSz := Lib.hid (show w2.heap.size ≤ Be from by rw [HSe.out]; exact HE4.out.size)
  clear hb5
  obtain ⟨Bf, hBf⟩ : ∃ n, n = w5.heap.size := ⟨_, rfl⟩
  go_wp2_with fail
  refine (Sym_calls a b _ (HVA.out _ HE.out).lst (HVB.out _ HE.out).lst).mono ?_
  rintro e w6 ⟨vf, rfl, ho6, hb6⟩
  replace HE := Lib.hid (below_step HE.out hb6)
  replace HOc := Lib.hid (HOc.out.below hb6)
  replace HVc := Lib.hid (HVc.out.below hb6)
  replace HOd := Lib.hid (HOd.out.below hb6)
  replace HVd := Lib.hid (HVd.out.below hb6)
  replace HOe := Lib.hid (HOe.out.below hb6)
  replace HVe := Lib.hid (HVe.out.below hb6)
  have HVf := Lib.hid ho6.lst
  obtain ⟨Af, cf, ccf, ef, -, ho6⟩ := ho6
  subst ef
  have HOf : Hid (RowI w6 Bf (.slice Af (symS a b).length ccf) (symS a b)) := Lib.hid (by rw [hBf]; exact ho6)
  clear ho6
  have HSf := Lib.hid hBf
  clear hBf
  clear hb6
  go_upto_region 7 with fail
  go_cut [66] from 37 (fun v66 wc => v66 = .bool false ∧ Hid (Below w6.heap.size w6 wc))
  case first =>
   as_aux_lemma =>
    have HF := Lib.hid (Below.refl w6.heap.size w6)
    go_wp2_with fail
    refine (HRJ.out _ (HB.out _ HE.out)).mono ?_
    rintro e w7 ⟨vr7, rfl, ho7, hb7⟩
    replace HE := Lib.hid (below_step HE.out hb7)
    replace HF := Lib.hid (below_step HF.out hb7)
    replace HOc := Lib.hid (HOc.out.below hb7)
    replace HVc := Lib.hid (HVc.out.below hb7)
    replace HOd := Lib.hid (HOd.out.below hb7)
    replace HVd := Lib.hid (HVd.out.below hb7)
    replace HOe := Lib.hid (HOe.out.below hb7)
    replace HVe := Lib.hid (HVe.out.below hb7)
    replace HOf := Lib.hid (HOf.out.below hb7)
    replace HVf := Lib.hid (HVf.out.below hb7)
    have HSMc := Lib.hid (HSAM.out _ _ _ (joinS a b) HVc.out ho7.lst (by have := HJL.out; omega))
    clear ho7
    clear hb7
    go_wp2_with fail
    refine (HSMc.out).mono ?_
    rintro e w8 ⟨rfl, hb8⟩
    replace HE := Lib.hid (below_step HE.out hb8)
    replace HF := Lib.hid (below_step HF.out hb8)
    replace HOc := Lib.hid (HOc.out.below hb8)
    replace HVc := Lib.hid (HVc.out.below hb8)
    replace HOd := Lib.hid (HOd.out.below hb8)
    replace HVd := Lib.hid (HVd.out.below hb8)
    replace HOe := Lib.hid (HOe.out.below hb8)
    replace HVe := Lib.hid (HVe.out.below hb8)
    replace HOf := Lib.hid (HOf.out.below hb8)
    replace HVf := Lib.hid (HVf.out.below hb8)
    clear hb8
    go_wp2_with fail
    refine (HRM.out _ (HB.out _ HE.out)).mono ?_
    rintro e w9 ⟨vr9, rfl, ho9, hb9⟩
    replace HE := Lib.hid (below_step HE.out hb9)
    replace HF := Lib.hid (below_step HF.out hb9)
    replace HOc := Lib.hid (HOc.out.below hb9)
    replace HVc := Lib.hid (HVc.out.below hb9)
    replace HOd := Lib.hid (HOd.out.below hb9)
    replace HVd := Lib.hid (HVd.out.below hb9)
    replace HOe := Lib.hid (HOe.out.below hb9)
    replace HVe := Lib.hid (HVe.out.below hb9)
    replace HOf := Lib.hid (HOf.out.below hb9)
    replace HVf := Lib.hid (HVf.out.below hb9)
    have HSMd := Lib.hid (HSAM.out _ _ _ (meetS a b) HVd.out ho9.lst (by have := HML.out; omega))
    clear ho9
    clear hb9
    go_wp2_with fail
    refine (HSMd.out).mono ?_
    rintro e w10 ⟨rfl, hb10⟩
    replace HE := Lib.hid (below_step HE.out hb10)
    replace HF := Lib.hid (below_step HF.out hb10)
    replace HOc := Lib.hid (HOc.out.below hb10)
    replace HVc := Lib.hid (HVc.out.below hb10)
    replace HOd := Lib.hid (HOd.out.below hb10)
    replace HVd := Lib.hid (HVd.out.below hb10)
    replace HOe := Lib.hid (HOe.out.below hb10)
    replace HVe := Lib.hid (HVe.out.below hb10)
    replace HOf := Lib.hid (HOf.out.below hb10)
    replace HVf := Lib.hid (HVf.out.below hb10)
    clear hb10
    go_wp2_with fail
    refine (HRL.out _ (HB.out _ HE.out)).mono ?_
    rintro e w11 ⟨vr11, rfl, ho11, hb11⟩
    replace HE := Lib.hid (below_step HE.out hb11)
    replace HF := Lib.hid (below_step HF.out hb11)
    replace HOc := Lib.hid (HOc.out.below hb11)
    replace HVc := Lib.hid (HVc.out.below hb11)
    replace HOd := Lib.hid (HOd.out.below hb11)
    replace HVd := Lib.hid (HVd.out.below hb11)
    replace HOe := Lib.hid (HOe.out.below hb11)
    replace HVe := Lib.hid (HVe.out.below hb11)
    replace HOf := Lib.hid (HOf.out.below hb11)
    replace HVf := Lib.hid (HVf.out.below hb11)
    have HSMe := Lib.hid (HSAM.out _ _ _ (lessI a b) HVe.out ho11.lst (by have := HLL.out; omega))
    clear ho11
    clear hb11
    go_wp2_with fail
    refine (HSMe.out).mono ?_
    rintro e w12 ⟨rfl, hb12⟩
    replace HE := Lib.hid (below_step HE.out hb12)
    replace HF := Lib.hid (below_step HF.out hb12)
    replace HOc := Lib.hid (HOc.out.below hb12)
    replace HVc := Lib.hid (HVc.out.below hb12)
    replace HOd := Lib.hid (HOd.out.below hb12)
    replace HVd := Lib.hid (HVd.out.below hb12)
    replace HOe := Lib.hid (HOe.out.below hb12)
    replace HVe := Lib.hid (HVe.out.below hb12)
    replace HOf := Lib.hid (HOf.out.below hb12)
    replace HVf := Lib.hid (HVf.out.below hb12)
    clear hb12
    go_wp2_with fail
    refine (HRY.out _ (HB.out _ HE.out)).mono ?_
    rintro e w13 ⟨vr13, rfl, ho13, hb13⟩
    replace HE := Lib.hid (below_step HE.out hb13)
    replace HF := Lib.hid (below_step HF.out hb13)
    replace HOc := Lib.hid (HOc.out.below hb13)
    replace HVc := Lib.hid (HVc.out.below hb13)
    replace HOd := Lib.hid (HOd.out.below hb13)
    replace HVd := Lib.hid (HVd.out.below hb13)
    replace HOe := Lib.hid (HOe.out.below hb13)
    replace HVe := Lib.hid (HVe.out.below hb13)
    replace HOf := Lib.hid (HOf.out.below hb13)
    replace HVf := Lib.hid (HVf.out.below hb13)
    have HSMf := Lib.hid (HSAM.out _ _ _ (symS a b) HVf.out ho13.lst (by have := HYL.out; omega))
    clear ho13
    clear hb13
    go_wp2_with fail
    refine (HSMf.out).mono ?_
    rintro e w14 ⟨rfl, hb14⟩
    replace HE := Lib.hid (below_step HE.out hb14)
    replace HF := Lib.hid (below_step HF.out hb14)
    replace HOc := Lib.hid (HOc.out.below hb14)
    replace HVc := Lib.hid (HVc.out.below hb14)
    replace HOd := Lib.hid (HOd.out.below hb14)
    replace HVd := Lib.hid (HVd.out.below hb14)
    replace HOe := Lib.hid (HOe.out.below hb14)
    replace HVe := Lib.hid (HVe.out.below hb14)
    replace HOf := Lib.hid (HOf.out.below hb14)
    replace HVf := Lib.hid (HVf.out.below hb14)
    clear hb14
    go_wp2_with fail
    go_meet
    case rel => exact ⟨rfl, HF⟩
  case rest =>
    obtain ⟨rfl, hF⟩ := hcut
    replace HE := Lib.hid (below_step HE.out hF.out)
    replace HOc := Lib.hid (HOc.out.below hF.out)
    replace HVc := Lib.hid (HVc.out.below hF.out)
    replace HOd := Lib.hid (HOd.out.below hF.out)
    replace HVd := Lib.hid (HVd.out.below hF.out)
    replace HOe := Lib.hid (HOe.out.below hF.out)
    replace HVe := Lib.hid (HVe.out.below hF.out)
    replace HOf := Lib.hid (HOf.out.below hF.out)
    replace HVf := Lib.hid (HVf.out.below hF.out)
    have HFW := hF
    clear hF
    obtain ⟨gc, hgc1, hgc2⟩ := HGc.out
    obtain ⟨ge, hge1, hge2⟩ := HGe.out
    have HGC := Lib.hid hgc2; have HGE := Lib.hid hge2; have HG1 := Lib.hid hgc1; have HG2 := Lib.hid hge1
    have HBE := Lib.hid (fun q : 0 < (lessI a b).length => (show BlkI wc ge (lessI a b).length from by
      obtain ⟨g', e1, _, hb⟩ := HOe.out.blk q
      rw [(hge2 q).1] at e1
      injection e1 with e1
      injection e1 with e1
      subst e1
      exact hb))
    have HBC := Lib.hid (fun q : 0 < (joinS a b).length => (show BlkI wc gc (joinS a b).length from by
      obtain ⟨g', e1, _, hb⟩ := HOc.out.blk q
      rw [(hgc2 q).1] at e1
      injection e1 with e1
      injection e1 with e1
      subst e1
      exact hb))
    have HNE := Lib.hid (fun q : 0 < (joinS a b).length => (show gc ≠ ge from by
      have := (hgc2 q).2
      have := HSZ34.out
      have := HSe.out
      omega))
    clear hgc1 hgc2 hge1 hge2 HGc HGe HOc HOd HOe HOf HVc HVd HVe HVf HFW HML HYL HRJ HRM HRL HRY HSd HSf HSZ34
    rename World => w14
    go_wp2_with fail
    go_loopw [15] (fun i wr => ∃ k : Nat, i = .int .i64 k ∧ k ≤ (joinS a b).length ∧ Hid (OneG gc w14 wr) ∧ Hid (0 < (joinS a b).length → BlkI wr gc (joinS a b).length) ∧ Hid (¬ 0 < (joinS a b).length → wr = w14))
      (fun i _ => (joinS a b).length - (intOf i).toNat)
    case atStart => exact ⟨0, rfl, Nat.zero_le _, Lib.hid (OneG.refl _ _), HBC, Lib.hid (fun _ => rfl)⟩
    case round =>
      obtain ⟨k, rfl, hk, hO, hK, hZ⟩ := hrel
      by_cases hkn : k < (joinS a b).length
      · have hq : 0 < (joinS a b).length := by omega
        have hA := (HGC.out hq).1
        obtain ⟨⟨u, x0⟩, f0⟩ := (hK.out hq).at k hkn
        subst hA
        have hix := fun W => indexIS_at gc (joinS a b).length cc k hkn W
        have hn128 := HJL.out
        have HK2 := Lib.hid ((hK.out hq).set k (.int .i64 99))
        generalize (joinS a b).length = n at *
        go_wp2_with fail
        refine ⟨⟨k + 1, by rw [Int.natCast_add]; rfl, by omega, Lib.hid (hO.out.set k _), Lib.hid (fun _ => HK2.out), Lib.hid (fun q => absurd (by omega) q)⟩, by simp [intOf]; omega⟩
      · obtain rfl : k = (joinS a b).length := by omega
        have hB1 : Below w2.heap.size w14 wr := hO.out.below (by have := HG1.out; have := HSc.out; omega)
        have HBE2 := Lib.hid (fun q : 0 < (lessI a b).length => (show BlkI wr ge (lessI a b).length from by
          by_cases q2 : 0 < (joinS a b).length
          · obtain ⟨cur, r1, r2⟩ := HBE.out q
            exact ⟨cur, (hO.out.other ge (Ne.symm (HNE.out q2))).trans r1, r2⟩
          · rw [hZ.out q2]
            exact HBE.out q))
        have HB1 := Lib.hid hB1
        clear hB1 hO hK hZ HBE HBC HNE HGC
        rename World => w15
        go_wp2_with fail
        go_loopw [16] (fun i wr => ∃ k : Nat, i = .int .i64 k ∧ k ≤ (lessI a b).length ∧ Hid (OneG ge w15 wr) ∧ Hid (0 < (lessI a b).length → BlkI wr ge (lessI a b).length))
          (fun i _ => (lessI a b).length - (intOf i).toNat)
        case atStart => exact ⟨0, rfl, Nat.zero_le _, Lib.hid (OneG.refl _ _), HBE2⟩
        case round =>
          obtain ⟨k, rfl, hk, hO, hK⟩ := hrel
          by_cases hkn : k < (lessI a b).length
          · have hq : 0 < (lessI a b).length := by omega
            have hA := (HGE.out hq).1
            obtain ⟨⟨u, x0⟩, f0⟩ := (hK.out hq).at k hkn
            subst hA
            have hix := fun W => indexIS_at ge (lessI a b).length ce k hkn W
            have HK2 := Lib.hid ((hK.out hq).set k (.int .i64 99))
            have hn128 := HLL.out
            generalize (lessI a b).length = n at *
            go_wp2_with fail
            refine ⟨⟨k + 1, by rw [Int.natCast_add]; rfl, by omega, Lib.hid (hO.out.set k _), Lib.hid (fun _ => HK2.out)⟩, by simp [intOf]; omega⟩
          · obtain rfl : k = (lessI a b).length := by omega
            replace HE := Lib.hid (HE.out.trans (HB1.out.trans (hO.out.below (by have := HG2.out; have := HSe.out; have := HSz.out; omega))))
            clear hO hK HBE2 HB1 HGE
            rename World => w16
            generalize hpe : (parseP s).2 = pe at *
            generalize hpl : (parseP s).1 = pl at *
            clear hpe hpl
            as_aux_lemma =>
              go_wp2_with fail
              refine (HPP.out _ (HB.out _ HE.out)).mono ?_
              rintro e w17 ⟨vg, rfl, hg17, hb17⟩
              replace HE := Lib.hid (below_step HE.out hb17)
              have HVG := Lib.hid hg17.lst
              obtain ⟨Ag, cg, eg⟩ := hg17.lst.form
              subst eg
              clear hg17
              clear hb17
              go_wp2_with fail
              refine (HPR.out _ (HB.out _ HE.out)).mono ?_
              rintro e w18 ⟨vi, rfl, hi18, hb18⟩
              replace HE := Lib.hid (below_step HE.out hb18)
              replace HVG := Lib.hid (HVG.out.below hb18)
              have HSM := Lib.hid (HSAM.out _ _ _ pl HVG.out hi18.lst (by have := HPL.out; omega))
              obtain ⟨Ai, ci, ei⟩ := hi18.lst.form
              subst ei
              clear hi18
              clear hb18
              go_wp2_with fail
              refine (HSM.out).mono ?_
              rintro e w19 ⟨rfl, hb19⟩
              replace HE := Lib.hid (below_step HE.out hb19)
              clear HSM HVG
              clear hb19
              have HTX := Lib.hid (Text_calls a _ (HVA.out _ HE.out).lst (HD.out _ (HB.out _ HE.out)))
              generalize setT (asL a) = ta at *
              go_wp2_with fail
              refine (HTX.out).mono ?_
              rintro e w20 ⟨rfl, hb20⟩
              replace HE := Lib.hid (below_step HE.out hb20)
              clear HTX
              clear hb20
              go_wp2_with fail
              refine (HRT.out _ (HB.out _ HE.out)).mono ?_
              rintro e w21 ⟨rfl, hb21⟩
              replace HE := Lib.hid (below_step HE.out hb21)
              clear hb21
              have HCX := Lib.hid (Cmp_calls a b _ (HVA.out _ HE.out).lst (HVB.out _ HE.out).lst)
              generalize cmpS a b = cp at *
              go_wp2_with fail
              refine (HCX.out).mono ?_
              rintro e w22 ⟨rfl, hb22⟩
              replace HE := Lib.hid (below_step HE.out hb22)
              clear HCX
              clear hb22
              go_wp2_with fail
              refine (HRC.out _ (HB.out _ HE.out)).mono ?_
              rintro e w23 ⟨rfl, hb23⟩
              replace HE := Lib.hid (below_step HE.out hb23)
              clear hb23
              have HIX := Lib.hid (In_calls x a _ (HVA.out _ HE.out).lst)
              generalize inS x a = bi at *
              go_wp2_with fail
              refine (HIX.out).mono ?_
              rintro e w24 ⟨rfl, hb24⟩
              replace HE := Lib.hid (below_step HE.out hb24)
              clear HIX
              clear hb24
              go_wp2_with fail
              refine (HRI.out _ (HB.out _ HE.out)).mono ?_
              rintro e w25 ⟨rfl, hb25⟩
              replace HE := Lib.hid (below_step HE.out hb25)
              clear hb25
              have HSX := Lib.hid (Sub_calls a b _ (HVA.out _ HE.out).lst (HVB.out _ HE.out).lst)
              generalize subS a b = bs at *
              go_wp2_with fail
              refine (HSX.out).mono ?_
              rintro e w26 ⟨rfl, hb26⟩
              replace HE := Lib.hid (below_step HE.out hb26)
              clear HSX
              clear hb26
              go_wp2_with fail
              refine (HRS.out _ (HB.out _ HE.out)).mono ?_
              rintro e w27 ⟨rfl, hb27⟩
              replace HE := Lib.hid (below_step HE.out hb27)
              clear hb27
              have HXX := Lib.hid (Set_calls a _ (HVA.out _ HE.out).lst)
              generalize setS a = bx at *
              go_wp2_with fail
              refine (HXX.out).mono ?_
              rintro e w28 ⟨rfl, hb28⟩
              replace HE := Lib.hid (below_step HE.out hb28)
              clear HXX
              clear hb28
              go_wp2_with fail
              refine (HRX.out _ (HB.out _ HE.out)).mono ?_
              rintro e w29 ⟨rfl, hb29⟩
              replace HE := Lib.hid (below_step HE.out hb29)
              clear hb29
              go_wp2_with fail
              refine (KeptI_ref a _ (HVA.out _ HE.out) (H1.out _ (HB.out _ HE.out)) HLTA.out).mono ?_
              rintro e w30 ⟨rfl, hb30⟩
              replace HE := Lib.hid (below_step HE.out hb30)
              clear hb30
              go_wp2_with fail
              refine (KeptI_ref b _ (HVB.out _ HE.out) (H2.out _ (HB.out _ HE.out)) HLTB.out).mono ?_
              rintro e w31 ⟨rfl, hb31⟩
              replace HE := Lib.hid (below_step HE.out hb31)
              clear hb31
              go_wp2_with fail
              refine (HKN.out _ (HB.out _ HE.out)).mono ?_
              rintro e w32 ⟨rfl, hb32⟩
              replace HE := Lib.hid (below_step HE.out hb32)
              clear hb32
              go_wp2_with fail
              go_ret
              exact ⟨rfl, HB.out _ HE.out⟩

end Go.Proofs.YtjeomiooheoegaaGreatDoor.PD
