/- Parts of the laws of sets and branch: functions of the program, each with the proof of what it answers; the conditions are those of each theorem. -/
import Derived.Test.YtjeomiooheoegaaGreatDoorC9
import Derived.Lib.SplitLaws
namespace Go.Proofs.YtjeomiooheoegaaGreatDoor.PD
open Go.RowKit Go.Proofs.YtjeomiooheoegaaGreatDoorW.PrintWords Go.Proofs.YtjeomiooheoegaaGreatDoorW.PrintLast Go.Proofs.YtjeomiooheoegaaGreatDoorW.PrintMore
set_option linter.unusedVariables false
set_option linter.unusedSimpArgs false
/-! ### a text of parts, parted at its commas -/
theorem index_first : ∀ (p r : List UInt8) (c : UInt8), c ∉ p → Lib.index (p ++ c :: r) [c] = p.length
  | [], r, c, _ => by
    rw [List.nil_append, Lib.index, if_pos (by simp [List.isPrefixOf])]
    rfl
  | b :: p, r, c, h => by
    have hb : b ≠ c := fun e => h (by simp [e])
    have hp : c ∉ p := fun e => h (by simp [e])
    have ih := index_first p r c hp
    rw [List.cons_append, Lib.index, if_neg (by simp [List.isPrefixOf, Ne.symm hb]), ih, if_neg (by simp), List.length_cons]
    omega
theorem split_parts (c : UInt8) : ∀ (ps : List (List UInt8)) (p : List UInt8), (∀ q ∈ p :: ps, c ∉ q) → Lib.splitK [c] 0 ps.length (p ++ Lib.joinTail [c] ps) = p :: ps
  | [], p, _ => by
    show [p ++ []] = [p]
    rw [List.append_nil]
  | q :: ps, p, h => by
    have e : Lib.joinTail [c] (q :: ps) = c :: (q ++ Lib.joinTail [c] ps) := by simp [Lib.joinTail]
    have hi := index_first p (q ++ Lib.joinTail [c] ps) c (h p (by simp))
    rw [e, List.length_cons, Lib.splitK, hi, if_neg (by simp)]
    rw [show ((p.length : Int)).toNat = p.length from Int.toNat_natCast _, Nat.add_zero, List.take_left' rfl]
    have e2 : (p ++ c :: (q ++ Lib.joinTail [c] ps)).drop (p.length + [c].length) = q ++ Lib.joinTail [c] ps := by
      rw [show p ++ c :: (q ++ Lib.joinTail [c] ps) = (p ++ [c]) ++ (q ++ Lib.joinTail [c] ps) by simp, List.drop_left' (by simp)]
    rw [e2, split_parts c ps q (fun x hx => h x (by simp at hx ⊢; right; exact hx))]
/-! ### the bytes of a number -/
theorem digits_ok : ∀ (m : Nat), ∀ c ∈ Lib.decDigits m, 48 ≤ c.toNat ∧ c.toNat ≤ 57 := by
  intro m
  induction m using Nat.strongRecOn with
  | ind m ih =>
    intro c hc
    unfold Lib.decDigits at hc
    have hd : ∀ q, q < 10 → 48 ≤ (UInt8.ofNat (48 + q)).toNat ∧ (UInt8.ofNat (48 + q)).toNat ≤ 57 := by
      intro q hq
      rw [UInt8.toNat_ofNat']
      omega
    split at hc
    · rw [List.mem_singleton] at hc
      subst hc
      exact hd m (by assumption)
    · rw [List.mem_append, List.mem_singleton] at hc
      rcases hc with hc | rfl
      · exact ih (m / 10) (by omega) c hc
      · exact hd (m % 10) (by omega)
theorem decB_ok (n : Int) : ∀ c ∈ (decB n).data.toList, c.toNat = 45 ∨ (48 ≤ c.toNat ∧ c.toNat ≤ 57) := by
  intro c hc
  have hc' : c ∈ Lib.itoa n := hc
  unfold Lib.itoa at hc'
  split at hc'
  · rw [List.mem_cons] at hc'
    rcases hc' with rfl | hc'
    · exact .inl rfl
    · exact .inr (digits_ok _ c hc')
  · exact .inr (digits_ok _ c hc')
theorem rngT_ok (r : S119) : ∀ c ∈ (rngT r).data.toList, c.toNat = 45 ∨ c.toNat = 46 ∨ (48 ≤ c.toNat ∧ c.toNat ≤ 57) := by
  intro c hc
  unfold rngT at hc
  split at hc
  · rw [ByteArray.data_append, ByteArray.data_append, Array.toList_append, Array.toList_append, List.mem_append, List.mem_append] at hc
    rcases hc with hc | hc | hc
    · rcases decB_ok _ c hc with h | h
      · exact .inl h
      · exact .inr (.inr h)
    · have : c = 46 := by simpa using hc
      subst this
      exact .inr (.inl rfl)
    · rcases decB_ok _ c hc with h | h
      · exact .inl h
      · exact .inr (.inr h)
  · rcases decB_ok _ c hc with h | h
    · exact .inl h
    · exact .inr (.inr h)
theorem rngT_comma (r : S119) : (44 : UInt8) ∉ (rngT r).data.toList := by
  intro h
  rcases rngT_ok r _ h with h | h | h
  · exact absurd h (by decide)
  · exact absurd h (by decide)
  · exact absurd h.1 (by decide)
/-! ### the parts of a list's text -/
theorem textT_list {r : S119} {t : List S119} : (textT (r :: t)).data.toList = (rngT r).data.toList ++ Lib.joinTail [44] ((partsT t).map (·.data.toList)) := by
  have e : textT (r :: t) = rngT r ++ restT t := rfl
  rw [e, ByteArray.data_append, Array.toList_append, restT_list]
theorem count_none (c : UInt8) : ∀ (p : List UInt8), c ∉ p → p.count c = 0 := fun p h => List.count_eq_zero.2 h
theorem count_tail (c : UInt8) : ∀ (ps : List (List UInt8)), (∀ q ∈ ps, c ∉ q) → (Lib.joinTail [c] ps).count c = ps.length
  | [], _ => rfl
  | q :: ps, h => by
    have e : Lib.joinTail [c] (q :: ps) = c :: (q ++ Lib.joinTail [c] ps) := by simp [Lib.joinTail]
    rw [e, List.count_cons_self, List.count_append, count_none c q (h q (by simp)), count_tail c ps (fun x hx => h x (by simp [hx])), List.length_cons]
    omega
theorem parts_nc {t : List S119} : ∀ q ∈ (partsT t).map (·.data.toList), (44 : UInt8) ∉ q := by
  intro q hq
  unfold partsT at hq
  rw [List.map_map, List.mem_map] at hq
  obtain ⟨r, _, rfl⟩ := hq
  exact rngT_comma r
/-- the text of a list, parted at its commas -/
theorem split_text (r : S119) (t : List S119) : Lib.splitB ⟨#[44]⟩ 0 (Lib.count (textT (r :: t)).data.toList [44]) (textT (r :: t)) = partsT (r :: t) := by
  have hc : Lib.count (textT (r :: t)).data.toList [44] = t.length := by
    rw [Lib.count_one, textT_list, List.count_append, count_none 44 _ (rngT_comma r), count_tail 44 _ parts_nc, List.length_map, partsT_len]
    omega
  rw [hc]
  have h := Lib.splitB_data ⟨#[44]⟩ 0 t.length (textT (r :: t))
  rw [textT_list] at h
  have h2 := split_parts 44 ((partsT t).map (·.data.toList)) (rngT r).data.toList (by
    intro q hq
    rw [List.mem_cons] at hq
    rcases hq with rfl | hq
    · exact rngT_comma r
    · exact parts_nc q hq)
  rw [List.length_map, partsT_len] at h2
  have h3 : (Lib.splitB ⟨#[44]⟩ 0 t.length (textT (r :: t))).map (·.data.toList) = (partsT (r :: t)).map (·.data.toList) := h.trans h2
  refine (List.map_inj_right (fun a b hab => ?_)).1 h3
  cases a; cases b
  congr 1
  exact Array.toList_inj.1 hab

end Go.Proofs.YtjeomiooheoegaaGreatDoor.PD
