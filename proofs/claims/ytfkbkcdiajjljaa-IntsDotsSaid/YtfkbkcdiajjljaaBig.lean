/- Whole numbers of any size as digits to the base 2^30: what the reference's functions on them answer, for digits that are right. -/
import Derived.Test.YtfkbkcdiajjljaaSpec
import Derived.Test.YtfkbkcdiajjljaaPAx6
import Derived.Test.YtfkbkcdiajjljaaPAx7
set_option linter.unusedVariables false
namespace Go.Proofs.Ytfkbkcdiajjljaa.Spec
open Go.RowKit Go.Proofs.Ytfkbkcdiajjljaa.PA Go.Proofs.YtfkbkcdiajjljaaW.PrintWords

/-- the base, its powers -/
def bp (n : Nat) : Int := 1073741824 ^ n
theorem bp_zero : bp 0 = 1 := rfl
theorem bp_succ (n : Nat) : bp (n + 1) = bp n * 1073741824 := Int.pow_succ _ _
theorem bp_pos (n : Nat) : 0 < bp n := Int.pow_pos (by decide)
theorem bp_add (m n : Nat) : bp (m + n) = bp m * bp n := Int.pow_add _ _ _
theorem bp_le {m n : Nat} (h : m ≤ n) : bp m ≤ bp n := by
  obtain ⟨d, rfl⟩ : ∃ d, n = m + d := ⟨n - m, by omega⟩
  rw [bp_add]
  have := bp_pos m
  have h2 := bp_pos d
  have : bp m * 1 ≤ bp m * bp d := Int.mul_le_mul_of_nonneg_left (by omega) (by omega)
  omega

def val : List Int → Int
  | [] => 0
  | d :: ds => d + 1073741824 * val ds
def digs (l : List Int) : Prop := ∀ d ∈ l, 0 ≤ d ∧ d < 1073741824
/-- no digit above that is 0 -/
def norm (l : List Int) : Prop := ∀ n, l.length = n + 1 → rd l n ≠ 0
def sv (m : Bool) (l : List Int) : Int := if m then - val l else val l

theorem val_append (xs ys : List Int) : val (xs ++ ys) = val xs + bp xs.length * val ys := by
  induction xs with
  | nil => simp [val, bp_zero]
  | cons x xs ih =>
    simp only [List.cons_append, val, ih, List.length_cons, bp_succ, Int.mul_add]
    rw [Int.mul_comm (bp xs.length) 1073741824, Int.mul_assoc]
    omega
theorem val_snoc (xs : List Int) (d : Int) : val (xs ++ [d]) = val xs + bp xs.length * d := by
  rw [val_append]; simp [val]
theorem val_take_drop (l : List Int) (n : Nat) (h : n ≤ l.length) : val l = val (l.take n) + bp n * val (l.drop n) := by
  have := val_append (l.take n) (l.drop n)
  rw [List.take_append_drop, List.length_take, Nat.min_eq_left h] at this
  exact this
theorem digs_append {xs ys : List Int} (h : digs xs) (k : digs ys) : digs (xs ++ ys) := fun d hd => by
  rcases List.mem_append.1 hd with h' | h'
  · exact h d h'
  · exact k d h'
theorem digs_one {d : Int} (h : 0 ≤ d ∧ d < 1073741824) : digs [d] := fun x hx => by
  rw [List.mem_singleton] at hx; subst hx; exact h
theorem digs_take {l : List Int} (h : digs l) (n : Nat) : digs (l.take n) := fun d hd => h d (List.mem_of_mem_take hd)
theorem digs_drop {l : List Int} (h : digs l) (n : Nat) : digs (l.drop n) := fun d hd => h d (List.mem_of_mem_drop hd)
theorem digs_rd {l : List Int} (h : digs l) (i : Int) : 0 ≤ rd l i ∧ rd l i < 1073741824 := by
  unfold rd
  by_cases hi : i.toNat < l.length
  · rw [List.getD_eq_getElem?_getD, List.getElem?_eq_getElem hi]
    exact h _ (List.getElem_mem hi)
  · rw [List.getD_eq_getElem?_getD, List.getElem?_eq_none (by omega)]; simp
theorem digs_nil : digs [] := fun d hd => by cases hd
theorem val_bound {l : List Int} (h : digs l) : 0 ≤ val l ∧ val l < bp l.length := by
  induction l with
  | nil => simp [val, bp_zero]
  | cons d ds ih =>
    have h1 := ih (fun x hx => h x (List.mem_cons_of_mem _ hx))
    have h2 := h d (List.mem_cons_self ..)
    simp only [val, List.length_cons, bp_succ]
    omega
theorem rd_snoc (l : List Int) (d : Int) : rd (l ++ [d]) l.length = d := by
  unfold rd
  rw [Int.toNat_natCast, List.getD_eq_getElem?_getD]
  simp
theorem take_succ_rd (l : List Int) (n : Nat) (h : n < l.length) : l.take (n + 1) = l.take n ++ [rd l n] := by
  rw [List.take_succ_eq_append_getElem h]
  congr 2
  unfold rd
  rw [List.getD_eq_getElem?_getD, Int.toNat_natCast, List.getElem?_eq_getElem h]
  rfl
theorem val_take_succ (l : List Int) (n : Nat) (h : n < l.length) : val (l.take (n + 1)) = val (l.take n) + bp n * rd l n := by
  rw [take_succ_rd l n h, val_snoc, List.length_take, Nat.min_eq_left (by omega)]
theorem norm_low {l : List Int} (hd : digs l) (hn : norm l) (n : Nat) (h : l.length = n + 1) : bp n ≤ val l := by
  have e : l = l.take (n + 1) := by rw [List.take_of_length_le (by omega)]
  have h1 := hn n h
  have h2 := digs_rd hd n
  have h3 := (val_bound (digs_take hd n)).1
  have h4 : bp n * 1 ≤ bp n * rd l n := Int.mul_le_mul_of_nonneg_left (by omega) (Int.le_of_lt (bp_pos n))
  rw [e, val_take_succ l n (by omega)]
  omega
theorem val_zero_norm {l : List Int} (hd : digs l) (hn : norm l) (h : val l = 0) : l = [] := by
  cases l with
  | nil => rfl
  | cons x xs =>
    have := norm_low hd hn xs.length rfl
    have := bp_pos xs.length
    omega

/-! ### digits 0 above are taken away -/
theorem w64_sub (n : Nat) (h : (n : Int) ≤ 4611686018427387904) : wrap64 ((n : Int) - 1) = (n : Int) - 1 := IntWalk.wrap64_in _ (by omega)
theorem trim_l0 (m : Bool) (l : List Int) (hl : l.length < 4611686018427387904) : ∀ n : Nat, n ≤ l.length → (∀ j : Nat, n ≤ j → rd l j = 0) →
    ∃ l', (∃ j, l' = l.take j) ∧ norm l' ∧ val l' = val (l.take n) ∧ Ev (fun k => jigsawref01_trim.l0 k n m l) (if l' = [] then false else m, l')
  | 0, _, _ => ⟨[], ⟨0, rfl⟩, fun n h => by simp at h, by simp, Ev.step (f := fun _ => some (false, [])) (fun k => by
      simp only [jigsawref01_trim.l0]
      rw [if_neg (by decide), if_pos (by decide), if_pos (by omega)]
      simp) (by simpa using Ev.now _)⟩
  | n + 1, hn, hz => by
    have e1 : wrap64 (((n + 1 : Nat) : Int) - 1) = (n : Int) := by rw [w64_sub _ (by omega)]; omega
    by_cases h0 : rd l n = 0
    · obtain ⟨l', ht, hno, hv, hE⟩ := trim_l0 m l hl n (by omega) (fun j hj => by
        by_cases e : j = n
        · subst e; exact h0
        · exact hz j (by omega))
      refine ⟨l', ht, hno, by rw [hv, val_take_succ l n (by omega), h0]; omega, Ev.step (fun k => ?_) hE⟩
      simp only [jigsawref01_trim.l0]
      rw [if_pos (by omega), e1, if_pos (by omega), if_pos (by omega), if_pos h0]
    · refine ⟨l.take (n + 1), ⟨_, rfl⟩, fun k hk => ?_, rfl, Ev.step (f := fun _ => some (m, l.take (n + 1))) (fun k => ?_) ?_⟩
      · rw [List.length_take, Nat.min_eq_left hn] at hk
        obtain rfl : k = n := by omega
        rw [take_succ_rd l k (by omega)]
        have hs := rd_snoc (l.take k) (rd l k)
        rw [List.length_take, Nat.min_eq_left (by omega)] at hs
        rw [hs]
        exact h0
      · simp only [jigsawref01_trim.l0]
        rw [if_pos (by omega), e1, if_pos (by omega), if_pos (by omega), if_neg h0, if_pos (by omega), if_pos (by omega)]
        simp only [Option.bind_some]
        rw [if_neg (by omega)]
        rfl
      · have hne : l.take (n + 1) ≠ [] := fun e => by
          have hlen : (l.take (n + 1)).length = n + 1 := by rw [List.length_take]; omega
          rw [e] at hlen
          simp at hlen
        rw [if_neg hne]
        exact Ev.now _
theorem rd_beyond (l : List Int) (j : Nat) (h : l.length ≤ j) : rd l j = 0 := by
  unfold rd
  rw [Int.toNat_natCast, List.getD_eq_getElem?_getD, List.getElem?_eq_none h]
  rfl
theorem trim_spec (m : Bool) (l : List Int) (hl : l.length < 4611686018427387904) (hd : digs l) :
    ∃ l', digs l' ∧ norm l' ∧ l'.length ≤ l.length ∧ val l' = val l ∧ Ev (fun k => jigsawref01_trim.f k m l) (if l' = [] then false else m, l') := by
  obtain ⟨l', ⟨j, rfl⟩, h2, h3, h4⟩ := trim_l0 m l hl l.length (Nat.le_refl _) (fun j hj => rd_beyond l j hj)
  refine ⟨_, digs_take hd j, h2, by rw [List.length_take]; omega, by rw [h3, List.take_of_length_le (Nat.le_refl _)], h4⟩

/-! ### a number as digits -/

theorem wrap_u64_in (u : Int) (h : 0 ≤ u ∧ u ≤ 18446744073709551615) : IntKind.u64.wrap u = u := IntWalk.u64_in u h
theorem of_step (k : Nat) (u : Int) (m : Bool) (l : List Int) (h0 : 0 < u) (h1 : u ≤ 18446744073709551615) (hl : l.length < 17592186044416) :
    jigsawref01_Of.l0 (k + 1) u m l = jigsawref01_Of.l0 k (u / 1073741824) m (l ++ [u % 1073741824]) := by
  simp only [jigsawref01_Of.l0]
  rw [if_pos (by omega), if_pos hl, Int.tdiv_eq_ediv_of_nonneg (by omega), Int.tmod_eq_emod_of_nonneg (by omega), wrap_u64_in _ (by omega), IntWalk.wrap64_in _ (by omega)]
theorem norm_snoc (l : List Int) (d : Int) (h : d ≠ 0) : norm (l ++ [d]) := fun n hn => by
  have : n = l.length := by simpa using hn.symm
  subst this
  rw [rd_snoc]
  exact h
theorem of_loop (m : Bool) : ∀ (n : Nat) (u : Int) (l : List Int), 0 ≤ u → u ≤ 18446744073709551615 → u < bp n → l.length + n ≤ 3 → digs l → (u = 0 → norm l) →
    ∃ l', digs l' ∧ norm l' ∧ l'.length ≤ 3 ∧ val l' = val l + bp l.length * u ∧ Ev (fun k => jigsawref01_Of.l0 k u m l) (m, l')
  | n, u, l, h0, h1, hb, hl, hd, hn => by
    by_cases hu : u = 0
    · subst hu
      refine ⟨l, hd, hn rfl, by omega, by simp, Ev.step (f := fun _ => some (m, l)) (fun k => ?_) (Ev.now _)⟩
      simp only [jigsawref01_Of.l0]
      rw [if_neg (by omega)]
    · cases n with
      | zero => rw [bp_zero] at hb; omega
      | succ n =>
        rw [bp_succ] at hb
        have hq : u / 1073741824 < bp n := by
          rw [Int.ediv_lt_iff_lt_mul (by decide)]; exact hb
        have hr := Int.emod_nonneg u (show (1073741824 : Int) ≠ 0 by decide)
        have hr2 := Int.emod_lt_of_pos u (show (0 : Int) < 1073741824 by decide)
        obtain ⟨l', a1, a2, a3, a4, a5⟩ := of_loop m n (u / 1073741824) (l ++ [u % 1073741824]) (by omega) (by omega) hq (by simp; omega) (digs_append hd (digs_one ⟨hr, hr2⟩)) (fun e => norm_snoc _ _ (by omega))
        refine ⟨l', a1, a2, a3, ?_, Ev.step (fun k => of_step k u m l (by omega) h1 (by omega)) a5⟩
        rw [a4, val_snoc, List.length_append, List.length_singleton, bp_succ]
        have e : u = 1073741824 * (u / 1073741824) + u % 1073741824 := by omega
        generalize u / 1073741824 = q at *
        generalize u % 1073741824 = r at *
        subst e
        rw [Int.mul_add, Int.mul_assoc]
        omega
theorem of_spec (a : Int) (ha : fits a) : ∃ l, digs l ∧ norm l ∧ l.length ≤ 3 ∧ val l = (a.natAbs : Int) ∧ Ev (fun k => jigsawref01_Of.f k a) (decide (a < 0), l) := by
  have hb3 : bp 3 = 1237940039285380274899124224 := by decide
  unfold fits at ha
  have h1 : (a.natAbs : Int) ≤ 18446744073709551615 := by omega
  obtain ⟨l', a1, a2, a3, a4, a5⟩ := of_loop (decide (a < 0)) 3 (a.natAbs : Int) [] (by omega) h1 (by rw [hb3]; omega) (by simp) digs_nil (fun _ n h => by simp at h)
  refine ⟨l', a1, a2, a3, by rw [a4]; simp [val, bp_zero], ?_⟩
  refine Ev.step (f := fun k => jigsawref01_Of.l0 k (a.natAbs : Int) (decide (a < 0)) []) (fun k => ?_) a5
  unfold jigsawref01_Of.f
  simp only [jigsawref01_Of.j0]
  by_cases h : a < 0
  · rw [if_pos h]
    congr 1
    simp only [IntKind.wrap_u64, wrap64]
    omega
  · rw [if_neg h]
    congr 1
    simp only [IntKind.wrap_u64]
    omega

/-! ### which of two is greater -/
theorem size_l0 (a b : List Int) (hla : a.length < 4611686018427387904) (ha : digs a) (hb : digs b) : ∀ n : Nat, n ≤ a.length → n ≤ b.length →
    ∃ t : Int, (t < 0 ↔ val (a.take n) < val (b.take n)) ∧ Ev (fun k => jigsawref01_size.l0 k a b ((n : Int) - 1)) t
  | 0, _, _ => ⟨0, by simp, Ev.step (f := fun _ => some 0) (fun k => by simp only [jigsawref01_size.l0]; rw [if_neg (by omega)]) (Ev.now _)⟩
  | n + 1, h1, h2 => by
    obtain ⟨t, ht, hE⟩ := size_l0 a b hla ha hb n (by omega) (by omega)
    have e0 : (((n + 1 : Nat) : Int) - 1) = (n : Int) := by omega
    rw [val_take_succ a n (by omega), val_take_succ b n (by omega), e0]
    have va := val_bound (digs_take ha n)
    have vb := val_bound (digs_take hb n)
    rw [List.length_take, Nat.min_eq_left (by omega)] at va vb
    have pa := digs_rd ha n
    have pb := digs_rd hb n
    have hp := bp_pos n
    by_cases c1 : rd a n < rd b n
    · refine ⟨-1, ?_, Ev.step (f := fun _ => some (-1)) (fun k => ?_) (Ev.now _)⟩
      · have : bp n * (rd a n + 1) ≤ bp n * rd b n := Int.mul_le_mul_of_nonneg_left (by omega) (by omega)
        rw [Int.mul_add] at this
        constructor
        · intro _; omega
        · intro _; decide
      · simp only [jigsawref01_size.l0]
        rw [if_pos (by omega), if_pos (by omega), if_pos (by omega), if_pos (by omega), if_pos c1]
    · by_cases c2 : rd a n > rd b n
      · refine ⟨1, ?_, Ev.step (f := fun _ => some 1) (fun k => ?_) (Ev.now _)⟩
        · have : bp n * (rd b n + 1) ≤ bp n * rd a n := Int.mul_le_mul_of_nonneg_left (by omega) (by omega)
          rw [Int.mul_add] at this
          constructor
          · intro h; omega
          · intro h; omega
        · simp only [jigsawref01_size.l0]
          rw [if_pos (by omega), if_pos (by omega), if_pos (by omega), if_pos (by omega), if_neg c1, if_pos c2]
      · have e : rd a n = rd b n := by omega
        refine ⟨t, by rw [e]; omega, Ev.step (fun k => ?_) hE⟩
        simp only [jigsawref01_size.l0]
        rw [if_pos (by omega), if_pos (by omega), if_pos (by omega), if_pos (by omega), if_neg c1, if_neg c2, w64_sub _ (by omega)]
theorem size_spec (a b : List Int) (hla : a.length < 4611686018427387904) (ha : digs a) (hb : digs b) (na : norm a) (nb : norm b) :
    ∃ t : Int, (t < 0 ↔ val a < val b) ∧ Ev (fun k => jigsawref01_size.f k a b) t := by
  by_cases e : a.length = b.length
  · obtain ⟨t, ht, hE⟩ := size_l0 a b hla ha hb a.length (Nat.le_refl _) (by omega)
    rw [List.take_of_length_le (Nat.le_refl _), List.take_of_length_le (by omega)] at ht
    refine ⟨t, ht, Ev.congr (fun k => ?_) hE⟩
    unfold jigsawref01_size.f
    rw [if_pos (by omega), w64_sub _ (by omega)]
  · by_cases c : a.length < b.length
    · refine ⟨-1, ?_, Ev.congr (f := fun _ => some (-1)) (fun k => ?_) (Ev.now _)⟩
      · obtain ⟨m, hm⟩ : ∃ m, b.length = m + 1 := ⟨b.length - 1, by omega⟩
        have h1 := norm_low hb nb m hm
        have h2 := val_bound ha
        have h3 := bp_le (m := a.length) (n := m) (by omega)
        constructor
        · intro _; omega
        · intro _; decide
      · unfold jigsawref01_size.f
        rw [if_neg (by omega), if_pos (by omega)]
    · refine ⟨1, ?_, Ev.congr (f := fun _ => some 1) (fun k => ?_) (Ev.now _)⟩
      · obtain ⟨m, hm⟩ : ∃ m, a.length = m + 1 := ⟨a.length - 1, by omega⟩
        have h1 := norm_low ha na m hm
        have h2 := val_bound hb
        have h3 := bp_le (m := b.length) (n := m) (by omega)
        constructor
        · intro h; omega
        · intro h; omega
      · unfold jigsawref01_size.f
        rw [if_neg (by omega), if_neg (by omega)]
theorem size_length {a b : List Int} (ha : digs a) (hb : digs b) (nb : norm b) (h : ¬ val a < val b) : b.length ≤ a.length := by
  by_cases c : a.length < b.length
  · obtain ⟨m, hm⟩ : ∃ m, b.length = m + 1 := ⟨b.length - 1, by omega⟩
    have h1 := norm_low hb nb m hm
    have h2 := val_bound ha
    have h3 := bp_le (m := a.length) (n := m) (by omega)
    omega
  · omega
end Go.Proofs.Ytfkbkcdiajjljaa.Spec
