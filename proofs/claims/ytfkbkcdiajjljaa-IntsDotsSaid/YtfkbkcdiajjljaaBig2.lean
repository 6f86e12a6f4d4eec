/- Whole numbers of any size as digits to the base 2^30: sums, products and the way back to 64 bits, as the reference reckons them, are right: for digits that are right and lists that are not longer than a million. -/
import Derived.Test.YtfkbkcdiajjljaaBig
set_option linter.unusedVariables false
namespace Go.Proofs.Ytfkbkcdiajjljaa.Spec
open Go.RowKit Go.Proofs.Ytfkbkcdiajjljaa.PA Go.Proofs.YtfkbkcdiajjljaaW.PrintWords

theorem val_drop (l : List Int) (i : Nat) : val (l.drop i) = rd l i + 1073741824 * val (l.drop (i + 1)) := by
  by_cases h : i < l.length
  · rw [List.drop_eq_getElem_cons h]
    unfold rd
    rw [Int.toNat_natCast, List.getD_eq_getElem?_getD, List.getElem?_eq_getElem h]
    rfl
  · rw [rd_beyond l i (by omega), List.drop_of_length_le (by omega), List.drop_of_length_le (by omega)]
    rfl

theorem plus_step (k : Nat) (p q m : Bool) (a b out : List Int) (i : Nat) (c : Int) (ha : digs a) (hb : digs b) (hc : c = 0 ∨ c = 1) (hi : i < a.length ∨ i < b.length ∨ c = 1) (hl : i < 4611686018427387904) (hout : out.length < 17592186044416) :
    jigsawref01_Plus.l0 (k + 1) c i p a q b m out = jigsawref01_Plus.l0 k ((c + rd a i + rd b i) / 1073741824) ((i + 1 : Nat) : Int) p a q b m (out ++ [(c + rd a i + rd b i) % 1073741824]) := by
  have h1 := digs_rd ha i
  have h2 := digs_rd hb i
  have e1 : wrap64 ((i : Int) + 1) = ((i + 1 : Nat) : Int) := IntWalk.wrap64_in _ (by omega)
  have e2 : wrap64 (c + rd a i) = c + rd a i := IntWalk.wrap64_in _ (by omega)
  have e3 : wrap64 (c + rd a i + rd b i) = c + rd a i + rd b i := IntWalk.wrap64_in _ (by omega)
  have e4 : wrap64 (c + rd b i) = c + rd b i := IntWalk.wrap64_in _ (by omega)
  simp only [jigsawref01_Plus.l0, e1, e2, e3, e4]
  by_cases hia : (i : Int) < (a.length : Int)
  · rw [if_pos hia, if_pos (by omega)]
    by_cases hib : (i : Int) < (b.length : Int)
    · rw [if_pos hib, if_pos hout, Int.tdiv_eq_ediv_of_nonneg (by omega), Int.tmod_eq_emod_of_nonneg (by omega), IntWalk.wrap64_in _ (by omega)]
    · have hz : rd b i = 0 := rd_beyond b i (by omega)
      rw [if_neg hib, if_pos hout, hz, Int.add_zero, Int.tdiv_eq_ediv_of_nonneg (by omega), Int.tmod_eq_emod_of_nonneg (by omega), IntWalk.wrap64_in _ (by omega)]
  · have hz : rd a i = 0 := rd_beyond a i (by omega)
    rw [if_neg hia, hz, Int.add_zero]
    by_cases hib : (i : Int) < (b.length : Int)
    · rw [if_pos hib, if_pos (by omega), if_pos hout, Int.tdiv_eq_ediv_of_nonneg (by omega), Int.tmod_eq_emod_of_nonneg (by omega), IntWalk.wrap64_in _ (by omega)]
    · have hz2 : rd b i = 0 := rd_beyond b i (by omega)
      rw [if_neg hib, if_pos (by omega), if_pos hout, hz2, Int.add_zero, Int.tdiv_eq_ediv_of_nonneg (by omega), Int.tmod_eq_emod_of_nonneg (by omega), IntWalk.wrap64_in _ (by omega)]

theorem plus_loop (p q m : Bool) (a b : List Int) (ha : digs a) (hb : digs b) (M : Nat) (hma : a.length ≤ M) (hmb : b.length ≤ M) (hM : M < 1000000) : ∀ (d i : Nat) (c : Int) (out : List Int), 2 * (M - i) + c.toNat ≤ d → i ≤ M + 1 → (i = M + 1 → c = 0) → out.length = i → digs out → (c = 0 ∨ c = 1) →
    ∃ l', digs l' ∧ norm l' ∧ l'.length ≤ M + 1 ∧ val l' = val out + bp i * (c + val (a.drop i) + val (b.drop i)) ∧ Ev (fun k => jigsawref01_Plus.l0 k c i p a q b m out) (if l' = [] then false else m, l') := by
  intro d
  induction d with
  | zero =>
    intro i c out hd hi hic ho hdig hc
    obtain ⟨l', t1, t2, t3, t4, t5⟩ := trim_spec m out (by omega) hdig
    obtain rfl : c = 0 := by omega
    refine ⟨l', t1, t2, by omega, ?_, Ev.step (fun k => ?_) (Ev.bind (f := fun _ bt => some (bt.1, bt.2)) t5 (Ev.now _))⟩
    · rw [t4, List.drop_of_length_le (by omega), List.drop_of_length_le (by omega)]; simp [val]
    · simp only [jigsawref01_Plus.l0]
      rw [if_neg (by omega), if_neg (by omega), if_neg (by omega)]
  | succ d ih =>
    intro i c out hd hi hic ho hdig hc
    by_cases hgo : i < a.length ∨ i < b.length ∨ c = 1
    · have h1 := digs_rd ha i
      have h2 := digs_rd hb i
      have da := val_drop a i
      have db := val_drop b i
      have hst := fun k => plus_step k p q m a b out i c ha hb hc hgo (by omega) (by omega)
      have hs := Int.emod_nonneg (c + rd a i + rd b i) (show (1073741824 : Int) ≠ 0 by decide)
      have hs2 := Int.emod_lt_of_pos (c + rd a i + rd b i) (show (0 : Int) < 1073741824 by decide)
      have hc' : (c + rd a i + rd b i) / 1073741824 = 0 ∨ (c + rd a i + rd b i) / 1073741824 = 1 := by omega
      have hz : ¬ i < M → (c + rd a i + rd b i) / 1073741824 = 0 := fun hM' => by
        rw [rd_beyond a i (by omega), rd_beyond b i (by omega)]; omega
      have e : c + rd a i + rd b i = 1073741824 * ((c + rd a i + rd b i) / 1073741824) + (c + rd a i + rd b i) % 1073741824 := by omega
      obtain ⟨l', r⟩ := ih (i + 1) ((c + rd a i + rd b i) / 1073741824) (out ++ [(c + rd a i + rd b i) % 1073741824]) (by
          by_cases hM' : i < M
          · omega
          · have := hz hM'; omega) (by
          by_cases hM' : i < M
          · omega
          · rcases hgo with h | h | h
            · omega
            · omega
            · have := hic; omega) (fun hh => hz (by omega)) (by simp [ho]) (digs_append hdig (digs_one ⟨hs, hs2⟩)) hc'
      refine ⟨l', r.1, r.2.1, r.2.2.1, ?_, Ev.step hst r.2.2.2.2⟩
      rw [r.2.2.2.1, val_snoc, ho, bp_succ, da, db]
      generalize (c + rd a i + rd b i) / 1073741824 = x at *
      generalize (c + rd a i + rd b i) % 1073741824 = y at *
      grind
    · obtain ⟨l', t1, t2, t3, t4, t5⟩ := trim_spec m out (by omega) hdig
      obtain rfl : c = 0 := by omega
      refine ⟨l', t1, t2, by omega, ?_, Ev.step (fun k => ?_) (Ev.bind (f := fun _ bt => some (bt.1, bt.2)) t5 (Ev.now _))⟩
      · rw [t4, List.drop_of_length_le (by omega), List.drop_of_length_le (by omega)]; simp [val]
      · simp only [jigsawref01_Plus.l0]
        rw [if_neg (by omega), if_neg (by omega), if_neg (by omega)]

theorem minus1_step (k : Nat) (p q m : Bool) (a b out : List Int) (i : Nat) (w : Int) (ha : digs a) (hb : digs b) (hw : w = 0 ∨ w = 1) (hi : i < a.length) (hla : a.length < 4611686018427387904) (hout : out.length < 17592186044416) :
    jigsawref01_Plus.l1 (k + 1) w i p a q b m out = jigsawref01_Plus.l1 k (if rd a i - w - rd b i < 0 then 1 else 0) ((i + 1 : Nat) : Int) p a q b m (out ++ [if rd a i - w - rd b i < 0 then rd a i - w - rd b i + 1073741824 else rd a i - w - rd b i]) := by
  have h1 := digs_rd ha i
  have h2 := digs_rd hb i
  have e1 : wrap64 ((i : Int) + 1) = ((i + 1 : Nat) : Int) := IntWalk.wrap64_in _ (by omega)
  have e2 : wrap64 (rd a i - w) = rd a i - w := IntWalk.wrap64_in _ (by omega)
  have e3 : wrap64 (rd a i - w - rd b i) = rd a i - w - rd b i := IntWalk.wrap64_in _ (by omega)
  simp only [jigsawref01_Plus.l1]
  rw [if_pos (by omega), if_pos (by omega)]
  simp only [e2, e3, e1]
  by_cases hib : (i : Int) < (b.length : Int)
  · rw [if_pos hib]
    by_cases hn : rd a i - w - rd b i < 0
    · rw [if_pos hn, if_pos hn, if_pos hn, if_pos hout, IntWalk.wrap64_in _ (by omega)]
    · rw [if_neg hn, if_neg hn, if_neg hn, if_pos hout]
  · have hz : rd b i = 0 := rd_beyond b i (by omega)
    rw [if_neg hib, hz, Int.sub_zero]
    by_cases hn : rd a i - w < 0
    · rw [if_pos hn, if_pos hn, if_pos hn, if_pos hout, IntWalk.wrap64_in _ (by omega)]
    · rw [if_neg hn, if_neg hn, if_neg hn, if_pos hout]
theorem minus1_loop (p q m : Bool) (a b : List Int) (ha : digs a) (hb : digs b) (hab : b.length ≤ a.length) (hla : a.length < 1000000) (T : Int) (hT : 0 ≤ T) : ∀ (d i : Nat) (w : Int) (out : List Int), a.length = i + d → out.length = i → digs out → (w = 0 ∨ w = 1) →
    val out + bp i * (val (a.drop i) - val (b.drop i) - w) = T →
    ∃ l', digs l' ∧ norm l' ∧ l'.length ≤ a.length ∧ val l' = T ∧ Ev (fun k => jigsawref01_Plus.l1 k w i p a q b m out) (if l' = [] then false else m, l')
  | 0, i, w, out, hd, ho, hdig, hw, hv => by
    obtain ⟨l', t1, t2, t3, t4, t5⟩ := trim_spec m out (by omega) hdig
    rw [List.drop_of_length_le (by omega), List.drop_of_length_le (by omega)] at hv
    have hb1 := val_bound hdig
    rw [ho] at hb1
    have hw0 : w = 0 := by
      rcases hw with h | h
      · exact h
      · subst h; simp only [val] at hv; omega
    subst hw0
    refine ⟨l', t1, t2, by omega, by rw [t4]; simp only [val] at hv; omega, Ev.step (fun k => ?_) (Ev.bind (f := fun _ bt => some (bt.1, bt.2)) t5 (Ev.now _))⟩
    simp only [jigsawref01_Plus.l1]
    rw [if_neg (by omega)]
  | d + 1, i, w, out, hd, ho, hdig, hw, hv => by
    have h1 := digs_rd ha i
    have h2 := digs_rd hb i
    have da := val_drop a i
    have db := val_drop b i
    have hst := fun k => minus1_step k p q m a b out i w ha hb hw (by omega) (by omega) (by omega)
    by_cases hn : rd a i - w - rd b i < 0
    · simp only [if_pos hn] at hst
      obtain ⟨l', r⟩ := minus1_loop p q m a b ha hb hab hla T hT d (i + 1) 1 (out ++ [rd a i - w - rd b i + 1073741824]) (by omega) (by simp [ho]) (digs_append hdig (digs_one (by omega))) (.inr rfl) (by
        rw [val_snoc, ho, bp_succ, ← hv, da, db]; grind)
      exact ⟨l', r.1, r.2.1, r.2.2.1, r.2.2.2.1, Ev.step hst r.2.2.2.2⟩
    · simp only [if_neg hn] at hst
      obtain ⟨l', r⟩ := minus1_loop p q m a b ha hb hab hla T hT d (i + 1) 0 (out ++ [rd a i - w - rd b i]) (by omega) (by simp [ho]) (digs_append hdig (digs_one (by omega))) (.inl rfl) (by
        rw [val_snoc, ho, bp_succ, ← hv, da, db]; grind)
      exact ⟨l', r.1, r.2.1, r.2.2.1, r.2.2.2.1, Ev.step hst r.2.2.2.2⟩

theorem minus2_step (k : Nat) (p q m : Bool) (a b out : List Int) (i : Nat) (w : Int) (ha : digs a) (hb : digs b) (hw : w = 0 ∨ w = 1) (hi : i < a.length) (hla : a.length < 4611686018427387904) (hout : out.length < 17592186044416) :
    jigsawref01_Plus.l2 (k + 1) w i p a q b m out = jigsawref01_Plus.l2 k (if rd a i - w - rd b i < 0 then 1 else 0) ((i + 1 : Nat) : Int) p a q b m (out ++ [if rd a i - w - rd b i < 0 then rd a i - w - rd b i + 1073741824 else rd a i - w - rd b i]) := by
  have h1 := digs_rd ha i
  have h2 := digs_rd hb i
  have e1 : wrap64 ((i : Int) + 1) = ((i + 1 : Nat) : Int) := IntWalk.wrap64_in _ (by omega)
  have e2 : wrap64 (rd a i - w) = rd a i - w := IntWalk.wrap64_in _ (by omega)
  have e3 : wrap64 (rd a i - w - rd b i) = rd a i - w - rd b i := IntWalk.wrap64_in _ (by omega)
  simp only [jigsawref01_Plus.l2]
  rw [if_pos (by omega), if_pos (by omega)]
  simp only [e2, e3, e1]
  by_cases hib : (i : Int) < (b.length : Int)
  · rw [if_pos hib]
    by_cases hn : rd a i - w - rd b i < 0
    · rw [if_pos hn, if_pos hn, if_pos hn, if_pos hout, IntWalk.wrap64_in _ (by omega)]
    · rw [if_neg hn, if_neg hn, if_neg hn, if_pos hout]
  · have hz : rd b i = 0 := rd_beyond b i (by omega)
    rw [if_neg hib, hz, Int.sub_zero]
    by_cases hn : rd a i - w < 0
    · rw [if_pos hn, if_pos hn, if_pos hn, if_pos hout, IntWalk.wrap64_in _ (by omega)]
    · rw [if_neg hn, if_neg hn, if_neg hn, if_pos hout]
theorem minus2_loop (p q m : Bool) (a b : List Int) (ha : digs a) (hb : digs b) (hab : b.length ≤ a.length) (hla : a.length < 1000000) (T : Int) (hT : 0 ≤ T) : ∀ (d i : Nat) (w : Int) (out : List Int), a.length = i + d → out.length = i → digs out → (w = 0 ∨ w = 1) →
    val out + bp i * (val (a.drop i) - val (b.drop i) - w) = T →
    ∃ l', digs l' ∧ norm l' ∧ l'.length ≤ a.length ∧ val l' = T ∧ Ev (fun k => jigsawref01_Plus.l2 k w i p a q b m out) (if l' = [] then false else m, l')
  | 0, i, w, out, hd, ho, hdig, hw, hv => by
    obtain ⟨l', t1, t2, t3, t4, t5⟩ := trim_spec m out (by omega) hdig
    rw [List.drop_of_length_le (by omega), List.drop_of_length_le (by omega)] at hv
    have hb1 := val_bound hdig
    rw [ho] at hb1
    have hw0 : w = 0 := by
      rcases hw with h | h
      · exact h
      · subst h; simp only [val] at hv; omega
    subst hw0
    refine ⟨l', t1, t2, by omega, by rw [t4]; simp only [val] at hv; omega, Ev.step (fun k => ?_) (Ev.bind (f := fun _ bt => some (bt.1, bt.2)) t5 (Ev.now _))⟩
    simp only [jigsawref01_Plus.l2]
    rw [if_neg (by omega)]
  | d + 1, i, w, out, hd, ho, hdig, hw, hv => by
    have h1 := digs_rd ha i
    have h2 := digs_rd hb i
    have da := val_drop a i
    have db := val_drop b i
    have hst := fun k => minus2_step k p q m a b out i w ha hb hw (by omega) (by omega) (by omega)
    by_cases hn : rd a i - w - rd b i < 0
    · simp only [if_pos hn] at hst
      obtain ⟨l', r⟩ := minus2_loop p q m a b ha hb hab hla T hT d (i + 1) 1 (out ++ [rd a i - w - rd b i + 1073741824]) (by omega) (by simp [ho]) (digs_append hdig (digs_one (by omega))) (.inr rfl) (by
        rw [val_snoc, ho, bp_succ, ← hv, da, db]; grind)
      exact ⟨l', r.1, r.2.1, r.2.2.1, r.2.2.2.1, Ev.step hst r.2.2.2.2⟩
    · simp only [if_neg hn] at hst
      obtain ⟨l', r⟩ := minus2_loop p q m a b ha hb hab hla T hT d (i + 1) 0 (out ++ [rd a i - w - rd b i]) (by omega) (by simp [ho]) (digs_append hdig (digs_one (by omega))) (.inl rfl) (by
        rw [val_snoc, ho, bp_succ, ← hv, da, db]; grind)
      exact ⟨l', r.1, r.2.1, r.2.2.1, r.2.2.2.1, Ev.step hst r.2.2.2.2⟩

theorem sv_if (m : Bool) (l : List Int) : sv (if l = [] then false else m) l = sv m l := by
  by_cases h : l = []
  · subst h; cases m <;> simp [sv, val]
  · rw [if_neg h]

theorem plus_spec (p q : Bool) (a b : List Int) (ha : digs a) (hb : digs b) (na : norm a) (nb : norm b) (M : Nat) (hma : a.length ≤ M) (hmb : b.length ≤ M) (hM : M < 1000000) :
    ∃ (m : Bool) (l : List Int), digs l ∧ norm l ∧ l.length ≤ M + 1 ∧ sv m l = sv p a + sv q b ∧ (l = [] → m = false) ∧ Ev (fun k => jigsawref01_Plus.f k p a q b) (m, l) := by
  by_cases hpq : (p == q) = true
  · obtain ⟨l', r⟩ := plus_loop p q p a b ha hb M hma hmb hM (2 * M) 0 0 [] (by simp) (by omega) (by omega) rfl digs_nil (.inl rfl)
    refine ⟨if l' = [] then false else p, l', r.1, r.2.1, r.2.2.1, ?_, fun h => by rw [if_pos h], Ev.congr (fun k => ?_) r.2.2.2.2⟩
    · rw [sv_if]
      have e : p = q := by simpa using hpq
      subst e
      have hv := r.2.2.2.1
      simp [val, bp_zero] at hv
      unfold sv
      cases p <;> simp <;> omega
    · unfold jigsawref01_Plus.f
      rw [if_pos hpq]
      rfl
  · obtain ⟨t, ht, hE⟩ := size_spec a b (by omega) ha hb na nb
    have e : q = !p := by cases p <;> cases q <;> simp_all
    by_cases h : t < 0
    · have hlt := ht.1 h
      obtain ⟨l', r⟩ := minus1_loop q p q b a hb ha (size_length hb ha na (by omega)) (by omega) (val b - val a) (by omega) b.length 0 0 [] (by omega) rfl digs_nil (.inl rfl) (by simp [val, bp_zero])
      refine ⟨if l' = [] then false else q, l', r.1, r.2.1, by omega, ?_, fun h => by rw [if_pos h], ?_⟩
      · rw [sv_if]
        subst e
        unfold sv
        cases p <;> simp <;> omega
      · refine Ev.congr (f := fun k => (jigsawref01_size.f k a b).bind fun t => if t < 0 then jigsawref01_Plus.l1 k 0 0 q b p a q [] else jigsawref01_Plus.l2 k 0 0 p a q b p []) (fun k => ?_) (Ev.bind (f := fun k t => if t < 0 then jigsawref01_Plus.l1 k 0 0 q b p a q [] else jigsawref01_Plus.l2 k 0 0 p a q b p []) hE (Ev.congr (fun k => if_pos h) r.2.2.2.2))
        unfold jigsawref01_Plus.f
        rw [if_neg hpq]
    · have hlt : ¬ val a < val b := fun x => h (ht.2 x)
      obtain ⟨l', r⟩ := minus2_loop p q p a b ha hb (size_length ha hb nb hlt) (by omega) (val a - val b) (by omega) a.length 0 0 [] (by omega) rfl digs_nil (.inl rfl) (by simp [val, bp_zero])
      refine ⟨if l' = [] then false else p, l', r.1, r.2.1, by omega, ?_, fun h => by rw [if_pos h], ?_⟩
      · rw [sv_if]
        subst e
        unfold sv
        cases p <;> simp <;> omega
      · refine Ev.congr (f := fun k => (jigsawref01_size.f k a b).bind fun t => if t < 0 then jigsawref01_Plus.l1 k 0 0 q b p a q [] else jigsawref01_Plus.l2 k 0 0 p a q b p []) (fun k => ?_) (Ev.bind (f := fun k t => if t < 0 then jigsawref01_Plus.l1 k 0 0 q b p a q [] else jigsawref01_Plus.l2 k 0 0 p a q b p []) hE (Ev.congr (fun k => if_neg h) r.2.2.2.2))
        unfold jigsawref01_Plus.f
        rw [if_neg hpq]

/-! ### back to 64 bits -/
theorem or_low (u d : Int) (h0 : 0 ≤ u) (h1 : u < 17179869184) (h2 : 0 ≤ d) (h3 : d < 1073741824) : Go.bits .or .u64 (u * 1073741824) d = u * 1073741824 + d := by
  obtain ⟨n, rfl⟩ := Int.eq_ofNat_of_zero_le h0
  obtain ⟨m, rfl⟩ := Int.eq_ofNat_of_zero_le h2
  rw [show ((n : Int) * 1073741824) = ((n * 1073741824 : Nat) : Int) by omega, u64_or_nat _ _ (by omega) (by omega)]
  rw [show n * 1073741824 = n <<< 30 by rw [Nat.shiftLeft_eq], ← Nat.shiftLeft_add_eq_or_of_lt (by omega : m < 2 ^ 30), Nat.shiftLeft_eq]
  omega
theorem back_l0 (m : Bool) (l : List Int) (hl : l.length ≤ 3) (hd : digs l) (hv : val l < 18446744073709551616) : ∀ n : Nat, n ≤ l.length →
    Ev (fun k => jigsawref01_Back.l0 k (val (l.drop n)) ((n : Int) - 1) m l) (reck (sv m l))
  | 0, _ => by
    refine Ev.step (f := fun _ => some (reck (sv m l))) (fun k => ?_) (Ev.now _)
    have hb := (val_bound hd).1
    simp only [jigsawref01_Back.l0, List.drop_zero]
    rw [if_neg (by omega)]
    unfold sv
    generalize val l = v at *
    cases m
    · simp only [Bool.false_eq_true, if_false]
      by_cases h : v ≤ 9223372036854775807
      · rw [if_neg (by omega), reck_pos (by unfold fits; omega), IntWalk.wrap64_in _ (by omega)]
      · rw [if_pos (by omega), reck_neg (by unfold fits; omega)]
    · simp only [if_true]
      by_cases h : v ≤ 9223372036854775808
      · rw [if_neg (by omega), reck_pos (by unfold fits; omega)]
        refine congrArg some (Prod.ext ?_ rfl)
        show wrap64 (wrap64 (-(wrap64 (IntKind.u64.wrap (v - 1)))) - 1) = -v
        by_cases h0 : v = 0
        · subst h0; decide +kernel
        · rw [IntWalk.u64_in _ (by omega), IntWalk.wrap64_in (v - 1) (by omega), IntWalk.wrap64_in (-(v - 1)) (by omega), IntWalk.wrap64_in _ (by omega)]
          omega
      · rw [if_pos (by omega), reck_neg (by unfold fits; omega)]
  | n + 1, hn => by
    have ih := back_l0 m l hl hd hv n (by omega)
    have dr := val_drop l n
    have h1 := digs_rd hd n
    have hb := (val_bound (digs_drop hd (n + 1))).1
    have hb0 := (val_bound (digs_drop hd n)).1
    have hle : val (l.drop n) ≤ val l := by
      have := val_take_drop l n (by omega)
      have h2 := (val_bound (digs_take hd n)).1
      have h3 : bp n * val (l.drop n) ≥ 1 * val (l.drop n) := Int.mul_le_mul_of_nonneg_right (by have := bp_pos n; omega) hb0
      omega
    refine Ev.step (fun k => ?_) ih
    simp only [jigsawref01_Back.l0]
    rw [show (((n + 1 : Nat) : Int) - 1) = (n : Int) by omega, if_pos (by omega), if_pos (by omega), if_pos (by omega), w64_sub _ (by omega), IntWalk.u64_in _ (by omega), IntWalk.u64_in _ (by omega), or_low _ _ hb (by omega) h1.1 h1.2, dr]
    congr 1
    omega
theorem back_spec (m : Bool) (l : List Int) (hd : digs l) (hn : norm l) (hl : l.length < 1000000) : Ev (fun k => jigsawref01_Back.f k m l) (reck (sv m l)) := by
  have b3 : bp 3 = 1237940039285380274899124224 := by decide
  have b2 : bp 2 = 1152921504606846976 := by decide
  have big : 18446744073709551616 ≤ val l → reck (sv m l) = (0, 10) := fun h => by
    refine reck_neg ?_
    unfold sv fits
    cases m <;> simp <;> omega
  have yes : ∀ u x : Int, Ev (fun k => jigsawref01_Back.j0 k u true m l) (0, 10) := fun u x => Ev.step (f := fun _ => some (0, 10)) (fun k => by simp only [jigsawref01_Back.j0, if_true]) (Ev.now _)
  have no : l.length ≤ 3 → val l < 18446744073709551616 → Ev (fun k => jigsawref01_Back.j0 k 0 false m l) (reck (sv m l)) := fun h3 hv => by
    have := back_l0 m l h3 hd hv l.length (Nat.le_refl _)
    rw [List.drop_of_length_le (Nat.le_refl _)] at this
    refine Ev.step (fun k => ?_) this
    simp only [jigsawref01_Back.j0]
    rw [if_neg (by decide), w64_sub _ (by omega)]
    rfl
  by_cases h3 : (l.length : Int) > 3
  · obtain ⟨n, hn'⟩ : ∃ n, l.length = n + 1 := ⟨l.length - 1, by omega⟩
    have h1 := norm_low hd hn n hn'
    have h2 := bp_le (m := 3) (n := n) (by omega)
    rw [big (by omega)]
    refine Ev.congr (fun k => ?_) (yes 0 0)
    unfold jigsawref01_Back.f
    rw [if_pos h3]
  · by_cases e3 : (l.length : Int) = 3
    · have hv : val l = val (l.take 2) + bp 2 * rd l 2 := by
        have := val_take_succ l 2 (by omega)
        rw [List.take_of_length_le (by omega)] at this
        exact this
      have hb := val_bound (digs_take hd 2)
      rw [List.length_take, Nat.min_eq_left (by omega)] at hb
      have hr := digs_rd hd 2
      rw [b2] at hv hb
      by_cases hc : rd l 2 > 15
      · rw [big (by omega)]
        refine Ev.congr (fun k => ?_) (yes 0 0)
        unfold jigsawref01_Back.f
        rw [if_neg h3, if_pos e3, if_pos (by omega), decide_eq_true hc]
      · refine Ev.congr (fun k => ?_) (no (by omega) (by omega))
        unfold jigsawref01_Back.f
        rw [if_neg h3, if_pos e3, if_pos (by omega), decide_eq_false hc]
    · have hb := val_bound hd
      have h2 := bp_le (m := l.length) (n := 2) (by omega)
      rw [b2] at h2
      refine Ev.congr (fun k => ?_) (no (by omega) (by omega))
      unfold jigsawref01_Back.f
      rw [if_neg h3, if_neg e3]

/-! ### products -/
theorem val_set (l : List Int) (j : Nat) (v : Int) (h : j < l.length) : val (l.set j v) = val l + bp j * (v - rd l j) := by
  induction l generalizing j with
  | nil => simp at h
  | cons x xs ih =>
    cases j with
    | zero => simp [val, bp_zero, rd]; omega
    | succ j =>
      have := ih j (by simpa using h)
      have e : rd (x :: xs) ((j + 1 : Nat) : Int) = rd xs (j : Int) := by unfold rd; simp
      rw [List.set_cons_succ, e]
      simp only [val, this, bp_succ]
      rw [Int.mul_add, ← Int.mul_assoc, Int.mul_comm 1073741824 (bp j)]
      omega
theorem digs_set {l : List Int} (h : digs l) (j : Nat) {v : Int} (hv : 0 ≤ v ∧ v < 1073741824) : digs (l.set j v) := fun d hd => by
  rcases List.mem_or_eq_of_mem_set hd with h' | h'
  · exact h d h'
  · subst h'; exact hv
theorem times_alg (o P y r x A D c b : Int) (e : r + c + A * b = 1073741824 * x + y) :
    o + P * (y - r) + P * 1073741824 * (x + A * D) = o + P * (c + A * (b + 1073741824 * D)) := by
  have e1 : A * (b + 1073741824 * D) = A * b + 1073741824 * (A * D) := by rw [Int.mul_add, Int.mul_left_comm]
  have key : y - r + 1073741824 * (x + A * D) = c + A * (b + 1073741824 * D) := by
    rw [e1]
    generalize A * D = z
    generalize A * b = u at *
    omega
  rw [← key, Int.mul_add P, ← Int.mul_assoc P 1073741824]
  omega
theorem times_step (k : Nat) (p q m : Bool) (a b out : List Int) (i kk : Nat) (c : Int) (ha : digs a) (hb : digs b) (ho : digs out) (hc : 0 ≤ c ∧ c < 1073741824) (hi : i < a.length) (hlen : out.length = a.length + b.length + 1)
    (hgo : kk < b.length ∨ 0 < c) (hkk : kk ≤ b.length) (hM : a.length + b.length < 1000000) :
    jigsawref01_Times.l1 (k + 1 + 1) i c kk p a q b m out = jigsawref01_Times.l1 k i ((rd out (i + kk : Nat) + c + rd a i * rd b kk) / 1073741824) ((kk + 1 : Nat) : Int) p a q b m (out.set (i + kk) ((rd out (i + kk : Nat) + c + rd a i * rd b kk) % 1073741824)) := by
  have h1 := digs_rd ha i
  have h2 := digs_rd hb kk
  have h3 := digs_rd ho (i + kk : Nat)
  have hp : 0 ≤ rd a i * rd b kk ∧ rd a i * rd b kk ≤ 1152921502459363329 := by
    refine ⟨Int.mul_nonneg h1.1 h2.1, ?_⟩
    have := Int.mul_le_mul (show rd a i ≤ 1073741823 by omega) (show rd b kk ≤ 1073741823 by omega) h2.1 (by omega)
    omega
  have g1 : (0 : Int) ≤ ((i + kk : Nat) : Int) := by omega
  have g2 : ((i + kk : Nat) : Int) < (out.length : Int) := by omega
  have g3 : (i : Int) < (a.length : Int) := by omega
  have g4 : (0 : Int) ≤ (i : Int) := by omega
  have g5 : (0 : Int) ≤ (kk : Int) := by omega
  have g6 : -9223372036854775808 ≤ (i : Int) + (kk : Int) ∧ (i : Int) + (kk : Int) ≤ 9223372036854775807 := by omega
  have g7 : -9223372036854775808 ≤ (kk : Int) + 1 ∧ (kk : Int) + 1 ≤ 9223372036854775807 := by omega
  have g8 : (i : Int) + (kk : Int) = ((i + kk : Nat) : Int) := by omega
  have g9 : ¬ ((kk : Int) < (b.length : Int)) → (0 : Int) < c := by omega
  have g10 : ¬ ((kk : Int) < (b.length : Int)) → b.length ≤ kk := by omega
  have hz : ¬ ((kk : Int) < (b.length : Int)) → rd b kk = 0 := fun h => rd_beyond b kk (g10 h)
  generalize hx : rd a i = x at *
  generalize hy : rd b kk = y at *
  generalize hr : rd out (i + kk : Nat) = r at *
  have hxy : -9223372036854775808 ≤ x * y ∧ x * y ≤ 9223372036854775807 := by
    clear hx hy hr
    generalize x * y = z at *
    omega
  have hn : 0 ≤ r + c + x * y ∧ -9223372036854775808 ≤ r + c + x * y ∧ r + c + x * y ≤ 9223372036854775807 := by
    clear hx hy hr hxy
    generalize x * y = z at *
    omega
  have hrc : -9223372036854775808 ≤ r + c ∧ r + c ≤ 9223372036854775807 := by
    clear hx hy hr hxy hn hp
    omega
  have hq : -9223372036854775808 ≤ (r + c + x * y) / 1073741824 ∧ (r + c + x * y) / 1073741824 ≤ 9223372036854775807 := by
    clear hx hy hr hxy hp
    generalize r + c + x * y = n at *
    omega
  have hj : jigsawref01_Times.j2 (k + 1) i c kk true p a q b m out = jigsawref01_Times.l1 k i ((r + c + x * y) / 1073741824) ((kk + 1 : Nat) : Int) p a q b m (out.set (i + kk) ((r + c + x * y) % 1073741824)) := by
    simp only [jigsawref01_Times.j2]
    rewrite [if_pos trivial, IntWalk.wrap64_in _ g6, g8, if_pos g1, if_pos g2, IntWalk.wrap64_in _ g7, hr, hx, hy, IntWalk.wrap64_in _ hrc]
    by_cases hib : (kk : Int) < (b.length : Int)
    · rewrite [if_pos hib, if_pos g4, if_pos g3, if_pos g5, IntWalk.wrap64_in _ hxy, IntWalk.wrap64_in _ hn.2, Int.tdiv_eq_ediv_of_nonneg hn.1, Int.tmod_eq_emod_of_nonneg hn.1, IntWalk.wrap64_in _ hq, Int.toNat_natCast]
      rfl
    · have hy0 := hz hib
      rewrite [hy0, Int.mul_zero, Int.add_zero] at hn hq
      rewrite [if_neg hib, hy0, Int.mul_zero, Int.add_zero, Int.tdiv_eq_ediv_of_nonneg hn.1, Int.tmod_eq_emod_of_nonneg hn.1, IntWalk.wrap64_in _ hq, Int.toNat_natCast]
      rfl
  refine Eq.trans ?_ hj
  clear hj
  simp only [jigsawref01_Times.l1]
  by_cases hib : (kk : Int) < (b.length : Int)
  · exact if_pos hib
  · refine (if_neg hib).trans ?_
    rewrite [decide_eq_true (g9 hib)]
    rfl
theorem times_out (k : Nat) (p q m : Bool) (a b out : List Int) (i kk : Nat) (hkk : b.length ≤ kk) (hi : i < a.length) (hM : a.length < 1000000) :
    jigsawref01_Times.l1 (k + 1 + 1) i 0 kk p a q b m out = jigsawref01_Times.l0 k ((i + 1 : Nat) : Int) p a q b m out := by
  simp only [jigsawref01_Times.l1, jigsawref01_Times.j2]
  rw [if_neg (by omega), if_neg (by decide), show wrap64 ((i : Int) + 1) = ((i + 1 : Nat) : Int) from IntWalk.wrap64_in _ (by omega)]
theorem times_inner (p q m : Bool) (a b : List Int) (ha : digs a) (hb : digs b) (hM : a.length + b.length < 1000000) (i : Nat) (hi : i < a.length) (V : Int) (hV : V < bp (i + 1 + b.length)) :
    ∀ (d kk : Nat) (c : Int) (out : List Int), b.length + 1 - kk = d → kk ≤ b.length + 1 → digs out → out.length = a.length + b.length + 1 → 0 ≤ c ∧ c < 1073741824 →
      val out + bp (i + kk) * (c + rd a i * val (b.drop kk)) = V → ∃ out', digs out' ∧ out'.length = a.length + b.length + 1 ∧ val out' = V ∧ ∀ r, Ev (fun k => jigsawref01_Times.l0 k ((i + 1 : Nat) : Int) p a q b m out') r → Ev (fun k => jigsawref01_Times.l1 k i c kk p a q b m out) r
  | d, kk, c, out, hd, hkk, ho, hlen, hc, hv => by
    by_cases hgo : kk < b.length ∨ 0 < c
    · have hkb : kk ≤ b.length := by
        by_cases h : kk ≤ b.length
        · exact h
        · exfalso
          obtain rfl : kk = b.length + 1 := by omega
          rw [List.drop_of_length_le (by omega)] at hv
          simp only [val, Int.mul_zero, Int.add_zero] at hv
          have h0 := (val_bound ho).1
          have h1 : bp (i + (b.length + 1)) * 1 ≤ bp (i + (b.length + 1)) * c := Int.mul_le_mul_of_nonneg_left (by omega) (Int.le_of_lt (bp_pos _))
          rw [show i + 1 + b.length = i + (b.length + 1) by omega] at hV
          omega
      have h1 := digs_rd ha i
      have h2 := digs_rd hb kk
      have h3 := digs_rd ho (i + kk : Nat)
      have hp : 0 ≤ rd a i * rd b kk ∧ rd a i * rd b kk ≤ 1152921502459363329 := by
        refine ⟨Int.mul_nonneg h1.1 h2.1, ?_⟩
        have := Int.mul_le_mul (show rd a i ≤ 1073741823 by omega) (show rd b kk ≤ 1073741823 by omega) h2.1 (by omega)
        omega
      cases d with
      | zero => omega
      | succ d =>
        have hcd : 0 ≤ (rd out (i + kk : Nat) + c + rd a i * rd b kk) / 1073741824 ∧ (rd out (i + kk : Nat) + c + rd a i * rd b kk) / 1073741824 < 1073741824 := by
          generalize rd a i * rd b kk = z at *
          omega
        obtain ⟨out', o1, o2, o3, o4⟩ := times_inner p q m a b ha hb hM i hi V hV d (kk + 1) ((rd out (i + kk : Nat) + c + rd a i * rd b kk) / 1073741824) (out.set (i + kk) ((rd out (i + kk : Nat) + c + rd a i * rd b kk) % 1073741824)) (by omega) (by omega)
          (digs_set ho _ ⟨Int.emod_nonneg _ (by decide), Int.emod_lt_of_pos _ (by decide)⟩) (by rw [List.length_set]; exact hlen) hcd (by
            have dr := val_drop b kk
            rw [val_set _ _ _ (by omega), ← hv, dr, show i + (kk + 1) = i + kk + 1 by omega, bp_succ]
            have e : rd out (i + kk : Nat) + c + rd a i * rd b kk = 1073741824 * ((rd out (i + kk : Nat) + c + rd a i * rd b kk) / 1073741824) + (rd out (i + kk : Nat) + c + rd a i * rd b kk) % 1073741824 := by
              generalize rd out (i + kk : Nat) + c + rd a i * rd b kk = z
              omega
            exact times_alg _ _ _ _ _ _ _ _ _ e)
        refine ⟨out', o1, o2, o3, fun r hr => ?_⟩
        obtain ⟨K, hK⟩ := o4 r hr
        refine ⟨K + 2, fun k hk => ?_⟩
        obtain ⟨k, rfl⟩ : ∃ m, k = m + 1 + 1 := ⟨k - 2, by omega⟩
        exact (times_step k p q m a b out i kk c ha hb ho hc hi hlen hgo hkb hM).trans (hK k (by omega))
    · obtain rfl : c = 0 := by omega
      rw [List.drop_of_length_le (by omega)] at hv
      simp only [val, Int.mul_zero, Int.add_zero] at hv
      refine ⟨out, ho, hlen, hv, fun r hr => ?_⟩
      obtain ⟨K, hK⟩ := hr
      refine ⟨K + 2, fun k hk => ?_⟩
      obtain ⟨k, rfl⟩ : ∃ m, k = m + 1 + 1 := ⟨k - 2, by omega⟩
      exact (times_out k p q m a b out i kk (by omega) hi (by omega)).trans (hK k (by omega))
theorem times_outer (p q m : Bool) (a b : List Int) (ha : digs a) (hb : digs b) (hM : a.length + b.length < 1000000) : ∀ (d i : Nat) (out : List Int), a.length = i + d → digs out → out.length = a.length + b.length + 1 → val out = val (a.take i) * val b →
    ∃ l', digs l' ∧ norm l' ∧ l'.length ≤ a.length + b.length + 1 ∧ val l' = val a * val b ∧ Ev (fun k => jigsawref01_Times.l0 k i p a q b m out) (if l' = [] then false else m, l')
  | 0, i, out, hd, ho, hlen, hv => by
    obtain ⟨l', t1, t2, t3, t4, t5⟩ := trim_spec m out (by omega) ho
    rw [List.take_of_length_le (by omega)] at hv
    refine ⟨l', t1, t2, by omega, by rw [t4, hv], Ev.step (fun k => ?_) (Ev.bind (f := fun _ bt => some (bt.1, bt.2)) t5 (Ev.now _))⟩
    simp only [jigsawref01_Times.l0]
    rw [if_neg (by omega)]
  | d + 1, i, out, hd, ho, hlen, hv => by
    have hb1 := val_bound hb
    have ht1 := val_bound (digs_take ha (i + 1))
    rw [List.length_take, Nat.min_eq_left (by omega)] at ht1
    have hV : val (a.take (i + 1)) * val b < bp (i + 1 + b.length) := by
      rw [bp_add]
      have h1 : val (a.take (i + 1)) * val b ≤ val (a.take (i + 1)) * bp b.length := Int.mul_le_mul_of_nonneg_left (by omega) ht1.1
      have h2 : (val (a.take (i + 1)) + 1) * bp b.length ≤ bp (i + 1) * bp b.length := Int.mul_le_mul_of_nonneg_right (by omega) (Int.le_of_lt (bp_pos _))
      rw [Int.add_mul] at h2
      have := bp_pos b.length
      omega
    obtain ⟨out', o1, o2, o3, o4⟩ := times_inner p q m a b ha hb hM i (by omega) (val (a.take (i + 1)) * val b) hV (b.length + 1) 0 0 out (by omega) (by omega) ho hlen (by decide) (by
      rw [List.drop_zero, hv, val_take_succ a i (by omega), Nat.add_zero, Int.zero_add, Int.add_mul, Int.mul_assoc])
    obtain ⟨l', r1, r2, r3, r4, r5⟩ := times_outer p q m a b ha hb hM d (i + 1) out' (by omega) o1 o2 o3
    refine ⟨l', r1, r2, r3, r4, Ev.step (fun k => ?_) (o4 _ r5)⟩
    simp only [jigsawref01_Times.l0]
    rw [if_pos (by omega)]
    rfl
theorem val_zeros (n : Nat) : val (List.replicate n 0) = 0 := by
  induction n with
  | zero => rfl
  | succ n ih => rw [List.replicate_succ]; simp only [val, ih]; rfl
theorem digs_zeros (n : Nat) : digs (List.replicate n 0) := fun d hd => by
  rw [(List.mem_replicate.1 hd).2]; decide
theorem sv_mul (p q : Bool) (a b : List Int) (l : List Int) (h : val l = val a * val b) : sv (p != q) l = sv p a * sv q b := by
  unfold sv
  cases p <;> cases q <;> simp [h, Int.neg_mul, Int.mul_neg]
theorem times_spec (p q : Bool) (a b : List Int) (ha : digs a) (hb : digs b) (hM : a.length + b.length < 1000000) :
    ∃ (m : Bool) (l : List Int), digs l ∧ norm l ∧ l.length ≤ a.length + b.length + 1 ∧ sv m l = sv p a * sv q b ∧ Ev (fun k => jigsawref01_Times.f k p a q b) (m, l) := by
  have e1 : wrap64 ((a.length : Int) + (b.length : Int)) = ((a.length + b.length : Nat) : Int) := by rw [IntWalk.wrap64_in _ (by omega)]; omega
  have e2 : wrap64 (((a.length + b.length : Nat) : Int) + 1) = ((a.length + b.length + 1 : Nat) : Int) := by rw [IntWalk.wrap64_in _ (by omega)]; omega
  obtain ⟨l', r1, r2, r3, r4, r5⟩ := times_outer p q (p != q) a b ha hb hM a.length 0 (List.replicate (a.length + b.length + 1) 0) (by omega) (digs_zeros _) (by simp) (by rw [val_zeros]; simp [val])
  refine ⟨if l' = [] then false else p != q, l', r1, r2, r3, by rw [sv_if]; exact sv_mul p q a b l' r4, Ev.congr (fun k => ?_) r5⟩
  unfold jigsawref01_Times.f
  rw [e1, e2, Int.toNat_natCast, if_pos (Int.natCast_nonneg _), if_pos (by clear e1 e2; omega)]
  rfl
end Go.Proofs.Ytfkbkcdiajjljaa.Spec
