/- Sums, differences, products, signs and powers of any whole numbers of 64 bits are right, or told to be beyond 64 bits. -/
import Derived.Test.YtfkbkcdiajjljaaBig2
import Derived.Test.YtfkbkcdiajjljaaPAx9
set_option linter.unusedVariables false
namespace Go.Proofs.Ytfkbkcdiajjljaa.Pure
open Go.RowKit Go.Proofs.Ytfkbkcdiajjljaa.PA Go.Proofs.Ytfkbkcdiajjljaa.Spec Go.Proofs.YtfkbkcdiajjljaaW.PrintWords Go.Proofs.YtfkbkcdiajjljaaW.PrintLast

theorem ints_Neg.spec (a : Int) (ha : fits a) : ints_Neg.f a = some (reck (-a)) := by
  unfold ints_Neg.f
  rw [ints_Sub.spec 0 a (by unfold fits; decide) ha, Int.zero_sub]
  rfl
theorem ints_Abs.spec (k : Nat) (a : Int) (ha : fits a) : ints_Abs.f (k + 1) a = some (reck (a.natAbs : Int)) := by
  unfold ints_Abs.f
  rw [ints_size.spec a ha]
  simp only [Option.bind_some]
  rw [ints_signed.spec k _ false (natAbs_range a ha).1 (natAbs_range a ha).2]
  rfl
theorem bind_eta (r : Int × Int) : ((some r).bind fun bt => some (bt.1, bt.2)) = some r := rfl
theorem bind_ev {α β : Type} {x : Option α} {a : α} {f : α → Option β} {r : Option β} (h : x = some a) (k : f a = r) : x.bind f = r := by subst h; exact k
theorem le4 {a b c d k : Nat} (h : a + b + c + d ≤ k) : a ≤ k ∧ b ≤ k ∧ c ≤ k ∧ d ≤ k := by omega
theorem len2 {x y z : Nat} (h : z ≤ x + y + 1) (hx : x ≤ 3) (hy : y ≤ 3) : z < 1000000 := by omega
theorem sum2 {x y : Nat} (hx : x ≤ 3) (hy : y ≤ 3) : x + y < 1000000 := by omega
theorem sv_of (a : Int) (l : List Int) (h : val l = (a.natAbs : Int)) : sv (decide (a < 0)) l = a := by
  by_cases hn : a < 0
  · rw [decide_eq_true hn]
    show -val l = a
    rw [h]; omega
  · rw [decide_eq_false hn]
    show val l = a
    rw [h]; omega

theorem refAdd (a b : Int) (ha : fits a) (hb : fits b) : Ev (fun k => jigsawref01_Add.f k a b) (reck (a + b)) := by
  obtain ⟨la, a1, a2, a3, a4, K1, h1⟩ := of_spec a ha
  obtain ⟨lb, b1, b2, b3, b4, K2, h2⟩ := of_spec b hb
  obtain ⟨m, l, c1, c2, c3, c4, _, K3, h3⟩ := plus_spec (decide (a < 0)) (decide (b < 0)) la lb a1 b1 a2 b2 3 a3 b3 (by decide)
  obtain ⟨K4, h4⟩ := back_spec m l c1 c2 (Nat.lt_of_le_of_lt c3 (by decide))
  refine ⟨K1 + K2 + K3 + K4, fun k hk => ?_⟩
  have e1 : jigsawref01_Of.f k a = _ := h1 k (le4 hk).1
  have e2 : jigsawref01_Of.f k b = _ := h2 k (le4 hk).2.1
  have e3 : jigsawref01_Plus.f k (decide (a < 0)) la (decide (b < 0)) lb = _ := h3 k (le4 hk).2.2.1
  have e4 : jigsawref01_Back.f k m l = _ := h4 k (le4 hk).2.2.2
  show jigsawref01_Add.f k a b = _
  unfold jigsawref01_Add.f
  rw [e1]
  simp only [Option.bind_some]
  rw [e2]
  simp only [Option.bind_some]
  rw [e3]
  simp only [Option.bind_some]
  rw [e4, c4, sv_of a la a4, sv_of b lb b4]
  exact bind_eta _

theorem refSub (a b : Int) (ha : fits a) (hb : fits b) : Ev (fun k => jigsawref01_Sub.f k a b) (reck (a - b)) := by
  obtain ⟨la, a1, a2, a3, a4, K1, h1⟩ := of_spec a ha
  obtain ⟨lb, b1, b2, b3, b4, K2, h2⟩ := of_spec b hb
  obtain ⟨q, hq⟩ : ∃ q, q = (if b < 0 then false else decide (0 < lb.length)) := ⟨_, rfl⟩
  have hsv : sv q lb = -b := by
    subst hq
    by_cases hn : b < 0
    · rw [if_pos hn]
      show val lb = -b
      rw [b4]; omega
    · rw [if_neg hn]
      by_cases hl : 0 < lb.length
      · rw [decide_eq_true hl]
        show -val lb = -b
        rw [b4]; omega
      · have : lb = [] := List.eq_nil_of_length_eq_zero (by omega)
        subst this
        have b5 : (0 : Int) = (b.natAbs : Int) := b4
        show (0 : Int) = -b
        omega
  obtain ⟨m, l, c1, c2, c3, c4, _, K3, h3⟩ := plus_spec (decide (a < 0)) q la lb a1 b1 a2 b2 3 a3 b3 (by decide)
  obtain ⟨K4, h4⟩ := back_spec m l c1 c2 (Nat.lt_of_le_of_lt c3 (by decide))
  refine ⟨K1 + K2 + K3 + K4, fun k hk => ?_⟩
  have e1 : jigsawref01_Of.f k a = _ := h1 k (le4 hk).1
  have e2 : jigsawref01_Of.f k b = _ := h2 k (le4 hk).2.1
  have e3 : jigsawref01_Plus.f k (decide (a < 0)) la q lb = _ := h3 k (le4 hk).2.2.1
  have e4 : jigsawref01_Back.f k m l = _ := h4 k (le4 hk).2.2.2
  have hres : sv m l = a - b := by rw [c4, sv_of a la a4, hsv]; exact (Int.sub_eq_add_neg).symm
  show jigsawref01_Sub.f k a b = _
  unfold jigsawref01_Sub.f
  rw [e2]
  simp only [Option.bind_some]
  by_cases hn : b < 0
  · rw [if_pos hn] at hq
    subst hq
    rw [decide_eq_true hn, if_pos rfl, e1]
    simp only [Option.bind_some]
    rw [e3]
    simp only [Option.bind_some]
    rw [e4, hres]
    exact bind_eta _
  · rw [if_neg hn] at hq
    rw [decide_eq_false hn, if_neg (by decide), e1]
    simp only [Option.bind_some]
    rw [← hq, e3]
    simp only [Option.bind_some]
    rw [e4, hres]
    exact bind_eta _

theorem refMul (a b : Int) (ha : fits a) (hb : fits b) : Ev (fun k => jigsawref01_Mul.f k a b) (reck (a * b)) := by
  obtain ⟨la, a1, a2, a3, a4, K1, h1⟩ := of_spec a ha
  obtain ⟨lb, b1, b2, b3, b4, K2, h2⟩ := of_spec b hb
  obtain ⟨m, l, c1, c2, c3, c4, K3, h3⟩ := times_spec (decide (a < 0)) (decide (b < 0)) la lb a1 b1 (sum2 a3 b3)
  obtain ⟨K4, h4⟩ := back_spec m l c1 c2 (len2 c3 a3 b3)
  refine ⟨K1 + K2 + K3 + K4, fun k hk => ?_⟩
  have e1 : jigsawref01_Of.f k a = _ := h1 k (le4 hk).1
  have e2 : jigsawref01_Of.f k b = _ := h2 k (le4 hk).2.1
  have e3 : jigsawref01_Times.f k (decide (a < 0)) la (decide (b < 0)) lb = _ := h3 k (le4 hk).2.2.1
  have e4 : jigsawref01_Back.f k m l = _ := h4 k (le4 hk).2.2.2
  show jigsawref01_Mul.f k a b = _
  unfold jigsawref01_Mul.f
  refine bind_ev e1 (bind_ev e2 (bind_ev (a := (m, l)) e3 (bind_ev (a := reck (sv m l)) e4 ?_)))
  rewrite [c4, sv_of a la a4, sv_of b lb b4]
  rfl

theorem refNeg (a : Int) (ha : fits a) : Ev (fun k => jigsawref01_Neg.f k a) (reck (-a)) := by
  obtain ⟨K, h⟩ := refSub 0 a (by unfold fits; decide) ha
  refine ⟨K, fun k hk => ?_⟩
  have e : jigsawref01_Sub.f k 0 a = _ := h k hk
  show jigsawref01_Neg.f k a = _
  unfold jigsawref01_Neg.f
  rw [e, Int.zero_sub]
  exact bind_eta _
theorem refAbs (a : Int) (ha : fits a) : Ev (fun k => jigsawref01_Abs.f k a) (reck (a.natAbs : Int)) := by
  by_cases hn : a < 0
  · obtain ⟨K, h⟩ := refNeg a ha
    refine ⟨K, fun k hk => ?_⟩
    have e : jigsawref01_Neg.f k a = _ := h k hk
    show jigsawref01_Abs.f k a = _
    unfold jigsawref01_Abs.f
    rw [if_pos hn, e, show (a.natAbs : Int) = -a by omega]
    exact bind_eta _
  · refine ⟨0, fun k hk => ?_⟩
    show jigsawref01_Abs.f k a = _
    unfold jigsawref01_Abs.f
    rw [if_neg hn, show (a.natAbs : Int) = a by omega, reck_pos ha]

theorem lt_of_left {b : Int} {i d : Nat} (h : b.toNat = i + (d + 1)) : (i : Int) < b := by omega
theorem wrap_up {b : Int} {i : Nat} (h : (i : Int) < b) (h64 : b ≤ 64) : wrap64 ((i : Int) + 1) = ((i + 1 : Nat) : Int) := IntWalk.wrap64_in _ (by omega)
theorem le3 {a b c k : Nat} (h : a + b + c + 1 ≤ k) : ∃ j, k = j + 1 ∧ a ≤ j ∧ b ≤ j ∧ c ≤ j := ⟨k - 1, by omega, by omega, by omega, by omega⟩
theorem pow_l0_step (k : Nat) (a b : Int) (i : Nat) (m : Bool) (l : List Int) (h : (i : Int) < b) (hw : wrap64 ((i : Int) + 1) = ((i + 1 : Nat) : Int)) :
    jigsawref01_Pow.l0 (k + 1) a b i m l = (jigsawref01_Of.f k a).bind fun x => (jigsawref01_Times.f k m l x.1 x.2).bind fun y => jigsawref01_Pow.l0 k a b ((i + 1 : Nat) : Int) y.1 y.2 := by
  rewrite [jigsawref01_Pow.l0, if_pos h, hw]
  rfl
theorem pow_loop (a b : Int) (ha : fits a) (h0 : 0 ≤ b) (h64 : b ≤ 64) : ∀ (d i : Nat) (m : Bool) (l : List Int), b.toNat = i + d → digs l → norm l → sv m l = a ^ i → l.length ≤ 4 * i + 3 →
    Ev (fun k => jigsawref01_Pow.l0 k a b i m l) (reck (a ^ b.toNat))
  | 0, i, m, l, hd, h1, h2, h3, h4 => by
    obtain ⟨K, h⟩ := back_spec m l h1 h2 (by omega)
    refine ⟨K + 1, fun k hk => ?_⟩
    obtain ⟨k, rfl⟩ : ∃ j, k = j + 1 := ⟨k - 1, by omega⟩
    have e : jigsawref01_Back.f k m l = _ := h k (by omega)
    simp only [jigsawref01_Pow.l0]
    have hi : i = b.toNat := by omega
    subst hi
    rw [if_neg (by omega), e, h3]
    exact bind_eta _
  | d + 1, i, m, l, hd, h1, h2, h3, h4 => by
    obtain ⟨la, a1, a2, a3, a4, K1, g1⟩ := of_spec a ha
    obtain ⟨m', l', c1, c2, c3, c4, K2, g2⟩ := times_spec m (decide (a < 0)) l la h1 a1 (by omega)
    obtain ⟨K3, g3⟩ := pow_loop a b ha h0 h64 d (i + 1) m' l' (by omega) c1 c2 (by rw [c4, h3, sv_of a la a4, Int.pow_succ]) (by omega)
    have hlt : (i : Int) < b := lt_of_left hd
    have hw : wrap64 ((i : Int) + 1) = ((i + 1 : Nat) : Int) := wrap_up hlt h64
    refine ⟨K1 + K2 + K3 + 1, fun k hk => ?_⟩
    obtain ⟨k, rfl, hk1, hk2, hk3⟩ := le3 hk
    have e1 : jigsawref01_Of.f k a = _ := g1 k hk1
    have e2 : jigsawref01_Times.f k m l (decide (a < 0)) la = _ := g2 k hk2
    have e3 : jigsawref01_Pow.l0 k a b ((i + 1 : Nat) : Int) m' l' = _ := g3 k hk3
    refine (pow_l0_step k a b i m l hlt hw).trans ?_
    exact bind_ev e1 (bind_ev (a := (m', l')) e2 e3)

theorem refPow (a b : Int) (ha : fits a) (hb : fits b) : Ev (fun k => jigsawref01_Pow.f k a b) (powS a b) := by
  have now : ∀ r, (∀ k, jigsawref01_Pow.f (k + 1) a b = some r) → Ev (fun k => jigsawref01_Pow.f k a b) r := fun r h => Ev.step (f := fun _ => some r) h (Ev.now r)
  unfold powS smallS
  by_cases h1 : b = 0
  · rw [if_pos h1]
    exact now _ fun k => by unfold jigsawref01_Pow.f; rw [if_pos h1]
  · rw [if_neg h1]
    by_cases h2 : a = 1
    · rw [if_pos h2]
      exact now _ fun k => by
        unfold jigsawref01_Pow.f
        simp only [jigsawref01_Pow.j0]
        rw [if_neg h1, if_neg (by omega), if_pos h2]
        simp only [if_true]
        rw [if_neg (by omega)]
    · rw [if_neg h2]
      by_cases h3 : a = -1
      · rw [if_pos h3]
        have ht : (Int.tmod b 2 = 0) ↔ b % 2 = 0 := by rw [← Int.dvd_iff_tmod_eq_zero, Int.dvd_iff_emod_eq_zero]
        by_cases h4 : b % 2 = 0
        · rw [if_pos h4]
          exact now _ fun k => by
            unfold jigsawref01_Pow.f
            simp only [jigsawref01_Pow.j0]
            rw [if_neg h1, if_neg (by omega), if_neg h2, if_pos (by simp [h3]), if_pos h3, if_pos (ht.2 h4)]
        · rw [if_neg h4]
          exact now _ fun k => by
            unfold jigsawref01_Pow.f
            simp only [jigsawref01_Pow.j0]
            rw [if_neg h1, if_neg (by omega), if_neg h2, if_pos (by simp [h3]), if_pos h3, if_neg (fun x => h4 (ht.1 x))]
      · rw [if_neg h3]
        by_cases h4 : a = 0
        · rw [if_pos h4]
          by_cases h5 : b < 0
          · rw [if_pos h5]
            exact now _ fun k => by unfold jigsawref01_Pow.f; rw [if_neg h1, if_pos h4, if_pos h5]
          · rw [if_neg h5]
            exact now _ fun k => by unfold jigsawref01_Pow.f; rw [if_neg h1, if_pos h4, if_neg h5]
        · rw [if_neg h4]
          have hj : (a == -1) = false := by rw [beq_eq_false_iff_ne]; exact h3
          by_cases h5 : b < 0
          · rw [if_pos h5]
            exact now _ fun k => by
              unfold jigsawref01_Pow.f
              simp only [jigsawref01_Pow.j0]
              rw [if_neg h1, if_neg h4, if_neg h2, hj, if_neg (by decide), if_pos h5]
          · rw [if_neg h5]
            by_cases h6 : b > 64
            · have hnf : ¬ fits (a ^ b.toNat) := by
                have hbig : ¬ fits (a ^ 64) := by
                  have h7 : 2 ^ 64 ≤ a.natAbs ^ 64 := Nat.pow_le_pow_left (by omega) 64
                  rw [← pow_natAbs] at h7
                  unfold fits
                  omega
                exact beyond_up (by omega) (by omega) hbig
              simp only [reck_neg hnf]
              exact now _ fun k => by
                unfold jigsawref01_Pow.f
                simp only [jigsawref01_Pow.j0]
                rw [if_neg h1, if_neg h4, if_neg h2, hj, if_neg (by decide), if_neg h5, if_pos h6]
            · obtain ⟨l1, o1, o2, o3, o4, K1, g1⟩ := of_spec 1 (by unfold fits; decide)
              obtain ⟨K2, g2⟩ := pow_loop a b ha (by omega) (by omega) b.toNat 0 (decide ((1 : Int) < 0)) l1 (by omega) o1 o2 (by rw [sv_of 1 l1 o4, Int.pow_zero]) (by omega)
              refine ⟨K1 + K2 + 1, fun k hk => ?_⟩
              obtain ⟨k, rfl⟩ : ∃ j, k = j + 1 := ⟨k - 1, by omega⟩
              have e1 : jigsawref01_Of.f k 1 = _ := g1 k (by omega)
              have e2 : jigsawref01_Pow.l0 k a b ((0 : Nat) : Int) (decide ((1 : Int) < 0)) l1 = _ := g2 k (by omega)
              show jigsawref01_Pow.f (k + 1) a b = _
              unfold jigsawref01_Pow.f
              simp only [jigsawref01_Pow.j0]
              rw [if_neg h1, if_neg h4, if_neg h2, hj, if_neg (by decide), if_neg h5, if_neg h6, e1]
              simp only [Option.bind_some]
              exact e2

theorem IntsReckons : jigsawlaw01_IntsReckons.Pure := by
  intro a b wa wb
  have ha := fits_of_wf wa
  have hb := fits_of_wf wb
  obtain ⟨K1, h1⟩ := refAdd a b ha hb
  obtain ⟨K2, h2⟩ := refSub a b ha hb
  obtain ⟨K3, h3⟩ := refMul a b ha hb
  obtain ⟨K4, h4⟩ := refPow a b ha hb
  obtain ⟨K5, h5⟩ := refNeg a ha
  obtain ⟨K6, h6⟩ := refAbs a ha
  obtain ⟨K, hK⟩ : ∃ K, K = K1 + K2 + K3 + K4 + K5 + K6 := ⟨_, rfl⟩
  have e1 : jigsawref01_Add.f (K + 1 + 1) a b = _ := h1 _ (by omega)
  have e2 : jigsawref01_Sub.f (K + 1 + 1) a b = _ := h2 _ (by omega)
  have e3 : jigsawref01_Mul.f (K + 1 + 1) a b = _ := h3 _ (by omega)
  have e4 : jigsawref01_Pow.f (K + 1 + 1) a b = _ := h4 _ (by omega)
  have e5 : jigsawref01_Neg.f (K + 1) a = _ := h5 _ (by omega)
  have e6 : jigsawref01_Abs.f (K + 1) a = _ := h6 _ (by omega)
  refine ⟨K + 1 + 1, ?_⟩
  unfold jigsawlaw01_IntsReckons.f
  rw [ints_Add.spec a b ha hb, e1, ints_Sub.spec a b ha hb, e2, ints_Mul.spec _ a b ha hb, e3, ints_Pow.spec a b ha hb, e4]
  simp only [Option.bind_some, if_true]
  have hne : ((powS a b).2 != (powS a b).2) = false := by simp
  rw [hne]
  simp only [jigsawlaw01_IntsReckons.j0]
  rw [if_neg (by decide), ints_Neg.spec a ha, e5, ints_Abs.spec _ a ha, e6]
  simp only [Option.bind_some, if_true, known]
end Go.Proofs.Ytfkbkcdiajjljaa.Pure
