/- Parts of the laws of lex: functions of the program, each with the proof of what it answers; the conditions are those of each theorem. -/
import Derived.Test.YtgpdahgpopmjiaaDoorLr
namespace Go.Proofs.YtgpdahgpopmjiaaDoor.PL
open Go.RowKit Go.Proofs.YtgpdahgpopmjiaaDoorW.PrintWords Go.Proofs.YtgpdahgpopmjiaaDoorW.PrintLast Go.Proofs.YtgpdahgpopmjiaaDoorW.PrintMore
set_option linter.unusedVariables false
set_option linter.unusedSimpArgs false
/-! #### number -/
def capV (D : Nat) : Int := if D ≤ 1000000000 then (D : Int) else 1000000001
def digF (n : Nat) (c : UInt8) : Nat := 10 * n + (c.toNat - 48)
theorem digit_range {c : UInt8} (h : digitB c = true) : 48 ≤ c.toNat ∧ c.toNat ≤ 57 := by
  unfold digitB at h
  rw [Bool.and_eq_true, decide_eq_true_iff, decide_eq_true_iff, UInt8.le_iff_toNat_le, UInt8.le_iff_toNat_le] at h
  exact h
theorem cap_step (D c : Nat) (h : 48 ≤ c ∧ c ≤ 57) : (if wrap64 (wrap64 (10 * capV D) + (((c : Int) - 48) % 256)) > 1000000000 then 1000000001 else wrap64 (wrap64 (10 * capV D) + (((c : Int) - 48) % 256))) = capV (10 * D + (c - 48)) := by
  have hm : ((c : Int) - 48) % 256 = (c : Int) - 48 := by omega
  have hv : 0 ≤ capV D ∧ capV D ≤ 1000000001 := by unfold capV; split <;> omega
  rw [hm, IntWalk.wrap64_in (10 * capV D) (by omega), IntWalk.wrap64_in _ (by omega)]
  unfold capV
  by_cases hD : D ≤ 1000000000
  · rw [if_pos hD]
    by_cases h2 : 10 * D + (c - 48) ≤ 1000000000
    · rw [if_neg (by omega), if_pos h2]; omega
    · rw [if_pos (by omega), if_neg h2]
  · rw [if_neg hD, if_pos (by omega), if_neg (by omega)]
theorem ref_num_loop (s : ByteArray) (hs : s.size ≤ 140737488351232) (x6 x9 : Int) (x7 : Bool) (R : Int × ByteArray × Int × Int × Int) : ∀ (d k D : Nat), k ≤ s.size → s.size - k = d →
    Ev (fun n => jigsawref15_number.j2 n s (runTo digitB s k : Nat) x6 x7 (capV ((((ll s).drop k).takeWhile digitB).foldl digF D)) x9 false) R → Ev (fun n => jigsawref15_number.l0 n s (k : Nat) x6 x7 (capV D) x9) R
  | 0, k, D, hk, hd, h => by
    rw [runTo_end _ s k (by omega), drop_end s k (by omega)] at h
    refine Ev.step (fun n => ?_) h
    simp only [jigsawref15_number.l0]
    rw [if_neg (by omega)]
    rfl
  | d + 1, k, D, hk, hd, h => by
    have hlt : k < s.size := by omega
    cases hb : digitB s[k] with
    | false =>
      rw [runTo_miss _ s k hlt hb, ll_drop s k hlt, List.takeWhile_cons, hb] at h
      refine Ev.step (fun n => ?_) h
      simp only [jigsawref15_number.l0]
      rw [if_pos (by omega), if_pos (by omega), digit_at s k hlt, hb]
      rfl
    | true =>
      rw [runTo_hit _ s k hlt hb, ll_drop s k hlt, List.takeWhile_cons, hb] at h
      have ih := ref_num_loop s hs x6 x9 x7 R d (k + 1) (digF D s[k]) (by omega) (by omega) h
      have hst : ∀ n, jigsawref15_number.j2 (n + 1) s (k : Nat) x6 x7 (capV D) x9 true = jigsawref15_number.l0 n s ((k + 1 : Nat) : Int) x6 x7 (capV (digF D s[k])) x9 := fun n => by
        simp only [jigsawref15_number.j2]
        rw [if_pos trivial, if_pos (by omega), if_pos (by omega), wrap_succ k (by omega), bt_at s k hlt]
        have hc := cap_step D s[k].toNat (digit_range hb)
        unfold digF
        rw [← hc]
        split
        · rfl
        · rfl
      refine Ev.step (f := fun n => jigsawref15_number.j2 n s (k : Nat) x6 x7 (capV D) x9 true) (fun n => ?_) (Ev.step (fun n => hst n) ih)
      simp only [jigsawref15_number.l0]
      rw [if_pos (by omega), if_pos (by omega), digit_at s k hlt, hb]
      rfl
def resR (s : ByteArray) (k : Nat) : One → Int × ByteArray × Int × Int × Int
  | .ok kind len v => (kind, s.extract k (k + len), v, (k : Nat), 0)
  | .bad e => (0, ⟨#[]⟩, 0, 0, e)
theorem ref_num_end (s : ByteArray) (hs : s.size ≤ 140737488351232) (k st : Nat) (b : Bool) (hst : st = k + (if b then 1 else 0)) (hk : st ≤ s.size) :
    Ev (fun n => jigsawref15_number.j2 n s (runTo digitB s st : Nat) (k : Nat) b (capV ((((ll s).drop st).takeWhile digitB).foldl digF 0)) (st : Nat) false) (resR s k (numL b ((ll s).drop st))) := by
  have hle := runTo_le digitB s st hk
  have hr : runTo digitB s st = st + (((ll s).drop st).takeWhile digitB).length := rfl
  have hdw : ((ll s).drop st).dropWhile digitB = (ll s).drop (runTo digitB s st) := (drop_runTo _ _ _).symm
  have hdv : (((ll s).drop st).takeWhile digitB).foldl digF 0 = decV (((ll s).drop st).takeWhile digitB) := rfl
  unfold numL
  rw [hdw, hdv]
  generalize ((ll s).drop st).takeWhile digitB = L at *
  generalize runTo digitB s st = e at *
  have hf := ref_float s hs e hle.2
  generalize floatL ((ll s).drop e) = fl at *
  by_cases h0 : L = []
  · subst h0
    rw [if_pos (.inl rfl)]
    refine ⟨2, fun n hn => ?_⟩
    obtain ⟨m, rfl⟩ : ∃ m, n = m + 1 + 1 := ⟨n - 2, by omega⟩
    simp only [jigsawref15_number.j2]
    rw [if_neg (by decide), if_pos (by rw [hr]; rfl)]
    simp only [jigsawref15_number.j3]
    rw [if_pos trivial]
    rfl
  · have hne : ¬ ((e : Nat) : Int) = (st : Nat) := by
      have : 0 < L.length := List.length_pos_iff.2 h0
      omega
    by_cases hbig : 1000000000 < decV L
    · rw [if_pos (.inr hbig)]
      have hc : capV (decV L) = 1000000001 := if_neg (by omega)
      refine ⟨2, fun n hn => ?_⟩
      obtain ⟨m, rfl⟩ : ∃ m, n = m + 1 + 1 := ⟨n - 2, by omega⟩
      simp only [jigsawref15_number.j2]
      rw [if_neg (by decide), if_neg hne, hc]
      simp only [jigsawref15_number.j3]
      rw [if_pos (by decide)]
      rfl
    · have hc : capV (decV L) = (decV L : Int) := if_pos (by omega)
      have hnot : ¬ (L = [] ∨ 1000000000 < decV L) := fun h => h.elim h0 hbig
      rw [if_neg hnot, hc]
      have hd : decide ((decV L : Int) > 1000000000) = false := decide_eq_false (by omega)
      have h3 : Ev (fun n => jigsawref15_number.j3 n s (e : Nat) (k : Nat) b (decV L : Int) false) (resR s k (if fl = true then One.bad 173 else One.ok 2 ((if b = true then 1 else 0) + L.length) (if b = true then -(decV L : Int) else (decV L : Int)))) := by
        obtain ⟨K, hK⟩ := hf
        refine ⟨K + 1, fun n hn => ?_⟩
        obtain ⟨m, rfl⟩ : ∃ m, n = m + 1 := ⟨n - 1, by omega⟩
        have h1 : jigsawref15_float.f m s (e : Nat) = some fl := hK m (by omega)
        simp only [jigsawref15_number.j3]
        rw [if_neg (by decide), h1]
        simp only [Option.bind_some]
        cases fl with
        | true => rfl
        | false =>
          rw [if_neg (by decide)]
          have hw : wrap64 (-(decV L : Int)) = -(decV L : Int) := IntWalk.wrap64_in _ (by omega)
          have he : e = k + ((if b = true then 1 else 0) + L.length) := by omega
          cases b with
          | true =>
            rw [if_pos rfl, if_pos (by omega), if_pos (by omega), if_pos (by omega), hw]
            simp only [resR, Int.toNat_natCast]
            rw [he]
            rfl
          | false =>
            rw [if_neg (by decide), if_pos (by omega), if_pos (by omega), if_pos (by omega)]
            simp only [resR, Int.toNat_natCast]
            rw [he]
            rfl
      refine Ev.step (fun n => ?_) h3
      simp only [jigsawref15_number.j2]
      rw [if_neg (by decide), if_neg hne, hd]
theorem ref_number (s : ByteArray) (hs : s.size ≤ 140737488351232) (k : Nat) (hk : k < s.size) : Ev (fun n => jigsawref15_number.f n s (k : Nat)) (resR s k (numL (s[k] == 45) ((ll s).drop (if s[k] == 45 then k + 1 else k)))) := by
  have h45 := bt_is s k hk 45 (by decide)
  have hz : capV 0 = 0 := rfl
  by_cases h : s[k] = 45
  · have hb : (s[k] == 45) = true := by rw [h]; decide
    have hI : bt s (k : Int) = 45 := h45.2 h
    rw [hb, if_pos rfl]
    have hl := ref_num_loop s hs (k : Nat) ((k + 1 : Nat) : Int) true _ _ (k + 1) 0 (by omega) rfl (ref_num_end s hs k (k + 1) true rfl (by omega))
    rw [hz] at hl
    refine Ev.congr (f := fun n => jigsawref15_number.j0 n s ((k + 1 : Nat) : Int) (k : Nat) true) (fun n => ?_) (Ev.step (fun n => ?_) hl)
    · simp only [jigsawref15_number.f]
      rw [if_pos (by omega), if_pos (by omega), if_pos hI, wrap_succ k (by omega), hI]
      rfl
    · simp only [jigsawref15_number.j0]
  · have hb : (s[k] == 45) = false := by rw [beq_eq_false_iff_ne]; exact h
    have hI : ¬ bt s (k : Int) = 45 := fun e => h (h45.1 e)
    rw [hb, if_neg (by decide)]
    have hl := ref_num_loop s hs (k : Nat) (k : Nat) false _ _ k 0 (by omega) rfl (ref_num_end s hs k k false rfl (by omega))
    rw [hz] at hl
    refine Ev.congr (f := fun n => jigsawref15_number.j0 n s (k : Nat) (k : Nat) false) (fun n => ?_) (Ev.step (fun n => ?_) hl)
    · simp only [jigsawref15_number.f]
      rw [if_pos (by omega), if_pos (by omega), if_neg hI, beq_eq_false_iff_ne.2 hI]
    · simp only [jigsawref15_number.j0]
/-! #### one -/
theorem ref_one_word (s : ByteArray) (hs : s.size ≤ 140737488351232) (k : Nat) : ∀ (d j : Nat), k ≤ j → j ≤ s.size → s.size - j = d →
    Ev (fun n => jigsawref15_one.l0 n s (k : Nat) (j : Nat)) (1, s.extract k (runTo wordB s j), 0, (k : Nat), 0)
  | 0, j, hkj, hj, hd => by
    rw [runTo_end _ s j (by omega)]
    refine ⟨1, fun n hn => ?_⟩
    obtain ⟨m, rfl⟩ : ∃ m, n = m + 1 := ⟨n - 1, by omega⟩
    simp only [jigsawref15_one.l0]
    rw [if_neg (by omega), if_pos (by omega), if_pos (by omega), if_pos (by omega)]
    simp only [Int.toNat_natCast]
  | d + 1, j, hkj, hj, hd => by
    have hlt : j < s.size := by omega
    have ih := ref_one_word s hs k d (j + 1) (by omega) (by omega) (by omega)
    have hw := wrap_succ j (by omega)
    cases hl : letterB s[j] with
    | true =>
      rw [runTo_hit _ s j hlt (by unfold wordB; rw [hl]; rfl)]
      refine Ev.step (fun n => ?_) ih
      simp only [jigsawref15_one.l0]
      rw [if_pos (by omega), if_pos (by omega), letter_at s j hlt, hl, hw]
      rfl
    | false =>
      cases hdg : digitB s[j] with
      | true =>
        rw [runTo_hit _ s j hlt (by unfold wordB; rw [hl, hdg]; rfl)]
        refine Ev.step (fun n => ?_) ih
        simp only [jigsawref15_one.l0]
        rw [if_pos (by omega), if_pos (by omega), letter_at s j hlt, hl, digit_at s j hlt, hdg, hw]
        rfl
      | false =>
        rw [runTo_miss _ s j hlt (by unfold wordB; rw [hl, hdg]; rfl)]
        refine ⟨1, fun n hn => ?_⟩
        obtain ⟨m, rfl⟩ : ∃ m, n = m + 1 := ⟨n - 1, by omega⟩
        simp only [jigsawref15_one.l0]
        rw [if_pos (by omega), if_pos (by omega), letter_at s j hlt, hl]
        simp only [Option.bind_some]
        rw [if_neg (by decide), digit_at s j hlt, hdg]
        simp only [Option.bind_some]
        rw [if_neg (by decide), if_pos (by omega), if_pos (by omega), if_pos (by omega)]
        simp only [Int.toNat_natCast]
theorem ref_one_str (s : ByteArray) (hs : s.size ≤ 140737488351232) (k : Nat) : ∀ (d j : Nat), k ≤ j → j ≤ s.size → s.size - j = d →
    Ev (fun n => jigsawref15_one.l1 n s (k : Nat) (j : Nat)) (if startsQuote (((ll s).drop j).dropWhile strB) = true then (3, s.extract k (runTo strB s j + 1), 0, ((k : Nat) : Int), 0) else (0, ⟨#[]⟩, 0, 0, 150))
  | 0, j, hkj, hj, hd => by
    rw [drop_end s j (by omega)]
    refine ⟨1, fun n hn => ?_⟩
    obtain ⟨m, rfl⟩ : ∃ m, n = m + 1 := ⟨n - 1, by omega⟩
    simp only [jigsawref15_one.l1]
    rw [if_neg (by omega), if_pos (by omega)]
    rfl
  | d + 1, j, hkj, hj, hd => by
    have hlt : j < s.size := by omega
    have ih := ref_one_str s hs k d (j + 1) (by omega) (by omega) (by omega)
    have hw := wrap_succ j (by omega)
    have h34 := bt_is s j hlt 34 (by decide)
    have h10 := bt_is s j hlt 10 (by decide)
    rw [ll_drop s j hlt, List.dropWhile_cons]
    by_cases e1 : bt s (j : Int) = 34
    · have hb : strB s[j] = false := by rw [h34.1 e1]; decide
      rw [runTo_miss _ s j hlt hb, hb]
      refine ⟨1, fun n hn => ?_⟩
      obtain ⟨m, rfl⟩ : ∃ m, n = m + 1 := ⟨n - 1, by omega⟩
      simp only [jigsawref15_one.l1]
      rw [if_pos (by omega), if_pos (by omega), if_pos e1, if_neg (by omega), if_neg (by omega), if_pos (by omega), hw, if_pos (by omega), if_pos (by omega)]
      have hq : startsQuote (if false = true then ((ll s).drop (j + 1)).dropWhile strB else s[j] :: (ll s).drop (j + 1)) = true := by
        rw [if_neg (by decide)]
        unfold startsQuote
        rw [h34.1 e1]
        rfl
      rw [if_pos hq]
      simp only [Int.toNat_natCast]
    · by_cases e2 : bt s (j : Int) = 10
      · have hb : strB s[j] = false := by rw [h10.1 e2]; decide
        rw [hb]
        have hq : startsQuote (if false = true then ((ll s).drop (j + 1)).dropWhile strB else s[j] :: (ll s).drop (j + 1)) = false := by
          rw [if_neg (by decide)]
          unfold startsQuote
          rw [h10.1 e2]
          rfl
        rw [hq]
        refine ⟨1, fun n hn => ?_⟩
        obtain ⟨m, rfl⟩ : ∃ m, n = m + 1 := ⟨n - 1, by omega⟩
        simp only [jigsawref15_one.l1]
        rw [if_pos (by omega), if_pos (by omega), if_neg e1, if_pos e2, if_neg (by omega)]
        rfl
      · have hb : strB s[j] = true := by
          unfold strB
          simp only [Bool.and_eq_true, bne_iff_ne]
          exact ⟨fun h => e1 (h34.2 h), fun h => e2 (h10.2 h)⟩
        rw [runTo_hit _ s j hlt hb, hb, if_pos rfl]
        refine Ev.step (fun n => ?_) ih
        simp only [jigsawref15_one.l1]
        rw [if_pos (by omega), if_pos (by omega), if_neg e1, if_neg e2, hw]
def signsB : ByteArray := ⟨#[59, 58, 44, 40, 41, 91, 93, 123, 125, 61]⟩
theorem signs_any (c : UInt8) : ((ll signsB).any fun d => d == c) = signB c := all256 (fun c => ((ll signsB).any fun d => d == c) = signB c) (by decide +kernel) c
theorem ref_one_sign (s : ByteArray) (hs : s.size ≤ 140737488351232) (k : Nat) (hk : k < s.size) (c : UInt8) : ∀ (d i : Nat), i ≤ 10 → 10 - i = d →
    Ev (fun n => jigsawref15_one.l2 n s (k : Nat) (c.toNat : Nat) signsB (i : Nat)) (if (((ll signsB).drop i).any fun d => d == c) = true then (4, s.extract k (k + 1), 0, ((k : Nat) : Int), 0) else (0, ⟨#[]⟩, 0, 0, 150))
  | 0, i, hi, hd => by
    have hsz : signsB.size = 10 := rfl
    rw [drop_end signsB i (by omega)]
    refine ⟨1, fun n hn => ?_⟩
    obtain ⟨m, rfl⟩ : ∃ m, n = m + 1 := ⟨n - 1, by omega⟩
    simp only [jigsawref15_one.l2]
    rw [if_neg (by omega)]
    rfl
  | d + 1, i, hi, hd => by
    have hsz : signsB.size = 10 := rfl
    have hlt : i < signsB.size := by omega
    have ih := ref_one_sign s hs k hk c d (i + 1) (by omega) (by omega)
    have hw := wrap_succ i (by omega)
    have hwk := wrap_succ k (by omega)
    rw [ll_drop signsB i hlt, List.any_cons]
    by_cases e : signsB[i] = c
    · have hb : (signsB[i] == c) = true := by rw [e]; exact beq_self_eq_true c
      rw [hb, Bool.true_or, if_pos rfl]
      refine ⟨1, fun n hn => ?_⟩
      obtain ⟨m, rfl⟩ : ∃ m, n = m + 1 := ⟨n - 1, by omega⟩
      simp only [jigsawref15_one.l2]
      rw [if_pos (by omega), if_pos (by omega), bt_at signsB i hlt, if_pos (by rw [e]), if_pos (by omega), hwk, if_pos (by omega), if_pos (by omega)]
      simp only [Int.toNat_natCast]
    · have hb : (signsB[i] == c) = false := by rw [beq_eq_false_iff_ne]; exact e
      rw [hb, Bool.false_or]
      refine Ev.step (fun n => ?_) ih
      simp only [jigsawref15_one.l2]
      rw [if_pos (by omega), if_pos (by omega), bt_at signsB i hlt, if_neg (fun h => e (UInt8.toNat_inj.1 (by omega))), hw]
theorem pair_is (s : ByteArray) (k : Nat) (h : k + 1 < s.size) (a : UInt8) : (s.extract k (k + 2)).toList = [a, a] ↔ s[k] = a ∧ s[k + 1] = a := by
  rw [Go.ByteArray.toList_eq]
  have h1 : (s.extract k (k + 2)).data.toList = [s[k], s[k + 1]] := by
    have := ll_cut s k (k + 2)
    rw [Nat.add_sub_cancel_left, ll_drop s k (by omega), ll_drop s (k + 1) h] at this
    exact this
  rw [h1]
  simp
theorem ref_one (s : ByteArray) (hs : s.size ≤ 140737488351232) (k : Nat) (hk : k < s.size) : Ev (fun n => jigsawref15_one.f n s (k : Nat)) (resR s k (oneL ((ll s).drop k))) := by
  rw [ll_drop s k hk, oneL]
  have h34 := bt_is s k hk 34 (by decide)
  have h45 := bt_is s k hk 45 (by decide)
  cases hl : letterB s[k] with
  | true =>
    rw [if_pos rfl]
    have h := ref_one_word s hs k _ k (Nat.le_refl _) (by omega) rfl
    rw [runTo_hit _ s k hk (by unfold wordB; rw [hl]; rfl)] at h
    have e : runTo wordB s (k + 1) = k + (1 + (((ll s).drop (k + 1)).takeWhile wordB).length) := by unfold runTo; omega
    rw [e] at h
    refine Ev.congr (fun n => ?_) h
    simp only [jigsawref15_one.f]
    rw [if_pos (by omega), if_pos (by omega), letter_at s k hk, hl]
    rfl
  | false =>
    rw [if_neg (by decide)]
    have hnum := ref_number s hs k hk
    cases hd : digitB s[k] with
    | true =>
      rw [if_pos rfl]
      have h45b : (s[k] == 45) = false := by
        rw [beq_eq_false_iff_ne]
        intro e
        rw [e] at hd
        exact absurd hd (by decide)
      rw [h45b, if_neg (by decide), ll_drop s k hk] at hnum
      refine Ev.congr (f := fun n => jigsawref15_one.j1 n s (k : Nat) (bt s (k : Nat)) (k : Nat) true) (fun n => ?_) ?_
      · simp only [jigsawref15_one.f]
        rw [if_pos (by omega), if_pos (by omega), letter_at s k hk, hl, digit_at s k hk, hd]
        rfl
      · refine Ev.step (fun n => ?_) hnum
        simp only [jigsawref15_one.j1]
        rw [if_pos trivial]
        cases jigsawref15_number.f n s (k : Nat) <;> rfl
    | false =>
      rw [if_neg (by decide)]
      refine Ev.congr (f := fun n => jigsawref15_one.j1 n s (k : Nat) (bt s (k : Nat)) (k : Nat) (bt s (k : Nat) == 45)) (fun n => ?_) ?_
      · simp only [jigsawref15_one.f]
        rw [if_pos (by omega), if_pos (by omega), letter_at s k hk, hl, digit_at s k hk, hd]
        rfl
      · by_cases e45 : s[k] = 45
        · have hb : (s[k] == 45) = true := by rw [e45]; decide
          rw [hb, if_pos rfl] at hnum
          rw [hb, if_pos rfl, h45.2 e45]
          refine Ev.step (fun n => ?_) hnum
          simp only [jigsawref15_one.j1]
          rw [if_pos (by decide)]
          cases jigsawref15_number.f n s (k : Nat) <;> rfl
        · have hb : (s[k] == 45) = false := by rw [beq_eq_false_iff_ne]; exact e45
          have hI : (bt s (k : Int) == 45) = false := by rw [beq_eq_false_iff_ne]; exact fun e => e45 (h45.1 e)
          rw [hb, if_neg (by decide), hI]
          by_cases e34 : s[k] = 34
          · have hb3 : (s[k] == 34) = true := by rw [e34]; decide
            rw [hb3, if_pos rfl]
            have h := ref_one_str s hs k _ (k + 1) (by omega) (by omega) rfl
            refine Ev.step (f := fun n => jigsawref15_one.l1 n s (k : Nat) ((k + 1 : Nat) : Int)) (fun n => ?_) ?_
            · simp only [jigsawref15_one.j1]
              have hI34 : bt s (k : Int) = 34 := h34.2 e34
              rw [if_neg (by decide), if_pos hI34, wrap_succ k (by omega)]
            · have e : runTo strB s (k + 1) + 1 = k + (2 + (((ll s).drop (k + 1)).takeWhile strB).length) := by unfold runTo; omega
              rw [e] at h
              cases hq : startsQuote (((ll s).drop (k + 1)).dropWhile strB) with
              | true => rw [hq, if_pos rfl] at h; exact h
              | false => rw [hq, if_neg (by decide)] at h; exact h
          · have hb3 : (s[k] == 34) = false := by rw [beq_eq_false_iff_ne]; exact e34
            have hI3 : ¬ bt s (k : Int) = 34 := fun e => e34 (h34.1 e)
            rw [hb3, if_neg (by decide)]
            have hsg := ref_one_sign s hs k hk s[k] _ 0 (by omega) rfl
            rw [List.drop_zero, signs_any, ← bt_at s k hk] at hsg
            have hsgn : resR s k (if signB s[k] = true then One.ok 4 1 0 else One.bad 150) = (if signB s[k] = true then (4, s.extract k (k + 1), 0, ((k : Nat) : Int), 0) else (0, ⟨#[]⟩, 0, 0, 150)) := by cases signB s[k] <;> rfl
            have hj3f : Ev (fun n => jigsawref15_one.j3 n s (k : Nat) (bt s (k : Nat)) false) (if signB s[k] = true then (4, s.extract k (k + 1), 0, ((k : Nat) : Int), 0) else (0, ⟨#[]⟩, 0, 0, 150)) := by
              refine Ev.step (fun n => ?_) hsg
              simp only [jigsawref15_one.j3]
              rw [if_neg (by decide)]
              rfl
            by_cases h1 : k + 1 < s.size
            · have hj3t : Ev (fun n => jigsawref15_one.j3 n s (k : Nat) (bt s (k : Nat)) true) (4, s.extract k (k + 2), 0, ((k : Nat) : Int), 0) := by
                refine ⟨1, fun n hn => ?_⟩
                obtain ⟨m, rfl⟩ : ∃ m, n = m + 1 := ⟨n - 1, by omega⟩
                simp only [jigsawref15_one.j3]
                rw [if_pos trivial, if_pos (by omega), wrap_succ2 k (by omega), if_pos (by omega), if_pos (by omega)]
                simp only [Int.toNat_natCast]
              have p46 := pair_is s k h1 46
              have p58 := pair_is s k h1 58
              have htw : ∀ c, twice c ((ll s).drop (k + 1)) = (s[k + 1] == c) := fun c => by rw [ll_drop s (k + 1) h1]; rfl
              rw [htw]
              have hstep : ∀ n, jigsawref15_one.j1 (n + 1) s (k : Nat) (bt s (k : Nat)) (k : Nat) false = if (s.extract k (k + 2)).toList = [46, 46] then jigsawref15_one.j3 n s (k : Nat) (bt s (k : Nat)) true else jigsawref15_one.j3 n s (k : Nat) (bt s (k : Nat)) ((s.extract k (k + 2)).toList == [58, 58]) := fun n => by
                simp only [jigsawref15_one.j1]
                rw [if_neg (by decide), if_neg hI3, wrap_succ k (by omega), if_pos (by omega), if_pos (by omega), wrap_succ2 k (by omega), if_pos (by omega), if_pos (by omega)]
                simp only [Int.toNat_natCast]
              by_cases c46 : (s.extract k (k + 2)).toList = [46, 46]
              · obtain ⟨a1, a2⟩ := p46.1 c46
                have hc : ((s[k] == 46 || s[k] == 58) && s[k + 1] == s[k]) = true := by rw [a1, a2]; decide
                rw [hc, if_pos rfl]
                refine Ev.step (fun n => ?_) hj3t
                rw [hstep, if_pos c46]
              · by_cases c58 : (s.extract k (k + 2)).toList = [58, 58]
                · obtain ⟨a1, a2⟩ := p58.1 c58
                  have hc : ((s[k] == 46 || s[k] == 58) && s[k + 1] == s[k]) = true := by rw [a1, a2]; decide
                  rw [hc, if_pos rfl]
                  refine Ev.step (fun n => ?_) hj3t
                  rw [hstep, if_neg c46, beq_iff_eq.2 c58]
                · have hc : ((s[k] == 46 || s[k] == 58) && s[k + 1] == s[k]) = false := by
                    rw [Bool.and_eq_false_iff]
                    by_cases a1 : s[k] = 46
                    · right
                      rw [beq_eq_false_iff_ne, a1]
                      exact fun e => c46 (p46.2 ⟨a1, e⟩)
                    · by_cases a2 : s[k] = 58
                      · right
                        rw [beq_eq_false_iff_ne, a2]
                        exact fun e => c58 (p58.2 ⟨a2, e⟩)
                      · left
                        rw [Bool.or_eq_false_iff, beq_eq_false_iff_ne, beq_eq_false_iff_ne]
                        exact ⟨a1, a2⟩
                  rw [hc, if_neg (by decide), hsgn]
                  refine Ev.step (fun n => ?_) hj3f
                  rw [hstep, if_neg c46, beq_eq_false_iff_ne.2 c58]
            · have htw : ∀ c, twice c ((ll s).drop (k + 1)) = false := fun c => by rw [drop_end s (k + 1) (by omega)]; rfl
              rw [htw, Bool.and_false, if_neg (by decide), hsgn]
              refine Ev.step (fun n => ?_) hj3f
              simp only [jigsawref15_one.j1]
              rw [if_neg (by decide), if_neg hI3, wrap_succ k (by omega), if_neg (by omega)]

end Go.Proofs.YtgpdahgpopmjiaaDoor.PL
