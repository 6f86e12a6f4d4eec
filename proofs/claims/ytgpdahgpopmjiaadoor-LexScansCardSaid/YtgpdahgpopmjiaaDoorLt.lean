/- Parts of the laws of lex: functions of the program, each with the proof of what it answers; the conditions are those of each theorem. -/
import Derived.Test.YtgpdahgpopmjiaaDoorLs
namespace Go.Proofs.YtgpdahgpopmjiaaDoor.PL
open Go.RowKit Go.Proofs.YtgpdahgpopmjiaaDoorW.PrintWords Go.Proofs.YtgpdahgpopmjiaaDoorW.PrintLast Go.Proofs.YtgpdahgpopmjiaaDoorW.PrintMore
set_option linter.unusedVariables false
set_option linter.unusedSimpArgs false
/-! #### All, Scan, Word -/
theorem ref_all_loop (s : ByteArray) (hs : s.size ≤ 65536) : ∀ (d k : Nat) (T : List Tok), s.size - k = d → AllInv s k T →
    Ev (fun n => jigsawref15_All.l0 n s (T.map tokS) (k : Nat)) ((allL (ll s)).1.map tokS, (allL (ll s)).2.1, ((allL (ll s)).2.2 : Nat)) := by
  intro d
  induction d using Nat.strongRecOn with
  | ind d ih =>
    intro k T hd hI
    have hks := hI.1
    have hTk := hI.2.1
    by_cases hlt : k < s.size
    · obtain ⟨K1, h1⟩ := ref_one s (by omega) k hlt
      cases ho : oneL ((ll s).drop k) with
      | bad why =>
        rw [ho] at h1
        have hne := oneL_bad ho
        rw [hI.bad hlt ho]
        refine ⟨K1 + 1, fun n hn => ?_⟩
        obtain ⟨m, rfl⟩ : ∃ m, n = m + 1 := ⟨n - 1, by omega⟩
        have e1 : jigsawref15_one.f m s (k : Nat) = some (resR s k (.bad why)) := h1 m (by omega)
        simp only [jigsawref15_All.l0]
        rw [if_pos (by omega), e1]
        simp only [Option.bind_some, resR]
        rw [if_neg hne]
      | ok kind len v =>
        rw [ho] at h1
        obtain ⟨hI2, hkl, hnx⟩ := hI.step hlt ho
        have hsz : (s.extract k (k + len)).size = len := by rw [← ll_len, ll_cut, List.length_take, List.length_drop, ll_len]; omega
        obtain ⟨K2, h2⟩ := ref_skip s (by omega) (k + len) hkl
        obtain ⟨K3, h3⟩ := ih (s.size - nx s (k + len)) (by have := hI2.1; omega) (nx s (k + len)) _ rfl hI2
        refine ⟨K1 + K2 + K3 + 1, fun n hn => ?_⟩
        obtain ⟨m, rfl⟩ : ∃ m, n = m + 1 := ⟨n - 1, by omega⟩
        have e1 : jigsawref15_one.f m s (k : Nat) = some (resR s k (.ok kind len v)) := h1 m (by omega)
        have e2 : jigsawref15_skip.f m s ((k + len : Nat) : Int) = some ((nx s (k + len) : Nat) : Int) := h2 m (by omega)
        have e3 := h3 m (by omega)
        simp only [jigsawref15_All.l0]
        rw [if_pos (by omega), e1]
        simp only [Option.bind_some, resR]
        rw [if_pos trivial, if_pos (by rw [List.length_map]; omega), hsz, show wrap64 ((k : Int) + (len : Nat)) = ((k + len : Nat) : Int) by rw [IntWalk.wrap64_in _ (by omega)]; omega, e2]
        simp only [Option.bind_some]
        rw [List.map_append] at e3
        rw [cut_is]
        exact e3
    · obtain rfl : k = s.size := by omega
      rw [hI.last rfl]
      refine ⟨1, fun n hn => ?_⟩
      obtain ⟨m, rfl⟩ : ∃ m, n = m + 1 := ⟨n - 1, by omega⟩
      simp only [jigsawref15_All.l0]
      rw [if_neg (by omega), if_pos (by rw [List.length_map]; omega), List.map_append]
      rfl
theorem ref_all (s : ByteArray) : Ev (fun n => jigsawref15_All.f n s) ((allL (ll s)).1.map tokS, (allL (ll s)).2.1, ((allL (ll s)).2.2 : Nat)) := by
  by_cases h : 65536 < s.size
  · rw [allL_big h]
    refine Ev.congr (fun n => ?_) (Ev.now _)
    simp only [jigsawref15_All.f]
    rw [if_pos (by omega)]
    rfl
  · obtain ⟨K1, h1⟩ := ref_skip s (by omega) 0 (Nat.zero_le _)
    obtain ⟨K2, h2⟩ := ref_all_loop s (by omega) _ (nx s 0) [] rfl (AllInv.start s (by omega))
    refine ⟨K1 + K2, fun n hn => ?_⟩
    have e1 : jigsawref15_skip.f n s ((0 : Nat) : Int) = some ((nx s 0 : Nat) : Int) := h1 n (by omega)
    have e2 := h2 n (by omega)
    simp only [jigsawref15_All.f]
    rw [if_neg (by omega)]
    rw [show ((0 : Nat) : Int) = 0 from rfl] at e1
    rw [e1]
    exact e2
theorem ref_scan (s : ByteArray) : Ev (fun n => jigsawref15_Scan.f n s) ((scanL (ll s)).1.map tokS, (scanL (ll s)).2.1, ((scanL (ll s)).2.2 : Nat)) := by
  obtain ⟨K1, h1⟩ := ref_all s
  refine ⟨K1, fun n hn => ?_⟩
  have e1 : jigsawref15_All.f n s = _ := h1 n hn
  simp only [jigsawref15_Scan.f]
  rw [e1]
  simp only [Option.bind_some]
  unfold scanL
  by_cases h : (allL (ll s)).2.1 = 0
  · rw [if_pos h, if_pos h, h, allL_zero _ h]
    rfl
  · rw [if_neg h, if_neg h]
    rfl
theorem ref_word_loop (s : ByteArray) (hs : s.size ≤ 140737488351232) : ∀ (d j : Nat), j ≤ s.size → s.size - j = d → Ev (fun n => jigsawref15_Word.l0 n s (j : Nat)) (((ll s).drop j).all wordB)
  | 0, j, hj, hd => by
    rw [drop_end s j (by omega)]
    refine ⟨1, fun n hn => ?_⟩
    obtain ⟨m, rfl⟩ : ∃ m, n = m + 1 := ⟨n - 1, by omega⟩
    simp only [jigsawref15_Word.l0]
    rw [if_neg (by omega)]
    rfl
  | d + 1, j, hj, hd => by
    have hlt : j < s.size := by omega
    have ih := ref_word_loop s hs d (j + 1) (by omega) (by omega)
    have hw := wrap_succ j (by omega)
    rw [ll_drop s j hlt, List.all_cons]
    cases hl : letterB s[j] with
    | true =>
      rw [show wordB s[j] = true by unfold wordB; rw [hl]; rfl, Bool.true_and]
      refine Ev.step (fun n => ?_) ih
      simp only [jigsawref15_Word.l0]
      rw [if_pos (by omega), if_pos (by omega), letter_at s j hlt, hl, hw]
      rfl
    | false =>
      cases hd2 : digitB s[j] with
      | true =>
        rw [show wordB s[j] = true by unfold wordB; rw [hl, hd2]; rfl, Bool.true_and]
        refine Ev.step (fun n => ?_) ih
        simp only [jigsawref15_Word.l0]
        rw [if_pos (by omega), if_pos (by omega), letter_at s j hlt, hl, digit_at s j hlt, hd2, hw]
        rfl
      | false =>
        rw [show wordB s[j] = false by unfold wordB; rw [hl, hd2]; rfl, Bool.false_and]
        refine ⟨1, fun n hn => ?_⟩
        obtain ⟨m, rfl⟩ : ∃ m, n = m + 1 := ⟨n - 1, by omega⟩
        simp only [jigsawref15_Word.l0]
        rw [if_pos (by omega), if_pos (by omega), letter_at s j hlt, hl, digit_at s j hlt, hd2]
        rfl
theorem ref_word (s : ByteArray) (hs : s.size ≤ 140737488351232) : Ev (fun n => jigsawref15_Word.f n s) (wordL (ll s)) := by
  by_cases h0 : s.size = 0
  · have hn := toList_nil h0
    have hl : ll s = [] := by have h := hn; rw [Go.ByteArray.toList_eq] at h; exact h
    rw [hl]
    refine ⟨1, fun n hn2 => ?_⟩
    obtain ⟨m, rfl⟩ : ∃ m, n = m + 1 := ⟨n - 1, by omega⟩
    simp only [jigsawref15_Word.f]
    rw [if_pos hn]
    simp only [jigsawref15_Word.j0]
    rw [if_pos trivial]
    rfl
  · have hlt : 0 < s.size := by omega
    have hne := (toList_ne hlt).1
    have hl := ref_word_loop s hs _ 0 (Nat.zero_le _) rfl
    rw [ll_first s hlt, wordL]
    rw [List.drop_zero, ll_first s hlt, List.all_cons] at hl
    have hlet := letter_at s 0 hlt
    cases hb : letterB s[0] with
    | true =>
      rw [show wordB s[0] = true by unfold wordB; rw [hb]; rfl, Bool.true_and] at hl
      rw [Bool.true_and]
      refine Ev.congr (f := fun n => jigsawref15_Word.j0 n s false) (fun n => ?_) (Ev.step (fun n => ?_) hl)
      · simp only [jigsawref15_Word.f]
        rw [if_neg hne, if_pos (by omega)]
        rw [hb] at hlet
        have hlet' : jigsawref15_letter.f (bt s 0) = some true := hlet
        rw [hlet']
        rfl
      · simp only [jigsawref15_Word.j0]
        rw [if_neg (by decide)]
        rfl
    | false =>
      rw [Bool.false_and]
      refine ⟨1, fun n hn2 => ?_⟩
      obtain ⟨m, rfl⟩ : ∃ m, n = m + 1 := ⟨n - 1, by omega⟩
      simp only [jigsawref15_Word.f]
      rw [if_neg hne, if_pos (by omega)]
      rw [hb] at hlet
      have hlet' : jigsawref15_letter.f (bt s 0) = some false := hlet
      rw [hlet']
      simp only [Option.bind_some, jigsawref15_Word.j0]
      rfl
/-! #### the reference's functions, called -/
theorem refscan_calls (s : ByteArray) (w : World) : Calls Tryd.prog 14 #[.string s] w fun e w' => ∃ v, e = .returned (.tuple #[v, .int .i64 (scanL (ll s)).2.1, .int .i64 ((scanL (ll s)).2.2 : Nat)]) ∧ Kd.R k28 28 w' w.heap.size (fun _ => True) v ((scanL (ll s)).1.map tokS) ∧ Below w.heap.size w w' := by
  obtain ⟨k, hk⟩ := (ref_scan s).rounds
  exact jigsawref15_Scan.calls k s _ _ _ w hk
theorem refall_calls (s : ByteArray) (w : World) : Calls Tryd.prog 17 #[.string s] w fun e w' => ∃ v, e = .returned (.tuple #[v, .int .i64 (allL (ll s)).2.1, .int .i64 ((allL (ll s)).2.2 : Nat)]) ∧ Kd.R k28 28 w' w.heap.size (fun _ => True) v ((allL (ll s)).1.map tokS) ∧ Below w.heap.size w w' := by
  obtain ⟨k, hk⟩ := (ref_all s).rounds
  exact jigsawref15_All.calls k s _ _ _ w hk
theorem refword_calls (s : ByteArray) (hs : s.size ≤ 140737488351232) (w : World) : Calls Tryd.prog 16 #[.string s] w fun e w' => e = .returned (.bool (wordL (ll s))) ∧ Below w.heap.size w w' := by
  obtain ⟨k, hk⟩ := (ref_word s hs).rounds
  exact (jigsawref15_Word.calls k s _ w hk).mono fun e w' h => ⟨h.1, h.2.below⟩
set_option maxRecDepth 100000 in
set_option maxHeartbeats 4000000 in
theorem reftext_calls (x : S28) (hx : -9223372036854775808 ≤ x.f2 ∧ x.f2 ≤ 9223372036854775807) (w : World) (hl : LxLaid w) : Calls Tryd.prog 15 #[tok28 x] w fun e w' => e = .returned (.string (textB x)) ∧ Below w.heap.size w w' := by
  have hB : Below w.heap.size w (w.alloc (.cells #[.int .i64 x.f0, .string x.f1, .int .i64 x.f2, .int .i64 x.f3] 28)) := (Below.refl _ _).alloc (Nat.le_refl _) _
  have HF := Lib.hid (Tryd.strconv_FormatInt_10 x.f2 hx.1 hx.2 _ (hl.below hB).tab)
  have HB := Lib.hid hB
  clear hl hB
  unfold tok28
  by_cases h2 : x.f0 = 2
  · have h2b : (x.f0 == 2) = true := by rw [h2]; rfl
    have H2 := Lib.hid h2
    clear h2
    go_enter Tryd.func15, Tryd.ntmps15
    go_wp2_with fail
    refine HF.out.mono ?_
    rintro e w1 ⟨rfl, k, os, rfl⟩
    go_wp2_with fail
    go_ret
    refine ⟨?_, ?_⟩
    · unfold textB
      rw [if_pos H2.out, itoaL_lib]
      rfl
    · exact HB.out.trans (grow_below _ _ (by simp) k os)
  · have h2b : (x.f0 == 2) = false := by rw [beq_eq_false_iff_ne]; exact h2
    have H2 := Lib.hid h2
    clear h2
    go_enter Tryd.func15, Tryd.ntmps15
    go_wp2_with fail
    go_ret
    refine ⟨?_, HB.out⟩
    unfold textB
    rw [if_neg H2.out]
    rfl

end Go.Proofs.YtgpdahgpopmjiaaDoor.PL
