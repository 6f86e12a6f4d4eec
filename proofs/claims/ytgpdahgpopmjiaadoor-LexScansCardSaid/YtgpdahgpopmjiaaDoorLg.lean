/- Parts of the laws of lex: functions of the program, each with the proof of what it answers; the conditions are those of each theorem. -/
import Derived.Test.YtgpdahgpopmjiaaDoorLf
import Derived.Deep.RegionWith
import Derived.IntWalk
namespace Go.Proofs.YtgpdahgpopmjiaaDoor.PL
open Go.RowKit Go.Proofs.YtgpdahgpopmjiaaDoorW.PrintWords Go.Proofs.YtgpdahgpopmjiaaDoorW.PrintLast Go.Proofs.YtgpdahgpopmjiaaDoorW.PrintMore
set_option linter.unusedVariables false
set_option linter.unusedSimpArgs false
/-! ### one -/
theorem two_boxes (w : World) (i : Nat) : ((w.alloc (.cells #[.int .i64 0, .string ⟨#[]⟩, .int .i64 0, .int .i64 0] 28)).alloc (.cells #[.int .i64 4, .string ⟨#[]⟩, .int .i64 0, .int .i64 (i : Nat)] 28)).heap[w.heap.size]? = some (.cells #[.int .i64 0, .string ⟨#[]⟩, .int .i64 0, .int .i64 0] 28 (0, 0)) ∧
    ((w.alloc (.cells #[.int .i64 0, .string ⟨#[]⟩, .int .i64 0, .int .i64 0] 28)).alloc (.cells #[.int .i64 4, .string ⟨#[]⟩, .int .i64 0, .int .i64 (i : Nat)] 28)).heap[w.heap.size + 1]? = some (.cells #[.int .i64 4, .string ⟨#[]⟩, .int .i64 0, .int .i64 (i : Nat)] 28 (0, 0)) ∧
    Below w.heap.size w ((w.alloc (.cells #[.int .i64 0, .string ⟨#[]⟩, .int .i64 0, .int .i64 0] 28)).alloc (.cells #[.int .i64 4, .string ⟨#[]⟩, .int .i64 0, .int .i64 (i : Nat)] 28)) := by
  refine ⟨(Below.heap_alloc _ _ w.heap.size (by simp)).trans (World.alloc_heap_new _ _), ?_, ((Below.refl _ w).alloc (Nat.le_refl _) _).alloc (by simp) _⟩
  have := World.alloc_heap_new (w.alloc (.cells #[.int .i64 0, .string ⟨#[]⟩, .int .i64 0, .int .i64 0] 28)) (.cells #[.int .i64 4, .string ⟨#[]⟩, .int .i64 0, .int .i64 (i : Nat)] 28)
  rw [World.size_alloc] at this
  exact this
theorem tok_loaded {W : World} {b : Nat} {k : Int} {t : ByteArray} {n p : Int} (h : W.heap[b]? = some (.cells #[.int .i64 k, .string t, .int .i64 n, .int .i64 p] 28 (0, 0))) :
    (W.cell? ⟨b, 0, none⟩ = some (.int .i64 k) ∧ W.cell? ⟨b, 1, none⟩ = some (.string t) ∧ W.cell? ⟨b, 2, none⟩ = some (.int .i64 n) ∧ W.cell? ⟨b, 3, none⟩ = some (.int .i64 p)) ∧ (W.frozen? ⟨b, 0, none⟩ = false ∧ W.frozen? ⟨b, 1, none⟩ = false ∧ W.frozen? ⟨b, 2, none⟩ = false ∧ W.frozen? ⟨b, 3, none⟩ = false) :=
  ⟨⟨blk_cell h 0, blk_cell h 1, blk_cell h 2, blk_cell h 3⟩, blk_frozen h 0, blk_frozen h 1, blk_frozen h 2, blk_frozen h 3⟩
/-- behind the stores into the token's variable -/
structure TokW (w W : World) (k : Int) (t : ByteArray) (i : Nat) : Prop where
  zero : W.heap[w.heap.size]? = some (.cells #[.int .i64 0, .string ⟨#[]⟩, .int .i64 0, .int .i64 0] 28 (0, 0))
  tok : W.heap[w.heap.size + 1]? = some (.cells #[.int .i64 k, .string t, .int .i64 0, .int .i64 (i : Nat)] 28 (0, 0))
  below : Below w.heap.size w W
theorem TokW.put1 {w W : World} {k : Int} {t : ByteArray} {i : Nat} (h : TokW w W k t i) (u : ByteArray) : TokW w (W.setCell ⟨w.heap.size + 1, 1, none⟩ (.string u)) k u i :=
  ⟨(Below.heap_setCell W ⟨w.heap.size + 1, 1, none⟩ _ w.heap.size (by show w.heap.size ≠ w.heap.size + 1; omega)).trans h.zero, blk_put h.tok 1 _ rfl, h.below.setCell (p := ⟨w.heap.size + 1, 1, none⟩) (by show w.heap.size ≤ w.heap.size + 1; omega) _⟩
theorem TokW.put0 {w W : World} {k : Int} {t : ByteArray} {i : Nat} (h : TokW w W k t i) (u : Int) : TokW w (W.setCell ⟨w.heap.size + 1, 0, none⟩ (.int .i64 u)) u t i :=
  ⟨(Below.heap_setCell W ⟨w.heap.size + 1, 0, none⟩ _ w.heap.size (by show w.heap.size ≠ w.heap.size + 1; omega)).trans h.zero, blk_put h.tok 0 _ rfl, h.below.setCell (p := ⟨w.heap.size + 1, 0, none⟩) (by show w.heap.size ≤ w.heap.size + 1; omega) _⟩
theorem TokW.drew {w W : World} {k : Int} {t : ByteArray} {i : Nat} (h : TokW w W k t i) : TokW w W.drew k t i := ⟨h.zero, h.tok, h.below.drew⟩
theorem twice_at (c : UInt8) (s : ByteArray) (i : Nat) (hi : i < s.size) : Lib.hasPrefix (ll (s.extract i s.size)) [c, c] = (s[i] == c && twice c ((ll s).drop (i + 1))) := by
  rw [ll_cut, ll_drop s i hi, List.take_of_length_le (by rw [List.length_cons, List.length_drop, ll_len]; omega)]
  show ([c, c] : List UInt8).isPrefixOf (s[i] :: (ll s).drop (i + 1)) = _
  rw [List.isPrefixOf]
  have e1 : (c == s[i]) = (s[i] == c) := by rw [Bool.eq_iff_iff, beq_iff_eq, beq_iff_eq]; exact eq_comm
  rw [e1]
  congr 1
  cases (ll s).drop (i + 1) with
  | nil => rfl
  | cons d t =>
    rw [List.isPrefixOf, show ([] : List UInt8).isPrefixOf t = true by cases t <;> rfl, Bool.and_true]
    show (c == d) = (d == c)
    rw [Bool.eq_iff_iff, beq_iff_eq, beq_iff_eq]; exact eq_comm
theorem slice_at (s : ByteArray) (i d : Nat) (h : i + d ≤ s.size) (W : World) : (Instr.slice 9 (.string s) (some (.int .i64 (i : Nat))) (some (.int .i64 ((i : Int) + (d : Nat)))) none).run Tryd.prog W = .ok (.string (s.extract i (i + d))) W := by
  have := run_slice_string (P := Tryd.prog) 9 s .i64 .i64 (i : Int) ((i : Int) + (d : Nat)) Tryd.underlying9 (by omega) (by omega) (by omega) (w := W)
  rw [show ((i : Int) + (d : Nat)).toNat = i + d by omega, Int.toNat_natCast] at this
  exact this
theorem sign_ix (c : UInt8) : decide ((0 : Int) ≤ Lib.indexByte [59, 58, 44, 40, 41, 91, 93, 123, 125, 61] c) = signB c := all256 (fun c => decide ((0 : Int) ≤ Lib.indexByte [59, 58, 44, 40, 41, 91, 93, 123, 125, 61] c) = signB c) (by decide +kernel) c
set_option maxRecDepth 100000 in
set_option maxHeartbeats 16000000 in
theorem one_word (s : ByteArray) (i : Nat) (hi : i < s.size) (hs : s.size ≤ 140737488351232) (w : World) (hl : LxLaid w) (hc : letterB s[i] = true) :
    Calls Tryd.prog 35 #[.string s, .int .i64 (i : Nat)] w fun e w' => OneAns (oneL ((ll s).drop i)) s i e ∧ Below w.heap.size w w' := by
  have HLET := Lib.hid (fun W => letter_calls s[i] W)
  rw [hc] at HLET
  have HRUN := Lib.hid (fun W => run_calls _ _ runP_word s i (by omega) hs W)
  have hle := runTo_le wordB s i (by omega)
  obtain ⟨j, hj⟩ : ∃ j, j = runTo wordB s i := ⟨_, rfl⟩
  have hone : oneL ((ll s).drop i) = .ok 1 (j - i) 0 := by
    rw [hj, runTo_hit wordB s i hi (by unfold wordB; rw [hc]; rfl), ll_drop s i hi, letter_first hc]
    unfold runTo
    congr 1
    omega
  have hone2 : OneAns (oneL ((ll s).drop i)) s i (.returned (.agg #[.int .i64 1, .string (s.extract i j), .int .i64 0, .int .i64 (i : Nat)])) := by
    rw [hone]
    show _ = Ending.returned (.agg #[.int .i64 1, .string (s.extract i (i + (j - i))), .int .i64 0, .int .i64 (i : Nat)])
    rw [show i + (j - i) = j by omega]
  rw [← hj] at HRUN hle
  have HONE := Lib.hid hone2
  clear hj hc hone hone2
  go_enter Tryd.func35, Tryd.ntmps35
  go_wp2_with fail
  refine (HLET.out _).mono ?_
  rintro e w1 ⟨rfl, rfl⟩
  go_wp2_with fail
  obtain ⟨hx1, hx2, hb2⟩ := two_boxes w i
  generalize hW2 : (w.alloc (.cells #[.int .i64 0, .string ⟨#[]⟩, .int .i64 0, .int .i64 0] 28)).alloc (.cells #[.int .i64 4, .string ⟨#[]⟩, .int .i64 0, .int .i64 (i : Nat)] 28) = W2 at *
  have HT := Lib.hid (TokW.mk (w := w) (W := W2) hx1 hx2 hb2)
  clear hx1 hx2 hb2 hW2
  have z0 := blk_cell HT.out.tok 0; have z1 := blk_cell HT.out.tok 1
  have f0 := blk_frozen HT.out.tok 0; have f1 := blk_frozen HT.out.tok 1
  go_region_with (go_at_call 25; refine (HRUN.out _).mono ?_; rintro e w1 ⟨rfl, rfl⟩)
  clear z0 z1 f0 f1
  have htw := ((HT.out.put0 1).put1 (s.extract i j)).drew
  revert htw
  generalize ((W2.setCell ⟨w.heap.size + 1, 0, none⟩ (.int .i64 1)).setCell ⟨w.heap.size + 1, 1, none⟩ (.string (s.extract i j))).drew = W3
  intro htw
  have HTW := Lib.hid htw
  obtain ⟨⟨z0, z1, z2, z3⟩, f0, f1, f2, f3⟩ := tok_loaded htw.tok
  obtain ⟨⟨y0, y1, y2, y3⟩, e0, e1, e2, e3⟩ := tok_loaded htw.zero
  clear htw
  go_wp2_with fail
  have q := blk_put (blk_put (blk_put (blk_put HTW.out.zero 0 (.int .i64 1) rfl) 1 (.string (s.extract i j)) rfl) 2 (.int .i64 0) rfl) 3 (.int .i64 (i : Nat)) rfl
  clear z0 z1 z2 z3 f0 f1 f2 f3 y0 y1 y2 y3 e0 e1 e2 e3
  refine bodyPost_ret (results_c1 rfl _ _ w.heap.size 28 _ (0, 0) _ rfl q Tryd.underlying28 rfl (by kernel_rfl)) rfl ⟨?_, ?_⟩
  · exact HONE.out
  · exact (((HTW.out.below.setCell (p := ⟨w.heap.size, 0, none⟩) (Nat.le_refl _) _).setCell (p := ⟨w.heap.size, 1, none⟩) (Nat.le_refl _) _).setCell (p := ⟨w.heap.size, 2, none⟩) (Nat.le_refl _) _).setCell (p := ⟨w.heap.size, 3, none⟩) (Nat.le_refl _) _
set_option maxRecDepth 100000 in
set_option maxHeartbeats 16000000 in
theorem one_num (s : ByteArray) (i : Nat) (hi : i < s.size) (hs : s.size ≤ 140737488351232) (w : World) (hl : LxLaid w) (hc : letterB s[i] = false) (hd : digitB s[i] = true ∨ (digitB s[i] = false ∧ s[i] = 45)) :
    Calls Tryd.prog 35 #[.string s, .int .i64 (i : Nat)] w fun e w' => OneAns (oneL ((ll s).drop i)) s i e ∧ Below w.heap.size w w' := by
  have HLET := Lib.hid (fun W => letter_calls s[i] W)
  rw [hc] at HLET
  have HDIG := Lib.hid (fun W => digit_calls s[i] W)
  have hone : oneL ((ll s).drop i) = numL (s[i] == 45) ((ll s).drop (if (s[i] == 45) then i + 1 else i)) := by
    rw [ll_drop s i hi, oneL, if_neg (by rw [hc]; decide)]
    rcases hd with hd | ⟨hd, h45⟩
    · have hne : (s[i] == 45) = false := by
        rw [beq_eq_false_iff_ne]
        intro e
        rw [e] at hd
        exact absurd hd (by decide)
      rw [if_pos hd, hne, if_neg (by decide), ll_drop s i hi]
    · have he : (s[i] == 45) = true := by rw [beq_iff_eq]; exact h45
      rw [if_neg (by rw [hd]; decide), if_pos he, he, if_pos rfl]
  obtain ⟨o, ho⟩ : ∃ o, o = numL (s[i] == 45) ((ll s).drop (if (s[i] == 45) then i + 1 else i)) := ⟨_, rfl⟩
  have hnum := fun W (h : LxLaid W) => number_calls s i hi hs W h _ rfl
  rw [← ho] at hnum
  rw [hone, ← ho]
  have HNUM := Lib.hid hnum
  clear hnum ho
  have HL := Lib.hid hl
  clear hc hone hl
  rcases hd with hd | ⟨hd, h45⟩
  · rw [hd] at HDIG
    clear hd
    go_enter Tryd.func35, Tryd.ntmps35
    go_wp2_with fail
    refine (HLET.out _).mono ?_
    rintro e w1 ⟨rfl, rfl⟩
    go_wp2_with fail
    refine (HDIG.out _).mono ?_
    rintro e w1 ⟨rfl, rfl⟩
    go_wp2_with fail
    obtain ⟨hx1, hx2, hb2⟩ := two_boxes w i
    generalize hW2 : (w.alloc (.cells #[.int .i64 0, .string ⟨#[]⟩, .int .i64 0, .int .i64 0] 28)).alloc (.cells #[.int .i64 4, .string ⟨#[]⟩, .int .i64 0, .int .i64 (i : Nat)] 28) = W2 at *
    have HT := Lib.hid (TokW.mk (w := w) (W := W2) hx1 hx2 hb2)
    clear hx1 hx2 hb2 hW2
    refine (HNUM.out _ (HL.out.below HT.out.below)).mono ?_
    rintro e w1 ⟨ha, hb⟩
    have HB := Lib.hid (below_step HT.out.below hb)
    have hz := (hb.block w.heap.size (blk_lt HT.out.zero)).trans HT.out.zero
    clear hb
    cases o with
    | bad why =>
      have he : e = thrown why i := ha
      subst he
      unfold thrown
      exact ⟨rfl, rfl, HB.out⟩
    | ok k len v =>
      have he : e = .returned (tokV k (s.extract i (i + len)) v i) := ha
      subst he
      unfold tokV
      have HZ := Lib.hid hz
      obtain ⟨⟨y0, y1, y2, y3⟩, e0, e1, e2, e3⟩ := tok_loaded hz
      clear ha hz
      go_wp2_with fail
      have q := blk_put (blk_put (blk_put (blk_put HZ.out 0 (.int .i64 k) rfl) 1 (.string (s.extract i (i + len))) rfl) 2 (.int .i64 v) rfl) 3 (.int .i64 (i : Nat)) rfl
      clear y0 y1 y2 y3 e0 e1 e2 e3
      refine bodyPost_ret (results_c1 rfl _ _ w.heap.size 28 _ (0, 0) _ rfl q Tryd.underlying28 rfl (by kernel_rfl)) rfl ⟨rfl, ?_⟩
      exact (((HB.out.setCell (p := ⟨w.heap.size, 0, none⟩) (Nat.le_refl _) _).setCell (p := ⟨w.heap.size, 1, none⟩) (Nat.le_refl _) _).setCell (p := ⟨w.heap.size, 2, none⟩) (Nat.le_refl _) _).setCell (p := ⟨w.heap.size, 3, none⟩) (Nat.le_refl _) _
  · rw [hd] at HDIG
    have hcb : (((s[i]).toNat : Int) == 45) = true := by rw [h45]; rfl
    have H45 := Lib.hid h45
    clear hd h45
    go_enter Tryd.func35, Tryd.ntmps35
    go_wp2_with fail
    refine (HLET.out _).mono ?_
    rintro e w1 ⟨rfl, rfl⟩
    go_wp2_with fail
    refine (HDIG.out _).mono ?_
    rintro e w1 ⟨rfl, rfl⟩
    go_wp2_with fail
    obtain ⟨hx1, hx2, hb2⟩ := two_boxes w i
    generalize hW2 : (w.alloc (.cells #[.int .i64 0, .string ⟨#[]⟩, .int .i64 0, .int .i64 0] 28)).alloc (.cells #[.int .i64 4, .string ⟨#[]⟩, .int .i64 0, .int .i64 (i : Nat)] 28) = W2 at *
    have HT := Lib.hid (TokW.mk (w := w) (W := W2) hx1 hx2 hb2)
    clear hx1 hx2 hb2 hW2
    refine (HNUM.out _ (HL.out.below HT.out.below)).mono ?_
    rintro e w1 ⟨ha, hb⟩
    have HB := Lib.hid (below_step HT.out.below hb)
    have hz := (hb.block w.heap.size (blk_lt HT.out.zero)).trans HT.out.zero
    clear hb
    cases o with
    | bad why =>
      have he : e = thrown why i := ha
      subst he
      unfold thrown
      exact ⟨rfl, rfl, HB.out⟩
    | ok k len v =>
      have he : e = .returned (tokV k (s.extract i (i + len)) v i) := ha
      subst he
      unfold tokV
      have HZ := Lib.hid hz
      obtain ⟨⟨y0, y1, y2, y3⟩, e0, e1, e2, e3⟩ := tok_loaded hz
      clear ha hz
      go_wp2_with fail
      have q := blk_put (blk_put (blk_put (blk_put HZ.out 0 (.int .i64 k) rfl) 1 (.string (s.extract i (i + len))) rfl) 2 (.int .i64 v) rfl) 3 (.int .i64 (i : Nat)) rfl
      clear y0 y1 y2 y3 e0 e1 e2 e3
      refine bodyPost_ret (results_c1 rfl _ _ w.heap.size 28 _ (0, 0) _ rfl q Tryd.underlying28 rfl (by kernel_rfl)) rfl ⟨rfl, ?_⟩
      exact (((HB.out.setCell (p := ⟨w.heap.size, 0, none⟩) (Nat.le_refl _) _).setCell (p := ⟨w.heap.size, 1, none⟩) (Nat.le_refl _) _).setCell (p := ⟨w.heap.size, 2, none⟩) (Nat.le_refl _) _).setCell (p := ⟨w.heap.size, 3, none⟩) (Nat.le_refl _) _
set_option maxRecDepth 100000 in
set_option maxHeartbeats 16000000 in
theorem one_str (s : ByteArray) (i : Nat) (hi : i < s.size) (hs : s.size ≤ 140737488351232) (w : World) (hl : LxLaid w) (hc : letterB s[i] = false) (hd : digitB s[i] = false) (h45 : (s[i] == 45) = false) (h34 : (s[i] == 34) = true) :
    Calls Tryd.prog 35 #[.string s, .int .i64 (i : Nat)] w fun e w' => OneAns (oneL ((ll s).drop i)) s i e ∧ Below w.heap.size w w' := by
  have HLET := Lib.hid (fun W => letter_calls s[i] W)
  rw [hc] at HLET
  have HDIG := Lib.hid (fun W => digit_calls s[i] W)
  rw [hd] at HDIG
  have h45b : (((s[i]).toNat : Int) == 45) = false := (byte_eq s[i] 45).trans h45
  have h34b : (((s[i]).toNat : Int) == 34) = true := (byte_eq s[i] 34).trans h34
  have HRUN := Lib.hid (fun W => run_calls _ _ runP_str s (i + 1) (by omega) hs W)
  have hle := runTo_le strB s (i + 1) (by omega)
  obtain ⟨j, hj⟩ : ∃ j, j = runTo strB s (i + 1) := ⟨_, rfl⟩
  have hdj : ((ll s).drop (i + 1)).dropWhile strB = (ll s).drop j := by rw [hj, drop_runTo]
  have hlen : 2 + (((ll s).drop (i + 1)).takeWhile strB).length = j + 1 - i := by
    rw [hj]; unfold runTo; omega
  have hone : oneL ((ll s).drop i) = if startsQuote ((ll s).drop j) then .ok 3 (j + 1 - i) 0 else .bad 150 := by
    rw [ll_drop s i hi, oneL, if_neg (by rw [hc]; decide), if_neg (by rw [hd]; decide), if_neg (by rw [h45]; decide), if_pos h34, hdj, hlen]
  rw [← hj] at HRUN hle
  rw [hone]
  clear hj hdj hlen hone hc hd h45 h34
  by_cases hjs : j = s.size
  · have hq : startsQuote ((ll s).drop j) = false := by rw [List.drop_of_length_le (by rw [ll_len]; omega)]; rfl
    rw [hq, if_neg (by decide)]
    have hjb : (((j : Nat) : Int) == ((s.size : Nat) : Int)) = true := by rw [beq_iff_eq]; omega
    have HJS := Lib.hid hjs
    clear hq hjs
    go_enter Tryd.func35, Tryd.ntmps35
    go_wp2_with fail
    refine (HLET.out _).mono ?_
    rintro e w1 ⟨rfl, rfl⟩
    go_wp2_with fail
    refine (HDIG.out _).mono ?_
    rintro e w1 ⟨rfl, rfl⟩
    go_wp2_with fail
    obtain ⟨hx1, hx2, hb2⟩ := two_boxes w i
    generalize hW2 : (w.alloc (.cells #[.int .i64 0, .string ⟨#[]⟩, .int .i64 0, .int .i64 0] 28)).alloc (.cells #[.int .i64 4, .string ⟨#[]⟩, .int .i64 0, .int .i64 (i : Nat)] 28) = W2 at *
    have HT := Lib.hid (TokW.mk (w := w) (W := W2) hx1 hx2 hb2)
    clear hx1 hx2 hb2 hW2
    refine (HRUN.out _).mono ?_
    rintro e w1 ⟨rfl, rfl⟩
    go_wp2_with fail
    exact ⟨rfl, rfl, HT.out.below⟩
  · have hlt : j < s.size := by omega
    have hjb : (((j : Nat) : Int) == ((s.size : Nat) : Int)) = false := by rw [beq_eq_false_iff_ne]; omega
    have hq : startsQuote ((ll s).drop j) = (s[j] == 34) := by rw [ll_drop s j hlt]; rfl
    rw [hq]
    have hqb : (((s[j]).toNat : Int) != 34) = !(s[j] == 34) := by rw [← byte_eq s[j] 34]; rfl
    clear hq hjs
    cases hqq : (s[j] == 34) with
    | false =>
      rw [if_neg (by decide)]
      rw [hqq, Bool.not_false] at hqb
      clear hqq
      go_enter Tryd.func35, Tryd.ntmps35
      go_wp2_with fail
      refine (HLET.out _).mono ?_
      rintro e w1 ⟨rfl, rfl⟩
      go_wp2_with fail
      refine (HDIG.out _).mono ?_
      rintro e w1 ⟨rfl, rfl⟩
      go_wp2_with fail
      obtain ⟨hx1, hx2, hb2⟩ := two_boxes w i
      generalize hW2 : (w.alloc (.cells #[.int .i64 0, .string ⟨#[]⟩, .int .i64 0, .int .i64 0] 28)).alloc (.cells #[.int .i64 4, .string ⟨#[]⟩, .int .i64 0, .int .i64 (i : Nat)] 28) = W2 at *
      have HT := Lib.hid (TokW.mk (w := w) (W := W2) hx1 hx2 hb2)
      clear hx1 hx2 hb2 hW2
      refine (HRUN.out _).mono ?_
      rintro e w1 ⟨rfl, rfl⟩
      go_wp2_with fail
      exact ⟨rfl, rfl, HT.out.below⟩
    | true =>
      rw [if_pos rfl]
      rw [hqq, Bool.not_true] at hqb
      have hone2 : OneAns (.ok 3 (j + 1 - i) 0) s i (.returned (.agg #[.int .i64 3, .string (s.extract i (j + 1)), .int .i64 0, .int .i64 (i : Nat)])) := by
        show _ = Ending.returned (.agg #[.int .i64 3, .string (s.extract i (i + (j + 1 - i))), .int .i64 0, .int .i64 (i : Nat)])
        rw [show i + (j + 1 - i) = j + 1 by omega]
      have HONE := Lib.hid hone2
      clear hqq hone2
      go_enter Tryd.func35, Tryd.ntmps35
      go_wp2_with fail
      refine (HLET.out _).mono ?_
      rintro e w1 ⟨rfl, rfl⟩
      go_wp2_with fail
      refine (HDIG.out _).mono ?_
      rintro e w1 ⟨rfl, rfl⟩
      go_wp2_with fail
      obtain ⟨hx1, hx2, hb2⟩ := two_boxes w i
      generalize hW2 : (w.alloc (.cells #[.int .i64 0, .string ⟨#[]⟩, .int .i64 0, .int .i64 0] 28)).alloc (.cells #[.int .i64 4, .string ⟨#[]⟩, .int .i64 0, .int .i64 (i : Nat)] 28) = W2 at *
      have HT := Lib.hid (TokW.mk (w := w) (W := W2) hx1 hx2 hb2)
      clear hx1 hx2 hb2 hW2
      refine (HRUN.out _).mono ?_
      rintro e w1 ⟨rfl, rfl⟩
      go_wp2_with fail
      have z0 := blk_cell HT.out.tok 0; have z1 := blk_cell HT.out.tok 1
      have f0 := blk_frozen HT.out.tok 0; have f1 := blk_frozen HT.out.tok 1
      have wj : IntKind.i64.wrap ((j : Int) + 1) = (j : Int) + 1 := IntWalk.i64_in _ (by omega)
      have wj0 : (0 : Int) ≤ (j : Int) + 1 := by omega
      have wj1 : ((j : Int) + 1).toNat = j + 1 := by omega
      have wj2 : (i : Int) ≤ (j : Int) + 1 := by omega
      have wj3 : (j : Int) + 1 ≤ (s.size : Int) := by omega
      go_region_with (fail)
      clear z0 z1 f0 f1 wj wj0 wj1 wj2 wj3
      have htw := ((HT.out.put0 3).put1 (s.extract i (j + 1))).drew
      revert htw
      generalize ((w1.setCell ⟨w.heap.size + 1, 0, none⟩ (.int .i64 3)).setCell ⟨w.heap.size + 1, 1, none⟩ (.string (s.extract i (j + 1)))).drew = W3
      intro htw
      have HTW := Lib.hid htw
      obtain ⟨⟨z0, z1, z2, z3⟩, f0, f1, f2, f3⟩ := tok_loaded htw.tok
      obtain ⟨⟨y0, y1, y2, y3⟩, e0, e1, e2, e3⟩ := tok_loaded htw.zero
      clear htw
      go_wp2_with fail
      have q := blk_put (blk_put (blk_put (blk_put HTW.out.zero 0 (.int .i64 3) rfl) 1 (.string (s.extract i (j + 1))) rfl) 2 (.int .i64 0) rfl) 3 (.int .i64 (i : Nat)) rfl
      clear z0 z1 z2 z3 f0 f1 f2 f3 y0 y1 y2 y3 e0 e1 e2 e3
      refine bodyPost_ret (results_c1 rfl _ _ w.heap.size 28 _ (0, 0) _ rfl q Tryd.underlying28 rfl (by kernel_rfl)) rfl ⟨?_, ?_⟩
      · exact HONE.out
      · exact (((HTW.out.below.setCell (p := ⟨w.heap.size, 0, none⟩) (Nat.le_refl _) _).setCell (p := ⟨w.heap.size, 1, none⟩) (Nat.le_refl _) _).setCell (p := ⟨w.heap.size, 2, none⟩) (Nat.le_refl _) _).setCell (p := ⟨w.heap.size, 3, none⟩) (Nat.le_refl _) _
set_option maxRecDepth 100000 in
set_option maxHeartbeats 16000000 in
theorem one_sign (s : ByteArray) (i : Nat) (hi : i < s.size) (hs : s.size ≤ 140737488351232) (w : World) (hl : LxLaid w) (hc : letterB s[i] = false) (hd : digitB s[i] = false) (h45 : (s[i] == 45) = false) (h34 : (s[i] == 34) = false) :
    Calls Tryd.prog 35 #[.string s, .int .i64 (i : Nat)] w fun e w' => OneAns (oneL ((ll s).drop i)) s i e ∧ Below w.heap.size w w' := by
  have HLET := Lib.hid (fun W => letter_calls s[i] W)
  rw [hc] at HLET
  have HDIG := Lib.hid (fun W => digit_calls s[i] W)
  rw [hd] at HDIG
  have h45b : (((s[i]).toNat : Int) == 45) = false := (byte_eq s[i] 45).trans h45
  have h34b : (((s[i]).toNat : Int) == 34) = false := (byte_eq s[i] 34).trans h34
  have hP1 := fun W => Tryd.strings_HasPrefix (s.extract i s.size) ⟨#[46, 46]⟩ W
  have hP2 := fun W => Tryd.strings_HasPrefix (s.extract i s.size) ⟨#[58, 58]⟩ W
  have hr1 : Lib.hasPrefix (s.extract i s.size).data.toList [46, 46] = (s[i] == 46 && twice 46 ((ll s).drop (i + 1))) := twice_at 46 s i hi
  have hr2 : Lib.hasPrefix (s.extract i s.size).data.toList [58, 58] = (s[i] == 58 && twice 58 ((ll s).drop (i + 1))) := twice_at 58 s i hi
  have hP1' : ∀ W, Calls Tryd.prog 44 #[.string (s.extract i s.size), .string ⟨#[46, 46]⟩] W fun e w' => e = .returned (.bool (s[i] == 46 && twice 46 ((ll s).drop (i + 1)))) ∧ w' = W := fun W => by
    rw [← hr1]; exact hP1 W
  have hP2' : ∀ W, Calls Tryd.prog 44 #[.string (s.extract i s.size), .string ⟨#[58, 58]⟩] W fun e w' => e = .returned (.bool (s[i] == 58 && twice 58 ((ll s).drop (i + 1)))) ∧ w' = W := fun W => by
    rw [← hr2]; exact hP2 W
  have hSg := fun W => Tryd.strings_IndexByte ⟨#[59, 58, 44, 40, 41, 91, 93, 123, 125, 61]⟩ (s[i].toNat : Int) W
  have hix := sign_ix s[i]
  have htw : ((s[i] == 46 || s[i] == 58) && twice s[i] ((ll s).drop (i + 1))) = ((s[i] == 46 && twice 46 ((ll s).drop (i + 1))) || (s[i] == 58 && twice 58 ((ll s).drop (i + 1)))) := by
    by_cases e1 : s[i] = 46
    · rw [e1, show ((46 : UInt8) == 46) = true from rfl, show ((46 : UInt8) == 58) = false from rfl]; simp
    · by_cases e2 : s[i] = 58
      · rw [e2, show ((58 : UInt8) == 46) = false from rfl, show ((58 : UInt8) == 58) = true from rfl]; simp
      · rw [show (s[i] == 46) = false from by rw [beq_eq_false_iff_ne]; exact e1, show (s[i] == 58) = false from by rw [beq_eq_false_iff_ne]; exact e2]; rfl
  have hone : oneL ((ll s).drop i) = if ((s[i] == 46 && twice 46 ((ll s).drop (i + 1))) || (s[i] == 58 && twice 58 ((ll s).drop (i + 1)))) then .ok 4 2 0 else if signB s[i] then .ok 4 1 0 else .bad 150 := by
    rw [ll_drop s i hi, oneL, if_neg (by rw [hc]; decide), if_neg (by rw [hd]; decide), if_neg (by rw [h45]; decide), if_neg (by rw [h34]; decide), htw]
  rw [hone]
  have hlen2 : ((s[i] == 46 && twice 46 ((ll s).drop (i + 1))) || (s[i] == 58 && twice 58 ((ll s).drop (i + 1)))) = true → i + 2 ≤ s.size := by
    intro h
    have : (ll s).drop (i + 1) ≠ [] := by
      intro e
      rw [e] at h
      simp [twice] at h
    have h2 := List.length_pos_iff.2 this
    rw [List.length_drop, ll_len] at h2
    omega
  have HP1 := Lib.hid hP1'; have HP2 := Lib.hid hP2'; have HSG := Lib.hid hSg; have HIX := Lib.hid hix; have HLEN := Lib.hid hlen2
  clear hP1 hP2 hr1 hr2 hP1' hP2' hSg hix htw hone hlen2 hc hd h45 h34
  generalize (s[i] == 46 && twice 46 ((ll s).drop (i + 1))) = b1 at *
  generalize (s[i] == 58 && twice 58 ((ll s).drop (i + 1))) = b2 at *
  generalize signB s[i] = b3 at *
  cases b1 with
  | true =>
    rw [Bool.true_or] at HLEN ⊢
    rw [if_pos rfl]
    have hl2 := HLEN.out rfl
    have HONE := Lib.hid (show OneAns (.ok 4 2 0) s i (.returned (.agg #[.int .i64 4, .string (s.extract i (i + 2)), .int .i64 0, .int .i64 (i : Nat)])) from rfl)
    go_enter Tryd.func35, Tryd.ntmps35
    go_wp2_with fail
    refine (HLET.out _).mono ?_
    rintro e w1 ⟨rfl, rfl⟩
    go_wp2_with fail
    refine (HDIG.out _).mono ?_
    rintro e w1 ⟨rfl, rfl⟩
    go_wp2_with fail
    obtain ⟨hx1, hx2, hb2⟩ := two_boxes w i
    generalize hW2 : (w.alloc (.cells #[.int .i64 0, .string ⟨#[]⟩, .int .i64 0, .int .i64 0] 28)).alloc (.cells #[.int .i64 4, .string ⟨#[]⟩, .int .i64 0, .int .i64 (i : Nat)] 28) = W2 at *
    have HT := Lib.hid (TokW.mk (w := w) (W := W2) hx1 hx2 hb2)
    clear hx1 hx2 hb2 hW2
    refine (HP1.out _).mono ?_
    rintro e w1 ⟨rfl, rfl⟩
    have z0 := blk_cell HT.out.tok 0; have z1 := blk_cell HT.out.tok 1; have z2 := blk_cell HT.out.tok 2; have z3 := blk_cell HT.out.tok 3
    have f0 := blk_frozen HT.out.tok 0; have f1 := blk_frozen HT.out.tok 1; have f2 := blk_frozen HT.out.tok 2; have f3 := blk_frozen HT.out.tok 3
    have HTW := Lib.hid (HT.out.put1 (s.extract i (i + 2)))
    obtain ⟨⟨y0, y1, y2, y3⟩, e0, e1, e2, e3⟩ := tok_loaded HTW.out.zero
    obtain ⟨⟨x0, x1, x2, x3⟩, g0, g1, g2, g3⟩ := tok_loaded HTW.out.tok
    have wj : ∀ W, (Instr.slice 9 (.string s) (some (.int .i64 (i : Nat))) (some (.int .i64 ((i : Int) + 2))) none).run Tryd.prog W = .ok (.string (s.extract i (i + 2))) W := slice_at s i 2 (by omega)
    go_wp2_with fail
    have q := blk_put (blk_put (blk_put (blk_put HTW.out.zero 0 (.int .i64 4) rfl) 1 (.string (s.extract i (i + 2))) rfl) 2 (.int .i64 0) rfl) 3 (.int .i64 (i : Nat)) rfl
    clear z0 z1 z2 z3 f0 f1 f2 f3 y0 y1 y2 y3 e0 e1 e2 e3 x0 x1 x2 x3 g0 g1 g2 g3 wj
    refine bodyPost_ret (results_c1 rfl _ _ w.heap.size 28 _ (0, 0) _ rfl q Tryd.underlying28 rfl (by kernel_rfl)) rfl ⟨HONE.out, ?_⟩
    exact (((HTW.out.below.setCell (p := ⟨w.heap.size, 0, none⟩) (Nat.le_refl _) _).setCell (p := ⟨w.heap.size, 1, none⟩) (Nat.le_refl _) _).setCell (p := ⟨w.heap.size, 2, none⟩) (Nat.le_refl _) _).setCell (p := ⟨w.heap.size, 3, none⟩) (Nat.le_refl _) _
  | false =>
    rw [Bool.false_or] at HLEN ⊢
    cases b2 with
    | true =>
      rw [if_pos rfl]
      have hl2 := HLEN.out rfl
      have HONE := Lib.hid (show OneAns (.ok 4 2 0) s i (.returned (.agg #[.int .i64 4, .string (s.extract i (i + 2)), .int .i64 0, .int .i64 (i : Nat)])) from rfl)
      go_enter Tryd.func35, Tryd.ntmps35
      go_wp2_with fail
      refine (HLET.out _).mono ?_
      rintro e w1 ⟨rfl, rfl⟩
      go_wp2_with fail
      refine (HDIG.out _).mono ?_
      rintro e w1 ⟨rfl, rfl⟩
      go_wp2_with fail
      obtain ⟨hx1, hx2, hb2⟩ := two_boxes w i
      generalize hW2 : (w.alloc (.cells #[.int .i64 0, .string ⟨#[]⟩, .int .i64 0, .int .i64 0] 28)).alloc (.cells #[.int .i64 4, .string ⟨#[]⟩, .int .i64 0, .int .i64 (i : Nat)] 28) = W2 at *
      have HT := Lib.hid (TokW.mk (w := w) (W := W2) hx1 hx2 hb2)
      clear hx1 hx2 hb2 hW2
      refine (HP1.out _).mono ?_
      rintro e w1 ⟨rfl, rfl⟩
      have z0 := blk_cell HT.out.tok 0; have z1 := blk_cell HT.out.tok 1; have z2 := blk_cell HT.out.tok 2; have z3 := blk_cell HT.out.tok 3
      have f0 := blk_frozen HT.out.tok 0; have f1 := blk_frozen HT.out.tok 1; have f2 := blk_frozen HT.out.tok 2; have f3 := blk_frozen HT.out.tok 3
      have HTW := Lib.hid (HT.out.put1 (s.extract i (i + 2)))
      obtain ⟨⟨y0, y1, y2, y3⟩, e0, e1, e2, e3⟩ := tok_loaded HTW.out.zero
      obtain ⟨⟨x0, x1, x2, x3⟩, g0, g1, g2, g3⟩ := tok_loaded HTW.out.tok
      have wj : ∀ W, (Instr.slice 9 (.string s) (some (.int .i64 (i : Nat))) (some (.int .i64 ((i : Int) + 2))) none).run Tryd.prog W = .ok (.string (s.extract i (i + 2))) W := slice_at s i 2 (by omega)
      go_wp2_with fail
      refine (HP2.out _).mono ?_
      rintro e w1 ⟨rfl, rfl⟩
      go_wp2_with fail
      have q := blk_put (blk_put (blk_put (blk_put HTW.out.zero 0 (.int .i64 4) rfl) 1 (.string (s.extract i (i + 2))) rfl) 2 (.int .i64 0) rfl) 3 (.int .i64 (i : Nat)) rfl
      clear z0 z1 z2 z3 f0 f1 f2 f3 y0 y1 y2 y3 e0 e1 e2 e3 x0 x1 x2 x3 g0 g1 g2 g3 wj
      refine bodyPost_ret (results_c1 rfl _ _ w.heap.size 28 _ (0, 0) _ rfl q Tryd.underlying28 rfl (by kernel_rfl)) rfl ⟨HONE.out, ?_⟩
      exact (((HTW.out.below.setCell (p := ⟨w.heap.size, 0, none⟩) (Nat.le_refl _) _).setCell (p := ⟨w.heap.size, 1, none⟩) (Nat.le_refl _) _).setCell (p := ⟨w.heap.size, 2, none⟩) (Nat.le_refl _) _).setCell (p := ⟨w.heap.size, 3, none⟩) (Nat.le_refl _) _
    | false =>
      rw [if_neg (by decide)]
      clear HLEN
      have hix2 := HIX.out
      cases b3 with
      | true =>
        rw [if_pos rfl]
        have HONE := Lib.hid (show OneAns (.ok 4 1 0) s i (.returned (.agg #[.int .i64 4, .string (s.extract i (i + 1)), .int .i64 0, .int .i64 (i : Nat)])) from rfl)
        go_enter Tryd.func35, Tryd.ntmps35
        go_wp2_with fail
        refine (HLET.out _).mono ?_
        rintro e w1 ⟨rfl, rfl⟩
        go_wp2_with fail
        refine (HDIG.out _).mono ?_
        rintro e w1 ⟨rfl, rfl⟩
        go_wp2_with fail
        obtain ⟨hx1, hx2, hb2⟩ := two_boxes w i
        generalize hW2 : (w.alloc (.cells #[.int .i64 0, .string ⟨#[]⟩, .int .i64 0, .int .i64 0] 28)).alloc (.cells #[.int .i64 4, .string ⟨#[]⟩, .int .i64 0, .int .i64 (i : Nat)] 28) = W2 at *
        have HT := Lib.hid (TokW.mk (w := w) (W := W2) hx1 hx2 hb2)
        clear hx1 hx2 hb2 hW2
        refine (HP1.out _).mono ?_
        rintro e w1 ⟨rfl, rfl⟩
        have z0 := blk_cell HT.out.tok 0; have z1 := blk_cell HT.out.tok 1; have z2 := blk_cell HT.out.tok 2; have z3 := blk_cell HT.out.tok 3
        have f0 := blk_frozen HT.out.tok 0; have f1 := blk_frozen HT.out.tok 1; have f2 := blk_frozen HT.out.tok 2; have f3 := blk_frozen HT.out.tok 3
        have HTW := Lib.hid (HT.out.put1 (s.extract i (i + 1)))
        obtain ⟨⟨y0, y1, y2, y3⟩, e0, e1, e2, e3⟩ := tok_loaded HTW.out.zero
        obtain ⟨⟨x0, x1, x2, x3⟩, g0, g1, g2, g3⟩ := tok_loaded HTW.out.tok
        have wj : ∀ W, (Instr.slice 9 (.string s) (some (.int .i64 (i : Nat))) (some (.int .i64 ((i : Int) + 1))) none).run Tryd.prog W = .ok (.string (s.extract i (i + 1))) W := slice_at s i 1 (by omega)
        go_wp2_with fail
        refine (HP2.out _).mono ?_
        rintro e w1 ⟨rfl, rfl⟩
        go_wp2_with fail
        refine (HSG.out _).mono ?_
        rintro e w1 ⟨rfl, rfl⟩
        go_wp2_with fail
        have q := blk_put (blk_put (blk_put (blk_put HTW.out.zero 0 (.int .i64 4) rfl) 1 (.string (s.extract i (i + 1))) rfl) 2 (.int .i64 0) rfl) 3 (.int .i64 (i : Nat)) rfl
        clear z0 z1 z2 z3 f0 f1 f2 f3 y0 y1 y2 y3 e0 e1 e2 e3 x0 x1 x2 x3 g0 g1 g2 g3 wj
        refine bodyPost_ret (results_c1 rfl _ _ w.heap.size 28 _ (0, 0) _ rfl q Tryd.underlying28 rfl (by kernel_rfl)) rfl ⟨HONE.out, ?_⟩
        exact (((HTW.out.below.setCell (p := ⟨w.heap.size, 0, none⟩) (Nat.le_refl _) _).setCell (p := ⟨w.heap.size, 1, none⟩) (Nat.le_refl _) _).setCell (p := ⟨w.heap.size, 2, none⟩) (Nat.le_refl _) _).setCell (p := ⟨w.heap.size, 3, none⟩) (Nat.le_refl _) _
      | false =>
        rw [if_neg (by decide)]
        go_enter Tryd.func35, Tryd.ntmps35
        go_wp2_with fail
        refine (HLET.out _).mono ?_
        rintro e w1 ⟨rfl, rfl⟩
        go_wp2_with fail
        refine (HDIG.out _).mono ?_
        rintro e w1 ⟨rfl, rfl⟩
        go_wp2_with fail
        obtain ⟨hx1, hx2, hb2⟩ := two_boxes w i
        generalize hW2 : (w.alloc (.cells #[.int .i64 0, .string ⟨#[]⟩, .int .i64 0, .int .i64 0] 28)).alloc (.cells #[.int .i64 4, .string ⟨#[]⟩, .int .i64 0, .int .i64 (i : Nat)] 28) = W2 at *
        have HT := Lib.hid (TokW.mk (w := w) (W := W2) hx1 hx2 hb2)
        clear hx1 hx2 hb2 hW2
        refine (HP1.out _).mono ?_
        rintro e w1 ⟨rfl, rfl⟩
        go_wp2_with fail
        refine (HP2.out _).mono ?_
        rintro e w1 ⟨rfl, rfl⟩
        go_wp2_with fail
        refine (HSG.out _).mono ?_
        rintro e w1 ⟨rfl, rfl⟩
        go_wp2_with fail
        exact ⟨rfl, rfl, HT.out.below⟩
theorem one_calls (s : ByteArray) (i : Nat) (hi : i < s.size) (hs : s.size ≤ 140737488351232) (w : World) (hl : LxLaid w) :
    Calls Tryd.prog 35 #[.string s, .int .i64 (i : Nat)] w fun e w' => OneAns (oneL ((ll s).drop i)) s i e ∧ Below w.heap.size w w' := by
  cases hc : letterB s[i] with
  | true => exact one_word s i hi hs w hl hc
  | false =>
    cases hd : digitB s[i] with
    | true => exact one_num s i hi hs w hl hc (.inl hd)
    | false =>
      cases h45 : (s[i] == 45) with
      | true => exact one_num s i hi hs w hl hc (.inr ⟨hd, by simpa using h45⟩)
      | false =>
        cases h34 : (s[i] == 34) with
        | true => exact one_str s i hi hs w hl hc hd h45 h34
        | false => exact one_sign s i hi hs w hl hc hd h45 h34

end Go.Proofs.YtgpdahgpopmjiaaDoor.PL
