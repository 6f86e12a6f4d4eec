/- Parts of the laws of lex: functions of the program, each with the proof of what it answers; the conditions are those of each theorem. -/
import Derived.Test.YtgpdahgpopmjiaaDoorLe
import Derived.Lib.SmallJoins
import Derived.RangeFuncRecord
import Derived.LaidEql
import Derived.WalkLawsBesides
namespace Go.Proofs.YtgpdahgpopmjiaaDoor.PL
open Go.RowKit Go.Proofs.YtgpdahgpopmjiaaDoorW.PrintWords Go.Proofs.YtgpdahgpopmjiaaDoorW.PrintLast Go.Proofs.YtgpdahgpopmjiaaDoorW.PrintMore
set_option linter.unusedVariables false
set_option linter.unusedSimpArgs false
/-! ### number -/
/-- the library's variables that are read -/
structure LxLaid (w : World) : Prop where
  syn : ∃ tp p, w.var? Tryd.prog "strconv.ErrSyntax" = some #[.iface tp p]
  rng : ∃ tp p, w.var? Tryd.prog "strconv.ErrRange" = some #[.iface tp p]
  tab : Lib.TabIs Tryd.prog w "internal/strconv.uint64pow10" .u64 Lib.pow10Tab
theorem LxLaid.below {w w' : World} (h : LxLaid w) (hb : Below w.heap.size w w') : LxLaid w' := by
  obtain ⟨⟨tp, p, h1⟩, ⟨tq, q, h2⟩, h3⟩ := h
  exact ⟨⟨tp, p, Go.Joins.var_stays rfl h1 hb (Nat.le_refl _)⟩, ⟨tq, q, Go.Joins.var_stays rfl h2 hb (Nat.le_refl _)⟩, Go.Joins.tab_stays rfl h3 hb (Nat.le_refl _)⟩
/-- what ParseInt answers of digits behind a '-', or none -/
def ParseAns (b : Bool) (ds : List UInt8) (e : Ending) : Prop :=
  ((ds = [] ∨ 1000000000 < decV ds) ∧ ∃ n a, e = .returned (.tuple #[.int .i64 n, .iface 82 (.pointer (some a))])) ∨
  (ds ≠ [] ∧ e = .returned (.tuple #[.int .i64 (if b then -(decV ds : Int) else decV ds), .nilIface]))
theorem parse_calls (b : Bool) (ds : List UInt8) (h : ∀ c ∈ ds, digitB c = true) (s : ByteArray) (hs : ll s = if b then 45 :: ds else ds) (hz : s.size ≤ 140737488351232) (w : World) (hl : LxLaid w) :
    Calls Tryd.prog 51 #[.string s, .int .i64 10, .int .i64 64] w fun e w' => ParseAns b ds e ∧ Below w.heap.size w w' := by
  have hs' : s.data.toList = if b then 45 :: ds else ds := hs
  rcases parse_digits b ds h with ⟨h1, h2 | h2⟩ | ⟨h1, h2⟩
  · obtain ⟨tp, p, hv⟩ := hl.syn
    refine (Tryd.strconv_ParseInt_10_at64_syntax_var s (by omega) (by rw [hs']; exact h2) tp p w hv).mono ?_
    rintro e w' ⟨N, rfl, _, _, hb⟩
    exact ⟨.inl ⟨h1, _, _, rfl⟩, hb⟩
  · obtain ⟨tp, p, hv⟩ := hl.rng
    refine (Tryd.strconv_ParseInt_10_at64_range_var s (by omega) (by rw [hs']; exact h2) tp p w hv).mono ?_
    rintro e w' ⟨N, rfl, _, _, hb⟩
    exact ⟨.inl ⟨h1, _, _, rfl⟩, hb⟩
  · refine (Tryd.strconv_ParseInt_10_at64_ok s (by omega) _ (by rw [hs']; exact h2) w).mono ?_
    rintro e w' ⟨rfl, rfl | ⟨t, rfl⟩⟩
    · exact ⟨.inr ⟨h1, rfl⟩, Below.refl _ _⟩
    · exact ⟨.inr ⟨h1, rfl⟩, Go.Joins.below_bytesWorld _ _ _ _ (Nat.le_refl _)⟩
/-- what is thrown -/
def thrown (why : Int) (i : Nat) : Ending := .panicked [{ v := .iface 40 (.agg #[.int .i64 why, .int .i64 (i : Nat)]), recovered := false }]
def tokV (kind : Int) (t : ByteArray) (n : Int) (i : Nat) : Value := .agg #[.int .i64 kind, .string t, .int .i64 n, .int .i64 (i : Nat)]
def OneAns (o : One) (s : ByteArray) (i : Nat) (e : Ending) : Prop :=
  match o with
  | .bad why => e = thrown why i
  | .ok k len v => e = .returned (tokV k (s.extract i (i + len)) v i)
theorem digits_at (s : ByteArray) (k : Nat) (c : UInt8) (hc : c ∈ ((ll s).drop k).takeWhile digitB) : digitB c = true := by
  have : ∀ (l : List UInt8), c ∈ l.takeWhile digitB → digitB c = true := by
    intro l
    induction l with
    | nil => intro h; cases h
    | cons x l ih =>
      intro h
      rw [List.takeWhile_cons] at h
      split at h
      · rename_i hx
        rw [List.mem_cons] at h
        rcases h with rfl | h
        · exact hx
        · exact ih h
      · cases h
  exact this _ hc
theorem ll_num (s : ByteArray) (i : Nat) (hi : i < s.size) (b : Bool) (hb : (s[i] == 45) = b) :
    ll (s.extract i (runTo digitB s (if b then i + 1 else i))) = (if b then 45 :: ((ll s).drop (if b then i + 1 else i)).takeWhile digitB else ((ll s).drop (if b then i + 1 else i)).takeWhile digitB) := by
  rw [ll_cut]
  cases b with
  | true =>
    rw [if_pos rfl, if_pos rfl, ll_drop s i hi]
    have h45 : s[i] = 45 := by simpa using hb
    unfold runTo
    rw [h45, show i + 1 + (((ll s).drop (i + 1)).takeWhile digitB).length - i = (((ll s).drop (i + 1)).takeWhile digitB).length + 1 by omega, List.take_succ_cons, ← takeWhile_take]
  | false =>
    rw [if_neg (by decide), if_neg (by decide)]
    unfold runTo
    rw [Nat.add_sub_cancel_left, ← takeWhile_take]
theorem numL_runTo (s : ByteArray) (b : Bool) (k : Nat) (hk : k ≤ s.size) :
    numL b ((ll s).drop k) = if ((ll s).drop k).takeWhile digitB = [] ∨ 1000000000 < decV (((ll s).drop k).takeWhile digitB) then .bad 150 else if floatL (ll (s.extract (runTo digitB s k) s.size)) then .bad 173 else .ok 2 ((if b then 1 else 0) + (((ll s).drop k).takeWhile digitB).length) (if b then -(decV (((ll s).drop k).takeWhile digitB) : Int) else decV (((ll s).drop k).takeWhile digitB)) := by
  have h := runTo_le digitB s k hk
  unfold numL
  rw [ll_cut, drop_runTo, List.take_of_length_le (l := ((ll s).drop k).dropWhile digitB)]
  rw [← drop_runTo, List.length_drop, ll_len]
  exact Nat.le_refl _
theorem results_c1 {P : Program} {fn : Func} {p : Tmp} {ty : TypeId} (h : fn.results = #[.cell p ty]) (tmps : Array Value) (w : World) (g : Nat) (t : TypeId) (cs : Array Value) (fr : Nat × Nat) (d : TypeDesc)
    (hp : tmps.getD p undef = .pointer (some ⟨g, 0, none⟩)) (hg : w.heap[g]? = some (.cells cs t fr))
    (hu : P.underlying ty = some d) (hd : (match d with | .struct _ | .array _ _ => true | _ => false) = true) (hi : (P.info? ty).map (·.size) = some cs.size) :
    (results fn tmps).run P w = .ok (.agg cs) w := by
  have hp' : tmps[p]?.getD undef = .pointer (some ⟨g, 0, none⟩) := by simpa using hp
  simp [results, h, hp', asAddr, run_loadVar_row w g t ty cs fr d hg hu hd hi]
set_option maxRecDepth 100000 in
set_option maxHeartbeats 16000000 in
theorem number_calls (s : ByteArray) (i : Nat) (hi : i < s.size) (hs : s.size ≤ 140737488351232) (w : World) (hl : LxLaid w) (b : Bool) (hb : (s[i] == 45) = b) :
    Calls Tryd.prog 42 #[.string s, .int .i64 (i : Nat)] w fun e w' => OneAns (numL b ((ll s).drop (if b then i + 1 else i))) s i e ∧ Below w.heap.size w w' := by
  have hcb : (((s[i]).toNat : Int) == 45) = b := by rw [← hb]; exact byte_eq s[i] 45
  obtain ⟨k, hk⟩ : ∃ k, k = if b then i + 1 else i := ⟨_, rfl⟩
  have hnum := ll_num s i hi b hb
  rw [← hk] at hnum ⊢
  have hks : k ≤ s.size ∧ i ≤ k := by rw [hk]; split <;> omega
  have hle := runTo_le digitB s k hks.1
  have hN := numL_runTo s b k hks.1
  have hj : runTo digitB s k = k + (((ll s).drop k).takeWhile digitB).length := rfl
  have hdig := digits_at s k
  have HRUN := Lib.hid (fun W => run_calls _ _ runP_digit s k hks.1 hs W)
  obtain ⟨ds, hds⟩ : ∃ ds, ds = ((ll s).drop k).takeWhile digitB := ⟨_, rfl⟩
  rw [← hds] at hnum hN hj hdig
  obtain ⟨j, hjj⟩ : ∃ j, j = runTo digitB s k := ⟨_, rfl⟩
  rw [← hjj] at hnum hN hj hle HRUN
  have hzj : (s.extract i j).size ≤ 140737488351232 := by rw [← ll_len, ll_cut, List.length_take, List.length_drop, ll_len]; omega
  have hzr : (s.extract j s.size).size ≤ 140737488351232 := by rw [← ll_len, ll_cut, List.length_take, List.length_drop, ll_len]; omega
  have HP := Lib.hid (fun W (h : LxLaid W) => parse_calls b ds hdig (s.extract i j) hnum hzj W h)
  have HF := Lib.hid (fun W => float_calls (s.extract j s.size) hzr W)
  have HN := Lib.hid hN; have HJ := Lib.hid hj; have HK := Lib.hid hk; have HL := Lib.hid hl
  have hij : i ≤ j := by omega
  clear hnum hN hj hdig hds hjj hzj hzr hk hl hb
  cases b with
  | true =>
    have hki : k = i + 1 := HK.out
    subst hki
    go_enter Tryd.func42, Tryd.ntmps42
    go_wp2_with fail
    have hb1 : Below w.heap.size w (w.alloc (.cells #[.int .i64 0, .string ⟨#[]⟩, .int .i64 0, .int .i64 0] 28)) := (Below.refl _ w).alloc (Nat.le_refl _) _
    have HB1 := Lib.hid hb1
    clear hb1
    have hbx := World.alloc_heap_new w (.cells #[.int .i64 0, .string ⟨#[]⟩, .int .i64 0, .int .i64 0] 28)
    have hszw : (w.alloc (.cells #[.int .i64 0, .string ⟨#[]⟩, .int .i64 0, .int .i64 0] 28)).heap.size = w.heap.size + 1 := by simp
    refine (HRUN.out _).mono ?_
    rintro e w1 ⟨rfl, rfl⟩
    have hd := Drawn0.refl (w.alloc (.cells #[.int .i64 0, .string ⟨#[]⟩, .int .i64 0, .int .i64 0] 28))
    have HB2 := Lib.hid (below_step HB1.out hd.below)
    have HX2 := Lib.hid ((hd.below.block w.heap.size (by omega)).trans hbx)
    clear hd hbx
    go_wp2_with fail
    refine (HP.out _ (HL.out.below HB2.out)).mono ?_
    rintro e w2 ⟨ha, hb⟩
    have HB3 := Lib.hid (below_step HB2.out hb)
    have HX3 := Lib.hid ((hb.block w.heap.size (blk_lt HX2.out)).trans HX2.out)
    clear hb
    rcases ha with ⟨h1, n, a, rfl⟩ | ⟨h1, rfl⟩
    · have H1 := Lib.hid h1
      clear h1
      go_wp2_with fail
      refine ⟨rfl, ?_, HB3.out⟩
      rw [HN.out, if_pos H1.out]
      exact rfl
    · obtain ⟨dv, hdv⟩ : ∃ d, d = decV ds := ⟨_, rfl⟩
      rw [← hdv]
      have HDV := Lib.hid hdv
      clear hdv
      by_cases hbig : 1000000000 < dv
      · have hb9 : decide (-(dv : Int) < -1000000000) = true := decide_eq_true (by omega)
        have hb8 : decide (-(dv : Int) > 1000000000) = false := decide_eq_false (by omega)
        go_wp2_with fail
        refine ⟨rfl, ?_, HB3.out⟩
        rw [HN.out, if_pos (.inr (by rw [← HDV.out]; exact hbig))]
        exact rfl
      · have hnb : ¬ (ds = [] ∨ 1000000000 < decV ds) := by
          rw [← HDV.out]
          rintro (h | h)
          · exact h1 h
          · exact hbig h
        have HNB := Lib.hid hnb
        have hb9 : decide (-(dv : Int) < -1000000000) = false := decide_eq_false (by omega)
        have hb8 : decide (-(dv : Int) > 1000000000) = false := decide_eq_false (by omega)
        clear hnb h1
        go_wp2_with fail
        refine (HF.out _).mono ?_
        rintro e w3 ⟨rfl, rfl⟩
        have hd := Drawn0.refl w3
        have HB4 := Lib.hid (below_step HB3.out hd.below)
        have hx4 := (hd.below.block w.heap.size (blk_lt HX3.out)).trans HX3.out
        clear hd
        cases hf : floatL (ll (s.extract j s.size)) with
        | true =>
          have HFL := Lib.hid hf
          clear hf hx4
          go_wp2_with fail
          refine ⟨rfl, ?_, HB4.out⟩
          rw [HN.out, if_neg HNB.out, if_pos HFL.out]
          exact rfl
        | false =>
          have HFL := Lib.hid hf
          clear hf
          have z0 := blk_cell hx4 0; have z1 := blk_cell hx4 1; have z2 := blk_cell hx4 2; have z3 := blk_cell hx4 3
          have f0 := blk_frozen hx4 0; have f1 := blk_frozen hx4 1; have f2 := blk_frozen hx4 2; have f3 := blk_frozen hx4 3
          go_wp2_with fail
          have q := blk_put (blk_put (blk_put (blk_put hx4 0 (.int .i64 2) rfl) 1 (.string (s.extract i j)) rfl) 2 (.int .i64 (-(dv : Int))) rfl) 3 (.int .i64 (i : Nat)) rfl
          clear z0 z1 z2 z3 f0 f1 f2 f3
          refine bodyPost_ret (results_c1 rfl _ _ w.heap.size 28 _ (0, 0) _ rfl q Tryd.underlying28 rfl (by kernel_rfl)) rfl ⟨?_, ?_⟩
          · rw [HN.out, if_neg HNB.out, HFL.out]
            show Ending.returned (.agg #[.int .i64 2, .string (s.extract i j), .int .i64 (-(dv : Int)), .int .i64 (i : Nat)]) = Ending.returned (.agg #[.int .i64 2, .string (s.extract i (i + (1 + ds.length))), .int .i64 (-(decV ds : Int)), .int .i64 (i : Nat)])
            rw [HDV.out, show i + (1 + ds.length) = j by have := HJ.out; omega]
          · exact (((HB4.out.setCell (p := ⟨w.heap.size, 0, none⟩) (Nat.le_refl _) _).setCell (p := ⟨w.heap.size, 1, none⟩) (Nat.le_refl _) _).setCell (p := ⟨w.heap.size, 2, none⟩) (Nat.le_refl _) _).setCell (p := ⟨w.heap.size, 3, none⟩) (Nat.le_refl _) _
  | false =>
    have hki : k = i := HK.out
    subst hki
    go_enter Tryd.func42, Tryd.ntmps42
    go_wp2_with fail
    have hb1 : Below w.heap.size w (w.alloc (.cells #[.int .i64 0, .string ⟨#[]⟩, .int .i64 0, .int .i64 0] 28)) := (Below.refl _ w).alloc (Nat.le_refl _) _
    have HB1 := Lib.hid hb1
    clear hb1
    have hbx := World.alloc_heap_new w (.cells #[.int .i64 0, .string ⟨#[]⟩, .int .i64 0, .int .i64 0] 28)
    have hszw : (w.alloc (.cells #[.int .i64 0, .string ⟨#[]⟩, .int .i64 0, .int .i64 0] 28)).heap.size = w.heap.size + 1 := by simp
    refine (HRUN.out _).mono ?_
    rintro e w1 ⟨rfl, rfl⟩
    have hd := Drawn0.refl (w.alloc (.cells #[.int .i64 0, .string ⟨#[]⟩, .int .i64 0, .int .i64 0] 28))
    have HB2 := Lib.hid (below_step HB1.out hd.below)
    have HX2 := Lib.hid ((hd.below.block w.heap.size (by omega)).trans hbx)
    clear hd hbx
    go_wp2_with fail
    refine (HP.out _ (HL.out.below HB2.out)).mono ?_
    rintro e w2 ⟨ha, hb⟩
    have HB3 := Lib.hid (below_step HB2.out hb)
    have HX3 := Lib.hid ((hb.block w.heap.size (blk_lt HX2.out)).trans HX2.out)
    clear hb
    rcases ha with ⟨h1, n, a, rfl⟩ | ⟨h1, rfl⟩
    · have H1 := Lib.hid h1
      clear h1
      go_wp2_with fail
      refine ⟨rfl, ?_, HB3.out⟩
      rw [HN.out, if_pos H1.out]
      exact rfl
    · obtain ⟨dv, hdv⟩ : ∃ d, d = decV ds := ⟨_, rfl⟩
      rw [← hdv]
      have HDV := Lib.hid hdv
      clear hdv
      by_cases hbig : 1000000000 < dv
      · have hb9 : decide ((dv : Int) > 1000000000) = true := decide_eq_true (by omega)
        go_wp2_with fail
        refine ⟨rfl, ?_, HB3.out⟩
        rw [HN.out, if_pos (.inr (by rw [← HDV.out]; exact hbig))]
        exact rfl
      · have hnb : ¬ (ds = [] ∨ 1000000000 < decV ds) := by
          rw [← HDV.out]
          rintro (h | h)
          · exact h1 h
          · exact hbig h
        have HNB := Lib.hid hnb
        have hb9 : decide ((dv : Int) > 1000000000) = false := decide_eq_false (by omega)
        have hb8 : decide ((dv : Int) < -1000000000) = false := decide_eq_false (by omega)
        clear hnb h1
        go_wp2_with fail
        refine (HF.out _).mono ?_
        rintro e w3 ⟨rfl, rfl⟩
        have hd := Drawn0.refl w3
        have HB4 := Lib.hid (below_step HB3.out hd.below)
        have hx4 := (hd.below.block w.heap.size (blk_lt HX3.out)).trans HX3.out
        clear hd
        cases hf : floatL (ll (s.extract j s.size)) with
        | true =>
          have HFL := Lib.hid hf
          clear hf hx4
          go_wp2_with fail
          refine ⟨rfl, ?_, HB4.out⟩
          rw [HN.out, if_neg HNB.out, if_pos HFL.out]
          exact rfl
        | false =>
          have HFL := Lib.hid hf
          clear hf
          have z0 := blk_cell hx4 0; have z1 := blk_cell hx4 1; have z2 := blk_cell hx4 2; have z3 := blk_cell hx4 3
          have f0 := blk_frozen hx4 0; have f1 := blk_frozen hx4 1; have f2 := blk_frozen hx4 2; have f3 := blk_frozen hx4 3
          go_wp2_with fail
          have q := blk_put (blk_put (blk_put (blk_put hx4 0 (.int .i64 2) rfl) 1 (.string (s.extract k j)) rfl) 2 (.int .i64 (dv : Nat)) rfl) 3 (.int .i64 (k : Nat)) rfl
          clear z0 z1 z2 z3 f0 f1 f2 f3
          refine bodyPost_ret (results_c1 rfl _ _ w.heap.size 28 _ (0, 0) _ rfl q Tryd.underlying28 rfl (by kernel_rfl)) rfl ⟨?_, ?_⟩
          · rw [HN.out, if_neg HNB.out, HFL.out]
            show Ending.returned (.agg #[.int .i64 2, .string (s.extract k j), .int .i64 (dv : Nat), .int .i64 (k : Nat)]) = Ending.returned (.agg #[.int .i64 2, .string (s.extract k (k + (0 + ds.length))), .int .i64 (decV ds : Nat), .int .i64 (k : Nat)])
            rw [HDV.out, show k + (0 + ds.length) = j by have := HJ.out; omega]
          · exact (((HB4.out.setCell (p := ⟨w.heap.size, 0, none⟩) (Nat.le_refl _) _).setCell (p := ⟨w.heap.size, 1, none⟩) (Nat.le_refl _) _).setCell (p := ⟨w.heap.size, 2, none⟩) (Nat.le_refl _) _).setCell (p := ⟨w.heap.size, 3, none⟩) (Nat.le_refl _) _

end Go.Proofs.YtgpdahgpopmjiaaDoor.PL
