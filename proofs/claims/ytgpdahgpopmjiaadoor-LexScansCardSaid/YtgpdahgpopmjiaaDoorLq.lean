/- Parts of the laws of lex: functions of the program, each with the proof of what it answers; the conditions are those of each theorem. -/
import Derived.Test.YtgpdahgpopmjiaaDoorLp
import Derived.Deep.Cut
import Derived.Deep.DeepCutAuto
namespace Go.Proofs.YtgpdahgpopmjiaaDoor.PL
open Go.RowKit Go.Proofs.YtgpdahgpopmjiaaDoorW.PrintWords Go.Proofs.YtgpdahgpopmjiaaDoorW.PrintLast Go.Proofs.YtgpdahgpopmjiaaDoorW.PrintMore
set_option linter.unusedVariables false
set_option linter.unusedSimpArgs false
/-! ### LexWords -/
def wordT (r : List Tok × Int × Nat) (s : ByteArray) : Bool := match r with
  | ([t0, _], why, _) => why == 0 && (t0.kind == 1 && decide ((txt t0).toList = s.toList))
  | _ => false
theorem wordT_is (s : ByteArray) (h : s.size ≤ 65536) : wordT (allL (ll s)) s = wordL (ll s) := by
  have h1 := allL_word (ll s) (by rw [ll_len]; exact h)
  have key : wordT (allL (ll s)) s = true ↔ ∃ t0 t1 p, allL (ll s) = ([t0, t1], 0, p) ∧ t0.kind = 1 ∧ t0.text = ll s := by
    constructor
    · intro hw
      unfold wordT at hw
      split at hw
      · rename_i t0 t1 why p he
        rw [Bool.and_eq_true, Bool.and_eq_true, beq_iff_eq, beq_iff_eq, decide_eq_true_iff] at hw
        obtain ⟨rfl, h2, h3⟩ := hw
        rw [Go.ByteArray.toList_eq, Go.ByteArray.toList_eq] at h3
        exact ⟨t0, t1, p, he, h2, h3⟩
      · cases hw
    · rintro ⟨t0, t1, p, he, h2, h3⟩
      rw [he]
      unfold wordT
      simp only [h2]
      have e : txt t0 = s := by unfold txt; rw [h3]
      simp [e]
  rw [Bool.eq_iff_iff, key, h1]
def lastEnd (pre : List Tok) : Bool := match pre.getLast? with
  | some t => t.kind == 5
  | none => false
theorem lastEnd_snoc (pre : List Tok) (t : Tok) : lastEnd (pre ++ [t]) = (t.kind == 5) := by simp [lastEnd]
theorem lastEnd_all (s : List UInt8) (T : List Tok) (e : Int) (p : Nat) (h : allL s = (T, e, p)) : lastEnd T = (e == 0) := by
  obtain ⟨h1, h2⟩ := allL_end s T e p h
  by_cases he : e = 0
  · obtain ⟨T1, hT, _⟩ := h1 he
    rw [hT, lastEnd_snoc, he]
    rfl
  · have h3 : (e == 0) = false := by rw [beq_eq_false_iff_ne]; exact he
    rw [h3]
    unfold lastEnd
    cases hl : T.getLast? with
    | none => rfl
    | some t =>
      have := h2 he t (List.mem_of_getLast? hl)
      simp [this]
theorem words_len {w : World} {A : Option Addr} {n : Nat} {T : List Tok} {why : Int} (h : Kd.C k28 w A n ((if why = 0 then T else []).map tokS)) : n = if why = 0 then T.length else 0 := by
  have := h.1
  rw [List.length_map] at this
  rw [← this]
  split <;> rfl
theorem func_eqIn_nil (d : Nat) (fn : Fn) (a b : Array Value) (W : World) : (Op.equalIn (d + 1) 36 (.func fn a b) .nilFunc).run Tryd.prog W = .ok false W := by
  have h := Tryd.underlying62
  simp [Op.equalIn, run_underlying h]
theorem func_eql_nil (fn : Fn) (a b : Array Value) (W : World) : (binOp .eql 36 (.func fn a b) .nilFunc).run Tryd.prog W = .ok (.bool false) W := by
  have h : (Op.equal 36 (.func fn a b) .nilFunc).run Tryd.prog W = .ok false W := func_eqIn_nil 9999 fn a b W
  simp only [binOp]
  simp [h]
attribute [local go_sem] Oper.semAt_some
open Go.Shelf in
set_option maxRecDepth 100000 in
set_option maxHeartbeats 16000000 in
theorem words_calls (s : ByteArray) (hs : s.size ≤ 140737488351232) (w : World) (hl : LxLaid w) : Calls Tryd.prog 5 #[.string s] w fun e w' => e = .returned (.bool true) ∧ Below w.heap.size w w' := by
  have HSC := Lib.hid (scan_calls s hs w hl)
  have HL := Lib.hid hl
  clear hl
  refine (callsIn_wide (n := 5)).1 ?_
  refine callsIn_of_wp_marks Tryd.func5 rfl trivial ?_ rfl
  simp only [Tryd.ntmps5, List.size_toArray, List.length_cons, List.length_nil, Nat.reduceAdd, Nat.reduceSub, Array.replicate_succ, Array.replicate_zero, List.push_toArray, List.append_toArray, List.nil_append, List.cons_append]
  refine wpIn_wide.2 ?_
  go_wp2_with fail
  refine HSC.out.mono ?_
  rintro e w1 ⟨A, m, c, hcap, rfl, hC, hb1⟩
  have HB1 := Lib.hid hb1
  clear hb1
  generalize hr : allL (ll s) = r at *
  unfold scanL at hC ⊢
  rw [hr] at hC ⊢
  have HR := Lib.hid hr
  clear hr
  obtain ⟨T, why, i⟩ := r
  have hm := words_len hC
  have hlen := allL_len (ll s)
  rw [HR.out] at hlen
  have HC := Lib.hid hC; have HM := Lib.hid hm
  have hm70 : m ≤ 65538 := by
    rw [hm]
    split
    · exact hlen
    · exact Nat.zero_le _
  have HLEN := Lib.hid hlen
  clear hC HSC hlen hm
  go_upto_region 2 with fail
  go_cut [6] from 11 (fun v6 wc => v6 = .bool (wordT (T, why, i) s) ∧ wc = w1)
  case first =>
    by_cases h0 : why = 0
    · subst h0
      rw [if_pos rfl] at HC HM
      have hm : m = T.length := HM.out
      subst hm
      by_cases h2 : T.length = 2
      · obtain ⟨t0, t1, rfl⟩ : ∃ t0 t1, T = [t0, t1] := by
          match T, h2 with
          | [t0, t1], _ => exact ⟨t0, t1, rfl⟩
        obtain ⟨ad, hA, x0, x1, x2, x3⟩ := tok_at HC.out 0 (by simp)
        subst hA
        have e0 : ad.add 0 = ad := by simp [Addr.add]
        simp only [List.getElem_cons_zero, Nat.zero_mul, e0] at x0 x1 x2 x3
        clear e0 x2 x3
        by_cases hk : t0.kind = 1
        · have hkb : (t0.kind == 1) = true := by rw [hk]; rfl
          by_cases ht : (txt t0).toList = s.toList
          · go_wp2_with fail
            go_meet
            case rel => exact ⟨by simp [wordT, hk, ht], rfl⟩
          · go_wp2_with fail
            go_meet
            case rel => exact ⟨by simp [wordT, hk, ht], rfl⟩
        · have hkb : (t0.kind == 1) = false := by rw [beq_eq_false_iff_ne]; exact hk
          go_wp2_with fail
          go_meet
          case rel => exact ⟨by simp [wordT, hk], rfl⟩
      · have h2b : ((T.length : Int) == 2) = false := by rw [beq_eq_false_iff_ne]; omega
        have hw : wordT (T, 0, i) s = false := by
          unfold wordT
          split
          · rename_i he
            injection he with he _
            subst he
            exact absurd rfl h2
          · rfl
        go_wp2_with fail
        go_meet
        case rel => exact ⟨by rw [hw], rfl⟩
    · have hne : (why == 0) = false := by rw [beq_eq_false_iff_ne]; exact h0
      have hw : wordT (T, why, i) s = false := by
        unfold wordT
        split
        · rename_i he
          injection he with _ he
          injection he with he _
          subst he
          rw [hne]
          rfl
        · rfl
      go_wp2_with fail
      go_meet
      case rel => exact ⟨by rw [hw], rfl⟩
  case rest =>
    obtain ⟨rfl, rfl⟩ := hcut
    have HW := Lib.hid (fun h => (wordT_is s h).symm)
    rw [HR.out] at HW
    generalize wordT (T, why, i) s = wd at *
    have HWD := Lib.hid (fun W => word_calls s hs W)
    go_upto_region 3 with fail
    go_cut [47] from 11 (fun v47 w5 => v47 = .bool false ∧ w5 = wc)
    case first =>
      by_cases hb : s.size ≤ 65536
      · have hw := HW.out hb
        rw [hw] at HWD
        clear hw
        go_wp2_with fail
        refine (HWD.out _).mono ?_
        rintro e w2 ⟨rfl, rfl⟩
        cases wd <;> (go_wp2_with fail; go_meet; case rel => exact ⟨rfl, rfl⟩)
      · have hb2 : decide ((s.size : Int) ≤ 65536) = false := decide_eq_false (by omega)
        go_wp2_with fail
        refine (HWD.out _).mono ?_
        rintro e w2 ⟨rfl, rfl⟩
        generalize wordL (ll s) = wl
        cases wd <;> cases wl <;> (go_wp2_with fail; go_meet; case rel => exact ⟨rfl, rfl⟩)
    case rest =>
      rename_i wc0
      obtain ⟨rfl, rfl⟩ := hcut
      clear HW HWD HC
      go_wp2_with fail
      refine (each_calls s _).mono ?_
      rintro e w2 ⟨rfl, rfl⟩
      have hnf := fun (b : Array Value) (W : World) => func_eql_nil (.func 27) #[] b W
      go_wp2_with fail
      have hb0 : Below w.heap.size w (((wc.alloc (.cells #[.string s] 9)).alloc (.cells #[.int .i64 0] 3)).alloc (.cells #[.bool false] 4)) := ((HB1.out.alloc HB1.out.size _).alloc (by have := HB1.out.size; simp; omega) _).alloc (by have := HB1.out.size; simp; omega) _
      have bS := ((Boxed.new wc 9 (.string s)).alloc (.cells #[.int .i64 0] 3)).alloc (.cells #[.bool false] 4)
      have bN := (Boxed.new (wc.alloc (.cells #[.string s] 9)) 3 (.int .i64 0)).alloc (.cells #[.bool false] 4)
      have bE := Boxed.new ((wc.alloc (.cells #[.string s] 9)).alloc (.cells #[.int .i64 0] 3)) 4 (.bool false)
      simp only [World.size_alloc] at bN bE
      have hszW : (((wc.alloc (.cells #[.string s] 9)).alloc (.cells #[.int .i64 0] 3)).alloc (.cells #[.bool false] 4)).heap.size = wc.heap.size + 3 := by simp
      obtain ⟨W0, hW0⟩ : ∃ W0, ((wc.alloc (.cells #[.string s] 9)).alloc (.cells #[.int .i64 0] 3)).alloc (.cells #[.bool false] 4) = W0 := ⟨_, rfl⟩
      rw [hW0] at hb0 bS bN bE hszW ⊢
      clear hW0
      have hst := lex_each_stops (5 - 1) (by decide) wc.heap.size (wc.heap.size + 1) (wc.heap.size + 1 + 1) s hs W0 bS (HL.out.below hb0) (by omega) (by omega)
      rw [HR.out] at hst
      have hwsz := HB1.out.size
      have hTl := HLEN.out
      refine (wpIn_wide (n := 5)).1 ?_
      refine wpIn_rangeFunc_ownH rfl (by decide) (gf := 27) (lb := #[.pointer (some ⟨wc.heap.size, 0, none⟩)]) rfl trivial (enters_of Tryd.func27 (by kernel_rfl) rfl)
        hst (fun h k => keepsTwo_trans h k)
        (fun W l o o' hl ho hoc _ => ⟨by simp, fun b o1 h1 h2 h3 h4 => (World.putObj_heap_other (fun e => by subst e; rw [h3] at ho; injection ho with ho; subst ho; rw [h4] at hoc; cases hoc)).trans h3⟩)
        (Below.refl _ _) (fun _ => rfl)
        (fun (pre : List Tok) W => (Boxed W (wc.heap.size + 1) 3 (.int .i64 (pre.length : Nat)) ∧ Boxed W (wc.heap.size + 1 + 1) 4 (.bool (lastEnd pre))) ∧ Below w.heap.size w W)
        (fun _ _ _ => False)
        (OwnFrom.and (OwnFrom.and (Own.from (boxed_own _ _ _) _) (Own.from (boxed_own _ _ _) _)) (ownFrom_below (Nat.le_refl _) (by omega)))
        (fun _ _ _ _ _ hs _ _ => hs)
        ⟨⟨bN, bE⟩, hb0⟩
        (fun x a' W => ∃ Bx, wc.heap.size + 1 + 1 < Bx ∧ W.heap[Bx]? = some (.cells #[.int .i64 x.kind, .string (txt x), .int .i64 x.n, .int .i64 (x.pos : Nat)] 28 (0, 0)) ∧ a' = { tmps := #[.string s, undef, .bool false, .slice A m c, .int .i64 why, .int .i64 (i : Nat), .bool wd, .func (.func 27) #[] #[.pointer (some ⟨wc.heap.size, 0, none⟩)], .pointer (some ⟨wc.heap.size + 1, 0, none⟩), .pointer (some ⟨wc.heap.size + 1 + 1, 0, none⟩), .pointer (some ⟨Bx, 0, none⟩), u11, u12, u13, u14, u15, u16, u17, u18, u19, u20, u21, u22, u23, u24, u25, u26, u27, u28, u29, u30, u31, u32, u33, u34, u35, u36, u37, u38, u39, u40, u41, u42, u43, u44, u45, u46, .bool false, .string s, .func (.func 27) #[] #[.pointer (some ⟨wc.heap.size, 0, none⟩)], .func (.func 27) #[] #[.pointer (some ⟨wc.heap.size, 0, none⟩)], .bool false, .func (.func 27) #[] #[.pointer (some ⟨wc.heap.size, 0, none⟩)], tok28 (tokS x), u54, u55, u56, u57, u58, u59, u60, u61, u62, u63, u64, u65, u66, u67, u68, u69, u70, u71, u72, u73, u74, u75], defers := [] })
        (fun x a' _ X Y row hs hg hr => by
          obtain ⟨Bx, h1, h2, h3⟩ := hs
          refine ⟨Bx, h1, (hg.block Bx (blk_lt h2) (fun e => ?_)).trans h2, h3⟩
          obtain ⟨_, o, ho, hc⟩ := hr Bx e.symm
          rw [h2] at ho
          injection ho with ho
          subst ho
          cases hc)
        ?assign ?body ?done ?stop
      case assign =>
        rintro l pre x W K ⟨⟨b1, b2⟩, hB⟩ hK
        rw [show tok28 (tokS x) = .agg #[.int .i64 x.kind, .string (txt x), .int .i64 x.n, .int .i64 (x.pos : Nat)] from rfl]
        gi_wp2
        refine hK _ _ ((KeepsOthers.alloc _ _).from _) ⟨by simp, fun b o _ _ h _ => (Below.heap_alloc _ _ b (blk_lt h)).trans h⟩ ⟨⟨b1.alloc _, b2.alloc _⟩, hB.alloc hB.size _⟩ ⟨W.heap.size, b2.lt, World.alloc_heap_new _ _, rfl⟩
      case body =>
        rintro l pre x a' W hl ⟨r, hr⟩ ⟨⟨b1, b2⟩, hB⟩ ⟨Bx, hBx, bX, rfl⟩ hlt
        have c1 := b1.cell; have f1 := b1.frozen; have c2 := b2.cell; have f2 := b2.frozen
        have cX : W.cell? ⟨Bx, 0, none⟩ = some (.int .i64 x.kind) := blk_cell bX 0
        have hpl : pre.length < 70000 := by
          have : pre.length < T.length := hlt
          omega
        have hwk : IntKind.i64.wrap ((pre.length : Int) + 1) = (pre.length : Int) + 1 := IntWalk.i64_in _ (by omega)
        have B1 := Lib.hid b1; have B2 := Lib.hid b2; have HBW := Lib.hid hB
        clear b1 b2 hB bX hr hlt
        gi_wp2
        refine ⟨((KeepsOthers.setCell _ _ _).trans (KeepsOthers.setCell _ _ _)).from _, ⟨by simp, fun b o h1 h2 h3 h4 => (Below.heap_setCell _ _ _ b h2).trans ((Below.heap_setCell _ _ _ b h1).trans h3)⟩, ⟨?_, ?_⟩, ?_⟩
        · rw [show (((pre ++ [x]).length : Nat) : Int) = (pre.length : Int) + 1 by simp]
          exact (B1.out.set _).other (by omega) _
        · rw [lastEnd_snoc]
          exact (B2.out.other (by omega) _).set _
        · exact (HBW.out.setCell (p := ⟨wc.heap.size + 1, 0, none⟩) (by show w.heap.size ≤ wc.heap.size + 1; omega) _).setCell (p := ⟨wc.heap.size + 1 + 1, 0, none⟩) (by show w.heap.size ≤ wc.heap.size + 1 + 1; omega) _
      case done =>
        rintro D xs W hD rfl ⟨⟨b1, b2⟩, hB⟩ hK
        have c1 := b1.cell; have c2 := b2.cell
        have hle := lastEnd_all _ _ _ _ HR.out
        rw [hle] at c2
        have HKN := Lib.hid (known_calls W (HL.out.below hB))
        have HBW := Lib.hid hB
        clear b1 b2 hB hle hst
        by_cases h0 : why = 0
        · have hm := HM.out
          rw [if_pos h0] at hm
          subst hm
          subst h0
          gi_wp2_with fail
          go_wp2_with fail
          refine HKN.out.mono ?_
          rintro e W5 ⟨rfl, hb5⟩
          have hK5 := (hb5.block D (Array.getElem?_eq_some_iff.1 hK).1).trans hK
          have HB5 := Lib.hid (below_step HBW.out hb5)
          clear hb5
          go_wp2_with fail
          refine ⟨by simp, .inl ⟨_, _, rfl, run_takeDeferred hK5, ?_⟩⟩
          refine ⟨_, by simp [results, Tryd.results5, go_sem]; rfl, ?_⟩
          exact ⟨rfl, HB5.out.trans (belowK_b (w := w) (Nat.le_refl _) W5 D _ _ (by omega) hK5 rfl rfl)⟩
        · have hne : (why == 0) = false := by rw [beq_eq_false_iff_ne]; exact h0
          have hne2 : (why != 0) = true := by rw [bne_iff_ne]; exact h0
          rw [hne] at c2
          gi_wp2_with fail
          go_wp2_with fail
          refine HKN.out.mono ?_
          rintro e W5 ⟨rfl, hb5⟩
          have hK5 := (hb5.block D (Array.getElem?_eq_some_iff.1 hK).1).trans hK
          have HB5 := Lib.hid (below_step HBW.out hb5)
          clear hb5
          go_wp2_with fail
          refine ⟨by simp, .inl ⟨_, _, rfl, run_takeDeferred hK5, ?_⟩⟩
          refine ⟨_, by simp [results, Tryd.results5, go_sem]; rfl, ?_⟩
          exact ⟨rfl, HB5.out.trans (belowK_b (w := w) (Nat.le_refl _) W5 D _ _ (by omega) hK5 rfl rfl)⟩
      case stop =>
        rintro D c pre W _ _ h _
        exact h.elim

end Go.Proofs.YtgpdahgpopmjiaaDoor.PL
