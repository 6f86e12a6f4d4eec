/- Parts of the laws of bits: functions of the program, each with the proof of what it answers; the conditions are those of each theorem. -/
import Derived.Test.YtfkbkcdiajjljaaDoorBzca
import Derived.Lib.BitFns
import Derived.Lib.ItoaNum
namespace Go.Proofs.YtfkbkcdiajjljaaDoor.PBitsSteps
open Go.RowKit Go.Proofs.YtfkbkcdiajjljaaDoorW.PrintWords Go.Proofs.YtfkbkcdiajjljaaDoorW.PrintLast Go.Proofs.YtfkbkcdiajjljaaDoorW.PrintMore
set_option linter.unusedVariables false
set_option linter.unusedSimpArgs false
/-! ### lists that are alike -/
set_option maxHeartbeats 4000000 in
theorem words_alike (ga gb n ca cb : Nat) (xa xb : Array Value) (v : Nat → Nat) (w : World) (ha : w.heap[ga]? = some (.cells xa 72 (0, 0))) (hb : w.heap[gb]? = some (.cells xb 72 (0, 0))) (va : ∀ i : Nat, i < n → xa[i]? = some (.int .u64 (v i : Nat))) (vb : ∀ i : Nat, i < n → xb[i]? = some (.int .u64 (v i : Nat))) (hn : n ≤ 65536) :
    Calls Tryd.prog 50 #[.slice (some ⟨ga, 0, none⟩) n ca, .slice (some ⟨gb, 0, none⟩) n cb] w fun e w' => e = .returned (.bool true) ∧ Drawn0 w w' := by
  have VA : ∀ i : Nat, i < n → w.cell? ⟨ga, i, none⟩ = some (.int .u64 (v i : Nat)) := fun i hi => (blk_cell ha i).trans (va i hi)
  have VB : ∀ i : Nat, i < n → w.cell? ⟨gb, i, none⟩ = some (.int .u64 (v i : Nat)) := fun i hi => (blk_cell hb i).trans (vb i hi)
  have HA := Lib.hid VA; have HB := Lib.hid VB
  clear ha hb va vb VA VB
  go_enter Tryd.func50, Tryd.ntmps50
  go_wp2_with fail
  go_loopw [5] (fun i wr => ∃ k m : Nat, i = .int .i64 k ∧ k ≤ n ∧ wr = w.drewN m) (fun i _ => n - (intOf i).toNat)
  case atStart => exact ⟨0, 0, rfl, by omega, rfl⟩
  case round =>
    obtain ⟨k, m, rfl, hk, rfl⟩ := hrel
    by_cases hkn : k < n
    · have c1 := HA.out k hkn; have c2 := HB.out k hkn
      go_wp2_with fail
      go_quiet (fail)
      go_wp2_with fail
      go_roundw
      case rel => exact ⟨k + 1, _, by go_num, by omega, rfl⟩
      case measure => simp [intOf]; omega
    · obtain rfl : k = n := by omega
      go_wp2_with fail
      go_ret
      exact ⟨rfl, ⟨⟨_, rfl⟩⟩⟩
theorem eqA71 (d : Nat) (w : World) (x0 y0 : Int) (x1 y1 : Int) :
    (Op.equalIn (d + 2) 71 (.agg #[.int .i64 x0, .int .i64 x1]) (.agg #[.int .i64 y0, .int .i64 y1])).run Tryd.prog w = .ok (x0 == y0 && (x1 == y1)) w := by
  refine eqA_of Tryd.underlying71 (by kernel_rfl) ?_
  refine eqf_cons (by rfl) (by go_simp; rfl) (by go_simp; rfl) (by go_simp) ?_
  exact eqf_last (by rfl) (by go_simp; rfl) (by go_simp; rfl) (by go_simp)
attribute [local go_sem high] eqA71
set_option maxHeartbeats 4000000 in
theorem refAlike_same (A B : Option Addr) (ca cb : Nat) (l : List S71) (w : World) (ha : Kd.C k71 w A l.length l) (hb : Kd.C k71 w B l.length l) (hn : l.length < 2 ^ 62) :
    Calls Tryd.prog 48 #[.slice A l.length ca, .slice B l.length cb] w fun e w' => e = .returned (.bool true) ∧ Drawn0 w w' := by
  have hu71 := Tryd.underlying71
  have HA := Lib.hid ha; have HB := Lib.hid hb
  clear ha hb
  go_enter Tryd.func48, Tryd.ntmps48
  go_wp2_with fail
  go_loopw [5] (fun i wr => ∃ k m : Nat, i = .int .i64 k ∧ k ≤ l.length ∧ wr = w.drewN m) (fun i _ => l.length - (intOf i).toNat)
  case atStart => exact ⟨0, 0, rfl, by omega, rfl⟩
  case round =>
    obtain ⟨k, m, rfl, hk, rfl⟩ := hrel
    by_cases hkn : k < l.length
    · obtain ⟨ad1, rfl, c1, c2⟩ := at_T71 HA.out (k : Int) (by omega) (by omega)
      obtain ⟨ad2, rfl, c3, c4⟩ := at_T71 HB.out (k : Int) (by omega) (by omega)
      generalize rd_T71 l (k : Int) = s at *
      rw [Int.toNat_natCast] at c1 c2 c3 c4
      generalize hL : l.length = n at *
      go_wp2_with fail
      go_quiet (fail)
      go_wp2_with fail
      go_roundw
      case rel => exact ⟨k + 1, _, by go_num, by omega, rfl⟩
      case measure => simp [intOf]; omega
    · obtain rfl : k = l.length := by omega
      go_wp2_with fail
      go_ret
      exact ⟨rfl, ⟨⟨_, rfl⟩⟩⟩

theorem cut_cap {P : Program} (t e : TypeId) (kh : IntKind) {i : TypeInfo} (ht : P.underlying t = some (.slice e)) (hi : P.info? e = some i) (A : Option Addr) (n c : Nat) (j : Int) (h0 : 0 ≤ j) (hm : j ≤ c) :
    ∀ W : World, (Instr.slice t (.slice A n c) none (some (.int kh j)) none).run P W = .ok (.slice A j.toNat c) W := by
  intro W
  have hel : P.elem t = e := by simp [Program.elem, ht]
  have hu : P.underlying t = some (.slice (P.elem t)) := by rw [hel]; exact ht
  have ha : (A.map fun x => x.add 0) = A := by cases A <;> simp [Addr.add]
  rw [run_slice_h W t A n c hu kh j h0 (by omega), hel]
  simp [sizeOf, typeInfo, hi, sliced, Result.andThen, ha]

theorem info71 : (Tryd.prog.info? 71).map (fun i => (i.zero, i.size, i.bytes)) = some (some (.agg #[(.int .i64 0), (.int .i64 0)]), 2, 16) := by kernel_rfl
/-! ### jigsawref02_Lent: function 15 -/
def lent71F (l0 : List (S71)) : Option ((List (S71))) := if ([] : List (S71)).length + l0.length < 8796093022208 then ((some (([] : List (S71)) ++ l0 : List (S71))).bind fun y111 => (if y111.length < 8796093022208 then ((some (y111 ++ [(⟨77, 7⟩ : S71)] : List (S71))).bind fun y114 => (if 0 ≤ (l0.length : Int) then (if (l0.length : Int) ≤ (y114.length : Int) then (some (y114.take ((l0.length : Int) : Int).toNat)) else (none)) else (none))) else (none))) else (none)
set_option maxHeartbeats 8000000 in
set_option maxRecDepth 100000 in
theorem lent71_calls (A0 : Option Addr) (c0 : Nat) (l0 : List (S71)) (r : List (S71)) (w : World) (hr0 : Kd.C k71 w A0 l0.length l0) (hc0 : l0.length ≤ c0) (h : lent71F l0 = some r) :
    Calls Tryd.prog 15 #[.slice A0 l0.length c0] w fun e w' => ∃ (A : Option Addr) (c : Nat), e = .returned (.slice A l0.length c) ∧ Kd.R k71 71 w' w.heap.size (fun _ => True) (.slice A (l0.length + 1) c) (l0 ++ [(⟨77, 7⟩ : S71)]) ∧ Below w.heap.size w w' := by
  have hu71 := Tryd.underlying71
  have HR0 := Aside0.mk hr0
  have HC0 := Aside0.mk hc0
  clear hr0 hc0
  have HB := Aside0.mk (Below.refl w.heap.size w)
  have H : (if ([] : List (S71)).length + l0.length < 8796093022208 then ((some (([] : List (S71)) ++ l0 : List (S71))).bind fun y111 => (if y111.length < 8796093022208 then ((some (y111 ++ [(⟨77, 7⟩ : S71)] : List (S71))).bind fun y114 => (if 0 ≤ (l0.length : Int) then (if (l0.length : Int) ≤ (y114.length : Int) then (some (y114.take ((l0.length : Int) : Int).toNat)) else (none)) else (none))) else (none))) else (none)) = some r := h
  clear h
  by_cases c2 : ([] : List (S71)).length + l0.length < 8796093022208
  · rw [if_pos c2] at H
    have LMc2 := Aside0.mk c2
    clear c2
    obtain ⟨y111, hy111⟩ : ∃ y_ : List (S71), y_ = (([] : List (S71)) ++ l0) := ⟨_, rfl⟩
    replace H : (if y111.length < 8796093022208 then ((some (y111 ++ [(⟨77, 7⟩ : S71)] : List (S71))).bind fun y114 => (if 0 ≤ (l0.length : Int) then (if (l0.length : Int) ≤ (y114.length : Int) then (some (y114.take ((l0.length : Int) : Int).toNat)) else (none)) else (none))) else (none)) = some r := by first | (rw [hy111]; with_reducible exact H) | (have H2_ := (Option.bind_some _ _).symm.trans H; rw [hy111]; with_reducible exact H2_) | (have H2_ := (Option.bind_some _ _).symm.trans H; with_reducible exact H2_) | with_reducible exact H | (rw [hy111]; exact H) | exact H
    have Ny111 := Aside0.mk hy111
    clear hy111
    by_cases c3 : y111.length < 8796093022208
    · rw [if_pos c3] at H
      have LMc3 := Aside0.mk c3
      clear c3
      obtain ⟨y114, hy114⟩ : ∃ y_ : List (S71), y_ = (y111 ++ [(⟨77, 7⟩ : S71)]) := ⟨_, rfl⟩
      replace H : (if 0 ≤ (l0.length : Int) then (if (l0.length : Int) ≤ (y114.length : Int) then (some (y114.take ((l0.length : Int) : Int).toNat)) else (none)) else (none)) = some r := by first | (rw [hy114]; with_reducible exact H) | (have H2_ := (Option.bind_some _ _).symm.trans H; rw [hy114]; with_reducible exact H2_) | (have H2_ := (Option.bind_some _ _).symm.trans H; with_reducible exact H2_) | with_reducible exact H | (rw [hy114]; exact H) | exact H
      have Ny114 := Aside0.mk hy114
      clear hy114
      by_cases c4 : 0 ≤ (l0.length : Int)
      · rw [if_pos c4] at H
        have c4b0 := eq_true c4
        have c4b1 : decide (0 ≤ (l0.length : Int)) = true := decide_eq_true c4
        clear c4
        by_cases c5 : (l0.length : Int) ≤ (y114.length : Int)
        · rw [if_pos c5] at H
          have c5b0 := eq_true c5
          have c5b1 : decide ((l0.length : Int) ≤ (y114.length : Int)) = true := decide_eq_true c5
          clear c5
          obtain ⟨y117, hy117⟩ : ∃ y_ : List (S71), y_ = (y114.take ((l0.length : Int) : Int).toNat) := ⟨_, rfl⟩
          replace H : (some y117) = some r := by first | (rw [hy117]; with_reducible exact H) | (have H2_ := (Option.bind_some _ _).symm.trans H; rw [hy117]; with_reducible exact H2_) | (have H2_ := (Option.bind_some _ _).symm.trans H; with_reducible exact H2_) | with_reducible exact H | (rw [hy117]; exact H) | exact H
          have Ny117 := Aside0.mk hy117
          clear hy117
          obtain rfl := Option.some.inj H
          go_enter Tryd.func15, Tryd.ntmps15
          go_wp2_with (first | ((with_reducible refine gate_builtin (b := .append) (xs := #[.tmp 4, .tmp 5]) rfl ?_); at_builtin; refine Kd.R_append_rows k71 (w0 := w) w.heap.size rfl (.tmp 4) (.tmp 5) 22 71 (.agg #[(.int .i64 0), (.int .i64 0)]) 16 rfl Tryd.underlying22 info71 rfl (by decide) (by omega) (.slice none 0 0) ([] : List (S71)) l0 _ _ _ (fun _ => True) (fun _ => False) rfl rfl ?aO ?aR (fun _ _ h => h) (fun _ h => h.elim) ?aF ?aB ?aS ?aL ?_; (case aR => repeat (first | exact HR0.out | (with_reducible refine Kd.C_alloc ?_ _) | (with_reducible refine Kd.C_drewN ?_ _) | (with_reducible refine Kd.C_drew ?_))); (case aB => exact (by repeat (first | (with_reducible first | exact HB.out | apply below_alloc | apply pw_below_drewN | apply below_drew1) | exact HB.out))); (case aF => exact (fun _ _ => trivial)); (case aO => exact ((Kd.R_nil _ _ _ _ (fun _ => True)))); (case aS => exact (below_size (by repeat (first | (with_reducible first | exact HB.out | apply below_alloc | apply pw_below_drewN | apply below_drew1) | exact HB.out)))); (case aL => have := LMc2.out; omega); intro v112 w6 ho hb hg hat; rw [← Ny111.out] at ho; have n0_ := Aside0.mk (hb); have n1_ := Aside0.mk (ho); clear HB; have HB := n0_; have HO113 := n1_; clear n0_ n1_; clear ho hb hg hat) | ((with_reducible refine gate_builtin (b := .append) (xs := #[.tmp 7, .tmp 9]) rfl ?_); at_builtin; refine Kd.R_append k71 (w0 := w) w.heap.size rfl (.tmp 7) (.tmp 9) 22 71 (.agg #[(.int .i64 0), (.int .i64 0)]) 16 rfl Tryd.underlying22 info71 rfl (by decide) (by omega) v112 y111 (⟨77, 7⟩ : S71) [.int .i64 77, .int .i64 7] (fun _ => True) (fun _ => False) rfl rfl ?aP (fun _ hk => hk.elim) ?aF ?aO ?aB ?aS ?aL ?_; (case aP => exact k71_mkM _ _ _ (⟨77, 7⟩ : S71)); (case aB => exact (by repeat (first | (with_reducible first | exact HB.out | apply below_alloc | apply pw_below_drewN | apply below_drew1) | exact HB.out))); (case aF => exact (fun _ _ => trivial)); (case aO => exact (by (with_reducible repeat (first | apply Kd.R_alloc | apply Kd.R_drewN | apply Kd.R_drew)); exact HO113.out)); (case aS => exact (below_size (by repeat (first | (with_reducible first | exact HB.out | apply below_alloc | apply pw_below_drewN | apply below_drew1) | exact HB.out)))); (case aL => have := LMc3.out; omega); intro v115 w7 ho hb hg hat; rw [← Ny114.out] at ho; have n0_ := Aside0.mk (hb); have n1_ := Aside0.mk (ho); clear HB; clear HO113; have HB := n0_; have HO116 := n1_; clear n0_ n1_; clear ho hb hg hat; obtain ⟨Ao8, co8, eo8⟩ := Kd.R_slice HO116.out; subst eo8; have q9 : ((l0.length : Int) : Int) ≤ ((y114.length : Int) : Int) := of_decide_eq_true (by first | (with_reducible assumption) | assumption); obtain ⟨i09, hi09, _, hsz9, _⟩ := info_parts info71; have hcut9 := cut_to (P := Tryd.prog) 22 71 .i64 Tryd.underlying22 hi09 Ao8 y114.length co8 (l0.length : Int) (of_decide_eq_true (by first | (with_reducible assumption) | assumption)) q9 (Kd.R_reads' HO116.out).2.1; have hr9 := Kd.R_take (m := ((l0.length : Int) : Int).toNat) HO116.out (by omega); have hy9 : y117.length = ((l0.length : Int) : Int).toNat := (by rw [Ny117.out, List.length_take]; omega); rw [← Ny117.out] at hr9; rw [← hy9] at hr9 hcut9; clear hi09 hsz9; have HO119 := Aside0.mk hr9; clear hr9; replace q9 := eq_true q9))
          go_ret
          have e1 : y114 = l0 ++ [(⟨77, 7⟩ : S71)] := by rw [Ny114.out, Ny111.out]; rfl
          subst e1
          have ho := HO116.out
          rw [List.length_append, List.length_singleton] at ho
          exact ⟨Ao8, co8, rfl, ho, HB.out⟩
        · rw [if_neg c5] at H
          exact absurd H (by simp)
      · rw [if_neg c4] at H
        exact absurd H (by simp)
    · rw [if_neg c3] at H
      exact absurd H (by simp)
  · rw [if_neg c2] at H
    exact absurd H (by simp)
set_option maxRecDepth 100000 in
set_option maxHeartbeats 4000000 in
theorem kept71 (A : Option Addr) (c : Nat) (A1 : Option Addr) (c1 : Nat) (l : List S71) (w : World) (hx : Kd.C k71 w A (l ++ [(⟨77, 7⟩ : S71)]).length (l ++ [(⟨77, 7⟩ : S71)])) (hc : l.length + 1 ≤ c) (hr1 : Kd.C k71 w A1 l.length l) (hl : l.length < 4611686018427387904) :
    Calls Tryd.prog 19 #[.slice A l.length c, .slice A1 l.length c1] w fun e w' => e = .returned (.bool true) ∧ Below w.heap.size w w' := by
  have hx' := Kd.C_take (m := l.length) hx (by simp)
  rw [List.take_left' rfl] at hx'
  obtain ⟨ad, eA, hc0, hc1⟩ := at_T71 hx (l.length : Int) (by omega) (by simp; omega)
  rw [rd71 _ _ (by simp)] at hc0 hc1
  rw [show (l ++ [(⟨77, 7⟩ : S71)])[l.length]'(by simp) = ⟨77, 7⟩ by simp, Int.toNat_natCast] at hc0 hc1
  subst eA
  obtain ⟨i0, hi0, _, _, _⟩ := info_parts info71
  have hcut := cut_cap (P := Tryd.prog) 22 71 .i64 Tryd.underlying22 hi0 (some ad) l.length c ((l.length : Int) + 1) (by omega) (by omega)
  have e1 : ((l.length : Int) + 1).toNat = l.length + 1 := by omega
  rw [e1] at hcut
  have hc0' : w.cell? (ad.add (l.length * 2)) = some (.int .i64 77) := hc0
  have hc1' : w.cell? ⟨(ad.add (l.length * 2)).block, (ad.add (l.length * 2)).off + 1, none⟩ = some (.int .i64 7) := hc1
  have HX := Lib.hid hx'; have HR1 := Lib.hid hr1
  clear hx hx' hr1 e1 hc0 hc1
  go_enter Tryd.func19, Tryd.ntmps19
  go_wp2_with fail
  have hbA : Below w.heap.size w (w.alloc (.cells #[.int .i64 77, .int .i64 7] 71)) := (Below.refl _ w).alloc (Nat.le_refl _) _
  have hnw := World.alloc_heap_new w (.cells #[.int .i64 77, .int .i64 7] 71)
  have d0 : (w.alloc (.cells #[.int .i64 77, .int .i64 7] 71)).cell? ⟨w.heap.size, 0, none⟩ = some (.int .i64 77) := (blk_cell hnw 0).trans rfl
  have d1 : (w.alloc (.cells #[.int .i64 77, .int .i64 7] 71)).cell? ⟨w.heap.size, 1, none⟩ = some (.int .i64 7) := (blk_cell hnw 1).trans rfl
  refine (refAlike_same _ _ c c1 l _ (Kd.C_below HX.out hbA) (Kd.C_below HR1.out hbA) (by omega)).mono ?_
  rintro e w1 ⟨rfl, ⟨⟨m, rfl⟩⟩⟩
  have HBA := Lib.hid hbA
  clear hnw hbA hc0' hc1'
  generalize w.alloc (.cells #[.int .i64 77, .int .i64 7] 71) = w2 at *
  go_wp2_with fail
  go_ret
  exact ⟨rfl, pw_below_drewN HBA.out m⟩

/-! ### the length of a word -/
theorem len_byte (b : Int) (h0 : 0 ≤ b) (h1 : b ≤ 255) (hb : b.toNat < Lib.len8tab.size) : (((Lib.len8tab[b.toNat]'hb).toNat : Nat) : Int) = (Lib.bitLen b.toNat : Int) := by
  have e := Lib.len8_of b h0 h1
  unfold Lib.len8 at e
  rw [← e]
  simp [hb]
set_option maxRecDepth 100000 in
set_option maxHeartbeats 4000000 in
theorem len64 (x : Int) (w : World) (h0 : 0 ≤ x) (h1 : x ≤ 18446744073709551615) :
    Calls Tryd.prog 60 #[.int .u64 x] w fun e w' => e = .returned (.int .i64 (Lib.bitLen x.toNat)) ∧ w = w' := by
  have hsz := Lib.len8tab_size
  go_enter Tryd.func60, Tryd.ntmps60
  go_wp2
  all_goals (go_ret; refine ⟨congrArg Ending.returned (congrArg (Value.int IntKind.i64) ?_), rfl⟩)
  · rw [len_byte (x / 4294967296 / 65536 / 256) (by omega) (by omega)]
    have l := Lib.bitLen_le8' (x / 4294967296 / 65536 / 256) (by omega) (by omega)
    have s := Lib.bitLen_shift56 x.toNat (by omega) (by omega)
    rw [show (x / 4294967296 / 65536 / 256).toNat = x.toNat / 72057594037927936 by omega] at l ⊢
    unfold wrap64
    omega
  · rw [len_byte (x / 4294967296 / 65536) (by omega) (by omega)]
    have l := Lib.bitLen_le8' (x / 4294967296 / 65536) (by omega) (by omega)
    have s := Lib.bitLen_shift48 x.toNat (by omega) (by omega)
    rw [show (x / 4294967296 / 65536).toNat = x.toNat / 281474976710656 by omega] at l ⊢
    unfold wrap64
    omega
  · rw [len_byte (x / 4294967296 / 256) (by omega) (by omega)]
    have l := Lib.bitLen_le8' (x / 4294967296 / 256) (by omega) (by omega)
    have s := Lib.bitLen_shift40 x.toNat (by omega) (by omega)
    rw [show (x / 4294967296 / 256).toNat = x.toNat / 1099511627776 by omega] at l ⊢
    unfold wrap64
    omega
  · rw [len_byte (x / 4294967296) (by omega) (by omega)]
    have l := Lib.bitLen_le8' (x / 4294967296) (by omega) (by omega)
    have s := Lib.bitLen_shift32 x.toNat (by omega) (by omega)
    rw [show (x / 4294967296).toNat = x.toNat / 4294967296 by omega] at l ⊢
    unfold wrap64
    omega
  · rw [len_byte (x / 65536 / 256) (by omega) (by omega)]
    have l := Lib.bitLen_le8' (x / 65536 / 256) (by omega) (by omega)
    have s := Lib.bitLen_shift24 x.toNat (by omega) (by omega)
    rw [show (x / 65536 / 256).toNat = x.toNat / 16777216 by omega] at l ⊢
    unfold wrap64
    omega
  · rw [len_byte (x / 65536) (by omega) (by omega)]
    have l := Lib.bitLen_le8' (x / 65536) (by omega) (by omega)
    have s := Lib.bitLen_shift16 x.toNat (by omega) (by omega)
    rw [show (x / 65536).toNat = x.toNat / 65536 by omega] at l ⊢
    unfold wrap64
    omega
  · rw [len_byte (x / 256) (by omega) (by omega)]
    have l := Lib.bitLen_le8' (x / 256) (by omega) (by omega)
    have s := Lib.bitLen_shift8 x.toNat (by omega) (by omega)
    rw [show (x / 256).toNat = x.toNat / 256 by omega] at l ⊢
    unfold wrap64
    omega
  · rw [len_byte x (by omega) (by omega)]
    have l := Lib.bitLen_le8' x (by omega) (by omega)
    unfold wrap64
    omega
attribute [local go_sem] Oper.semAt_some

/-- The bits of a number, the highest first: the first k of len. -/
def bitAt (v len j : Nat) : Bool := decide (v / 2 ^ (len - 1 - j) % 2 = 1)
def bitsUpto (v len k : Nat) : List Bool := (List.range k).map (bitAt v len)

/-! ### Max -/
def IsLast (M : Int → Bool) (n : Int) (ok : Bool) : Prop :=
  (ok = true ∧ M n = true ∧ ∀ x, n < x → M x = false) ∨ (ok = false ∧ n = 0 ∧ ∀ x, M x = false)
theorem top_bit (x : Nat) (h0 : 0 < x) (h1 : x < 2 ^ 64) : 1 ≤ Lib.bitLen x ∧ Lib.bitLen x ≤ 64 ∧ x.testBit (Lib.bitLen x - 1) = true ∧ ∀ j, Lib.bitLen x ≤ j → x.testBit j = false := by
  obtain ⟨b1, b2, b3⟩ := Lib.bitLenAux_bounds 64 x h1 (by omega)
  have b4 := Lib.bitLen_le x 64 (by omega) h1
  refine ⟨b1, b4, ?_, fun j hj => Nat.testBit_lt_two_pow (Nat.lt_of_lt_of_le b3 (Nat.pow_le_pow_right (by decide) hj))⟩
  have b1' : 1 ≤ Lib.bitLen x := b1
  have b2' : 2 ^ (Lib.bitLen x - 1) ≤ x := b2
  have b3' : x < 2 ^ (Lib.bitLen x) := b3
  generalize Lib.bitLen x = L at *
  obtain ⟨k, rfl⟩ : ∃ k, L = k + 1 := ⟨L - 1, by omega⟩
  rw [Nat.add_sub_cancel] at *
  rw [Nat.pow_succ] at b3'
  rw [Nat.testBit_eq_decide_div_mod_eq]
  have e : x / 2 ^ k = 1 := by
    apply Nat.div_eq_of_lt_le
    · omega
    · omega
  rw [e]
  rfl
theorem max_wraps (i L : Nat) (f : Int) (hi : i ≤ 2000) (hL : L ≤ 64) (hf : -1000000 ≤ f ∧ f ≤ 1000001) :
    wrap64 ((i : Int) * 64) = (i : Int) * 64 ∧ wrap64 ((i : Int) * 64 + L) = (i : Int) * 64 + L ∧ wrap64 ((i : Int) * 64 + L - 1) = (i : Int) * 64 + L - 1 ∧ wrap64 (f + ((i : Int) * 64 + L - 1)) = f + ((i : Int) * 64 + L - 1) :=
  ⟨IntWalk.wrap64_in _ (by omega), IntWalk.wrap64_in _ (by omega), IntWalk.wrap64_in _ (by omega), IntWalk.wrap64_in _ (by omega)⟩
set_option maxHeartbeats 8000000 in
theorem SetAt.max {w : World} {g gp : Nat} {f r : Int} {M : Int → Bool} (h : SetAt w g gp f r M) :
    Calls Tryd.prog 33 #[setP g] w fun e w' => (∃ n ok, e = .returned (.tuple #[.int .i64 n, .bool ok]) ∧ IsLast M n ok) ∧ Drawn0 w w' := by
  obtain ⟨n, c, ws, cs, h1, h2, h3, h4, h5, h6⟩ := h
  have hr := h6.room
  have c0 := setB_first h1; have c2 := setB_pages h1
  have hcl : ∀ i, i < 16 * n → w.cell? ⟨gp, i, none⟩ = some (.int .u64 (ws i : Nat)) := fun i hi => (blk_cell h2 i).trans (h4 i hi)
  have H6 := Lib.hid h6; have HCL := Lib.hid hcl
  clear h1 h2 h3 h4 h5 h6 hcl
  unfold setP
  go_enter Tryd.func33, Tryd.ntmps33
  go_wp2_with fail
  go_loopw [4, 5] (fun i _ wr => ∃ k : Nat, k ≤ 16 * n ∧ i = .int .i64 ((k : Int) - 1) ∧ Hid (∀ x, f + 64 * k ≤ x → M x = false) ∧ wr = w)
    (fun i _ _ => (intOf i + 1).toNat)
  case atStart => exact ⟨16 * n, by omega, by go_num, Lib.hid (fun x hx => by
    cases hm : M x with
    | false => rfl
    | true => have := H6.out.inn x hm; omega), rfl⟩
  case round =>
    obtain ⟨k, hk, rfl, hz, rfl⟩ := hrel
    rcases Nat.eq_zero_or_pos k with rfl | hk0
    · go_wp2_with fail
      go_ret2
      exact ⟨⟨0, false, rfl, .inr ⟨rfl, rfl, fun x => by
        cases hm : M x with
        | false => rfl
        | true => have := H6.out.inn x hm; rw [hz.out x (by omega)] at hm; cases hm⟩⟩, Drawn0.refl _⟩
    · obtain ⟨i, rfl⟩ : ∃ i, k = i + 1 := ⟨k - 1, by omega⟩
      rw [show ((i + 1 : Nat) : Int) - 1 = (i : Int) by omega]
      have c3 := HCL.out i (by omega)
      have hwf := H6.out.wf i (by omega)
      have e1 : (i : Int).tdiv 16 = ((i / 16 : Nat) : Int) := by rw [Int.tdiv_eq_ediv_of_nonneg (by omega)]; omega
      have e2 : (i : Int).tmod 16 = ((i % 16 : Nat) : Int) := by rw [Int.tmod_eq_emod_of_nonneg (by omega)]; omega
      have c4 : wr.cell? ⟨gp, i / 16 * 16 + i % 16, none⟩ = some (.int .u64 (ws i : Nat)) := by rw [show i / 16 * 16 + i % 16 = i by omega]; exact c3
      rcases Nat.eq_zero_or_pos (ws i) with hq | hq
      · rw [hq] at c3 c4
        go_wp2_with fail
        go_roundw
        case rel =>
          refine ⟨i, by omega, rfl, Lib.hid (fun x hx => ?_), trivial⟩
          by_cases h1 : f + 64 * ((i + 1 : Nat) : Int) ≤ x
          · exact hz.out x h1
          · have hb := H6.out.bit (x - f).toNat (by omega)
            rw [show (x - f).toNat / 64 = i by omega, hq, Nat.zero_testBit, show f + ((x - f).toNat : Int) = x by omega] at hb
            exact hb.symm
        case measure => simp [intOf] <;> omega
      · obtain ⟨t1, t2, t3, t4⟩ := top_bit (ws i) hq (H6.out.wf i (by omega))
        generalize hL : Lib.bitLen (ws i) = L at *
        have HL := Lib.hid hL
        clear hL
        have hne : (((ws i : Nat) : Int) != 0) = true := by rw [bne_iff_ne]; omega
        have hwf2 : ws i < 18446744073709551616 := hwf
        have hlen : ∀ m, Calls Tryd.prog 60 #[.int .u64 (ws i : Nat)] (wr.drewN m) fun e w'' => e = .returned (.int .i64 (L : Nat)) ∧ ∃ k, w'' = wr.drewN k := fun m => (len64 _ _ (by omega) (by omega)).mono (by
          rintro e w' ⟨rfl, rfl⟩
          exact ⟨by rw [Int.toNat_natCast, HL.out], m, rfl⟩)
        have HLEN := Lib.hid hlen
        have hb := H6.out.bit (64 * i + (L - 1)) (by omega)
        rw [show (64 * i + (L - 1)) / 64 = i by omega, show (64 * i + (L - 1)) % 64 = L - 1 by omega, t3] at hb
        have hgt : ∀ x, f + 64 * (i : Int) + (L : Int) - 1 < x → M x = false := fun x hx => by
          by_cases h1 : f + 64 * ((i + 1 : Nat) : Int) ≤ x
          · exact hz.out x h1
          · have hb := H6.out.bit (x - f).toNat (by omega)
            rw [show (x - f).toNat / 64 = i by omega, t4 _ (by omega), show f + ((x - f).toNat : Int) = x by omega] at hb
            exact hb.symm
        have HB := Lib.hid hb.symm; have HGT := Lib.hid hgt
        clear hlen hb hgt t3 t4
        obtain ⟨e3, e4, e5, e6⟩ := max_wraps i L f (by omega) t2 (by omega)
        clear HL
        generalize ws i = x at *
        go_wp2_with fail
        clear hwf hwf2 hq hne c3 c4 e1 e2 c2 hr hk0
        go_quiet (with_reducible exact HLEN.out _)
        go_wp2_with fail
        go_ret2
        rw [e6]
        clear e3 e4 e5 e6 c0
        refine ⟨⟨_, true, rfl, .inl ⟨rfl, ?_, fun x hx => HGT.out x (by omega)⟩⟩, ⟨⟨_, rfl⟩⟩⟩
        rw [show f + ((i : Int) * 64 + L - 1) = f + ((64 * i + (L - 1) : Nat) : Int) by omega]
        exact HB.out

/-! ### what is read of a set -/
def rgE (M : Int → Bool) (f r : Int) : List S71 × Int := if 4096 < (rg (vals M f r)).length then ([], 4) else (rg (vals M f r), 0)
theorem rgE_len (M : Int → Bool) (f r : Int) : (rgE M f r).1.length ≤ 4096 := by
  unfold rgE
  split
  · exact Nat.zero_le _
  · show (rg (vals M f r)).length ≤ 4096
    omega
theorem k71_none (w : World) : Kd.C k71 w none 0 [] := ⟨rfl, by decide, fun hn => absurd hn (by decide)⟩
theorem SetAt.rangesE {w : World} {g gp : Nat} {f r : Int} {M : Int → Bool} (h : SetAt w g gp f r M) (hL : TabLaid w) :
    Calls Tryd.prog 13 #[setP g] w fun e w' => ∃ A c, e = .returned (.tuple #[.slice A (rgE M f r).1.length c, .int .i64 (rgE M f r).2]) ∧ Kd.C k71 w' A (rgE M f r).1.length (rgE M f r).1 ∧ Below w.heap.size w w' := by
  refine (h.ranges hL).mono ?_
  unfold rgE
  rintro e w' ⟨(⟨h1, rfl⟩ | ⟨h1, v, rfl, h2⟩), hb⟩
  · rw [if_pos h1]
    exact ⟨none, 0, rfl, k71_none _, hb⟩
  · rw [if_neg (by omega)]
    obtain ⟨A, c, rfl, hC⟩ := row71 h2 rfl
    exact ⟨A, c, rfl, hC, hb⟩
theorem RefAt.rangesE {w : World} {q ql : Nat} {f r : Int} {M : Int → Bool} (h : RefAt w q ql f r M) :
    Calls Tryd.prog 49 #[refP q] w fun e w' => ∃ A c, e = .returned (.tuple #[.slice A (rgE M f r).1.length c, .int .i64 (rgE M f r).2]) ∧ Kd.C k71 w' A (rgE M f r).1.length (rgE M f r).1 ∧ Below w.heap.size w w' := by
  refine h.ranges.mono ?_
  unfold rgE
  rintro e w' ⟨(⟨h1, rfl⟩ | ⟨h1, v, rfl, h2⟩), hb⟩
  · rw [if_pos h1]
    exact ⟨none, 0, rfl, k71_none _, hb⟩
  · rw [if_neg (by omega)]
    obtain ⟨A, c, rfl, hC⟩ := row71 h2 rfl
    exact ⟨A, c, rfl, hC, hb⟩
/-- whole numbers that lie in a block -/
def ValsAt (w : World) (A : Option Addr) (xs : List Int) : Prop := ∀ i (h : i < xs.length), ∃ b, A = some ⟨b, 0, none⟩ ∧ b < w.heap.size ∧ w.cell? ⟨b, i, none⟩ = some (.int .i64 xs[i])
theorem ValsAt.below {w w' : World} {A : Option Addr} {xs : List Int} (h : ValsAt w A xs) (hb : Below w.heap.size w w') : ValsAt w' A xs := fun i hi => by
  obtain ⟨b, h1, h2, h3⟩ := h i hi
  exact ⟨b, h1, Nat.lt_of_lt_of_le h2 hb.size, (hb.cell h2).trans h3⟩
theorem row_ints {w : World} {base n : Nat} {v : Value} {xs : List Int} (h : w.ownsRow base 2 1 v n (ints64 xs)) (hn : xs.length = n) : ∃ A c, v = .slice A n c ∧ ValsAt w A xs := by
  obtain ⟨A, c, rfl⟩ := row_form h
  refine ⟨A, c, rfl, fun i hi => ?_⟩
  rcases h.2 with ⟨h1, h2⟩ | ⟨b, cap, cur, e, h3, h4, h5, h6, h7, h8⟩
  · omega
  · injection e with e1 e2 e3
    refine ⟨b, e1, blk_lt h4, (blk_cell h4 i).trans ?_⟩
    have e9 : (cur.toList.take (n * 1))[i]? = (ints64 xs)[i]? := by rw [h8]
    rw [List.getElem?_take, if_pos (by omega)] at e9
    rw [← Array.getElem?_toList, e9]
    simp [ints64, hi]
/-! a value told once -/
theorem IsNext.same {M : Int → Bool} {v n n' : Int} {ok ok' : Bool} (h : IsNext M v n ok) (h' : IsNext M v n' ok') : n = n' ∧ ok = ok' := by
  rcases h with ⟨rfl, a1, a2, a3⟩ | ⟨rfl, rfl, a1⟩
  · rcases h' with ⟨rfl, b1, b2, b3⟩ | ⟨rfl, rfl, b1⟩
    · refine ⟨?_, rfl⟩
      rcases Int.lt_trichotomy n n' with h | h | h
      · rw [b3 n a1 h] at a2; cases a2
      · exact h
      · rw [a3 n' b1 h] at b2; cases b2
    · rw [b1 n a1] at a2; cases a2
  · rcases h' with ⟨rfl, b1, b2, b3⟩ | ⟨rfl, rfl, b1⟩
    · rw [a1 n' b1] at b2; cases b2
    · exact ⟨rfl, rfl⟩
/-- the first and the last of the values -/
theorem vals_ends {M : Int → Bool} {f : Int} {L : List Int} (hmem : ∀ x, x ∈ L ↔ M x = true) (hs : L.Pairwise (· < ·)) (hin : ∀ v, M v = true → f ≤ v) {a b : Int} {ok is : Bool} (h1 : IsNext M f a ok) (h2 : IsLast M b is) :
    (L = [] ∧ a = 0 ∧ b = 0 ∧ ok = false ∧ is = false) ∨ (∃ h : 0 < L.length, ok = true ∧ is = true ∧ L[0] = a ∧ L[L.length - 1] = b) := by
  have hmono : ∀ i j (hj : j < L.length) (hij : i < j), L[i] < L[j] := fun i j hj hij => List.pairwise_iff_getElem.1 hs i j (by omega) hj hij
  rcases Nat.eq_zero_or_pos L.length with h0 | h0
  · have e : L = [] := List.length_eq_zero_iff.1 h0
    subst e
    refine .inl ⟨rfl, ?_⟩
    have hno : ∀ x, M x = false := fun x => by
      cases hm : M x with
      | false => rfl
      | true => have := (hmem x).2 hm; cases this
    rcases h1 with ⟨_, _, a2, _⟩ | ⟨rfl, rfl, _⟩
    · rw [hno] at a2; cases a2
    · rcases h2 with ⟨_, b2, _⟩ | ⟨rfl, rfl, _⟩
      · rw [hno] at b2; cases b2
      · exact ⟨rfl, rfl, rfl, rfl⟩
  · refine .inr ⟨h0, ?_⟩
    have m0 := (hmem L[0]).1 (by simp)
    have m1 := (hmem (L[L.length - 1]'(by omega))).1 (by simp)
    have hlo : ∀ x, M x = true → L[0] ≤ x := fun x hx => by
      obtain ⟨i, hi, rfl⟩ := List.getElem_of_mem ((hmem x).2 hx)
      rcases Nat.eq_zero_or_pos i with rfl | h
      · exact Int.le_refl _
      · exact Int.le_of_lt (hmono 0 i hi h)
    have hhi : ∀ x, M x = true → x ≤ L[L.length - 1]'(by omega) := fun x hx => by
      obtain ⟨i, hi, rfl⟩ := List.getElem_of_mem ((hmem x).2 hx)
      rcases Nat.lt_or_ge i (L.length - 1) with h | h
      · exact Int.le_of_lt (hmono i (L.length - 1) (by omega) h)
      · have e : i = L.length - 1 := by omega
        subst e
        exact Int.le_refl _
    rcases h1 with ⟨rfl, a1, a2, a3⟩ | ⟨rfl, _, a3⟩
    · rcases h2 with ⟨rfl, b2, b3⟩ | ⟨rfl, _, b3⟩
      · refine ⟨rfl, rfl, ?_, ?_⟩
        · have := hlo a a2
          rcases Int.lt_or_le L[0] a with h | h
          · rw [a3 _ (hin _ m0) h] at m0; cases m0
          · omega
        · have := hhi b b2
          rcases Int.lt_or_le b (L[L.length - 1]'(by omega)) with h | h
          · rw [b3 _ h] at m1; cases m1
          · omega
      · rw [b3] at m0; cases m0
    · rw [a3 _ (hin _ m0)] at m0; cases m0
/-- the next one, found by going through the values -/
theorem vals_next_none {M : Int → Bool} {L : List Int} (hmem : ∀ x, x ∈ L ↔ M x = true) {v : Int} (h : ∀ i (hi : i < L.length), L[i] < v) : IsNext M v 0 false := by
  refine .inr ⟨rfl, rfl, fun x hx => ?_⟩
  cases hm : M x with
  | false => rfl
  | true =>
    obtain ⟨i, hi, rfl⟩ := List.getElem_of_mem ((hmem x).2 hm)
    have := h i hi
    omega
theorem vals_next_some {M : Int → Bool} {L : List Int} (hmem : ∀ x, x ∈ L ↔ M x = true) (hs : L.Pairwise (· < ·)) {v : Int} (k : Nat) (hk : k < L.length) (h : ∀ i (hi : i < k), L[i] < v) (hv : v ≤ L[k]) : IsNext M v L[k] true := by
  refine .inl ⟨rfl, hv, (hmem _).1 (by simp), fun x h1 h2 => ?_⟩
  cases hm : M x with
  | false => rfl
  | true =>
    obtain ⟨i, hi, rfl⟩ := List.getElem_of_mem ((hmem x).2 hm)
    rcases Nat.lt_or_ge i k with h3 | h3
    · have := h i h3
      omega
    · rcases Nat.lt_or_ge k i with h4 | h4
      · have := List.pairwise_iff_getElem.1 hs k i hk hi h4
        omega
      · have e : i = k := by omega
        subst e
        omega
theorem func_eqIn_nil (d : Nat) (fn : Fn) (a b : Array Value) (W : World) : (Op.equalIn (d + 1) 62 (.func fn a b) .nilFunc).run Tryd.prog W = .ok false W := by
  have h := Tryd.underlying62
  simp [Op.equalIn, run_underlying h]
theorem func_eql_nil (fn : Fn) (a b : Array Value) (W : World) : (binOp .eql 62 (.func fn a b) .nilFunc).run Tryd.prog W = .ok (.bool false) W := by
  have h : (Op.equal 62 (.func fn a b) .nilFunc).run Tryd.prog W = .ok false W := func_eqIn_nil 9999 fn a b W
  simp only [binOp]
  simp [h]

end Go.Proofs.YtfkbkcdiajjljaaDoor.PBitsSteps
