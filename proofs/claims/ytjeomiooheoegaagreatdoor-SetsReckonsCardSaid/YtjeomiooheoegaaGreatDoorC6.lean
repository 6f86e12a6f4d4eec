/- Parts of the laws of sets and branch: functions of the program, each with the proof of what it answers; the conditions are those of each theorem. -/
import Derived.Test.YtjeomiooheoegaaGreatDoorC5
import Derived.StillTailTactics
import Derived.Deep.QuietTactic
import Derived.BigQuiet
import Derived.Test.YtjeomiooheoegaaGreatDoorC1
import Derived.Test.YtjeomiooheoegaaGreatDoorC3
import Derived.Laws.Rows
namespace Go.Proofs.YtjeomiooheoegaaGreatDoor.PD
open Go.RowKit Go.Proofs.YtjeomiooheoegaaGreatDoorW.PrintWords Go.Proofs.YtjeomiooheoegaaGreatDoorW.PrintLast Go.Proofs.YtjeomiooheoegaaGreatDoorW.PrintMore
set_option linter.unusedVariables false
set_option linter.unusedSimpArgs false
/-! ### marks -/
def markC (s : Value) (f g : Nat → Bool) : Array Value := (s :: ((List.range 128).map (fun i => Value.bool (f i)) ++ (List.range 128).map (fun i => Value.bool (g i)))).toArray
theorem markC_s (s : Value) (f g : Nat → Bool) : (markC s f g)[0]? = some s := rfl
theorem markC_a (s : Value) (f g : Nat → Bool) (i : Nat) (h : i < 128) : (markC s f g)[1 + i]? = some (.bool (f i)) := by
  unfold markC
  rw [List.getElem?_toArray, Nat.add_comm, List.getElem?_cons_succ, List.getElem?_append_left (by simpa using h)]
  simp [h]
theorem markC_b (s : Value) (f g : Nat → Bool) (i : Nat) (h : i < 128) : (markC s f g)[129 + i]? = some (.bool (g i)) := by
  unfold markC
  rw [List.getElem?_toArray, show 129 + i = (128 + i) + 1 by omega, List.getElem?_cons_succ, List.getElem?_append_right (by simp)]
  simp [h]
def upd (f : Nat → Bool) (i : Nat) (b : Bool) : Nat → Bool := fun j => if j = i then b else f j
theorem markC_ext {c : Array Value} {s : Value} {f g : Nat → Bool} (h0 : c[0]? = some s) (h1 : ∀ i, i < 128 → c[1 + i]? = some (.bool (f i))) (h2 : ∀ i, i < 128 → c[129 + i]? = some (.bool (g i))) (hs : c.size = 257) : c = markC s f g := by
  apply Array.ext_getElem?
  intro i
  by_cases hi : i < 257
  · by_cases h3 : i = 0
    · subst h3; rw [h0, markC_s]
    · by_cases h4 : i < 129
      · have := h1 (i - 1) (by omega)
        rw [show 1 + (i - 1) = i by omega] at this
        have k := markC_a s f g (i - 1) (by omega)
        rw [show 1 + (i - 1) = i by omega] at k
        rw [this, k]
      · have := h2 (i - 129) (by omega)
        rw [show 129 + (i - 129) = i by omega] at this
        have k := markC_b s f g (i - 129) (by omega)
        rw [show 129 + (i - 129) = i by omega] at k
        rw [this, k]
  · rw [Array.getElem?_eq_none (by omega), Array.getElem?_eq_none (by unfold markC; simp; omega)]
theorem markC_size (s : Value) (f g : Nat → Bool) : (markC s f g).size = 257 := by unfold markC; simp
theorem markC_setS (s s' : Value) (f g : Nat → Bool) : (markC s f g).setIfInBounds 0 s' = markC s' f g := by
  refine markC_ext ?_ (fun i hi => ?_) (fun i hi => ?_) (by rw [Array.size_setIfInBounds, markC_size])
  · rw [Array.getElem?_setIfInBounds, if_pos rfl, if_pos (by rw [markC_size]; omega)]
  · rw [Array.getElem?_setIfInBounds, if_neg (by omega), markC_a _ _ _ _ hi]
  · rw [Array.getElem?_setIfInBounds, if_neg (by omega), markC_b _ _ _ _ hi]
theorem markC_setA (s : Value) (f g : Nat → Bool) (k : Nat) (hk : k < 128) (b : Bool) : (markC s f g).setIfInBounds (1 + k) (.bool b) = markC s (upd f k b) g := by
  refine markC_ext ?_ (fun i hi => ?_) (fun i hi => ?_) (by rw [Array.size_setIfInBounds, markC_size])
  · rw [Array.getElem?_setIfInBounds, if_neg (by omega), markC_s]
  · rw [Array.getElem?_setIfInBounds]
    by_cases h : 1 + k = 1 + i
    · rw [if_pos h, if_pos (by rw [markC_size]; omega)]
      unfold upd
      rw [if_pos (by omega)]
    · rw [if_neg h, markC_a _ _ _ _ hi]
      unfold upd
      rw [if_neg (by omega)]
  · rw [Array.getElem?_setIfInBounds, if_neg (by omega), markC_b _ _ _ _ hi]
theorem markC_setB (s : Value) (f g : Nat → Bool) (k : Nat) (hk : k < 128) (b : Bool) : (markC s f g).setIfInBounds (129 + k) (.bool b) = markC s f (upd g k b) := by
  refine markC_ext ?_ (fun i hi => ?_) (fun i hi => ?_) (by rw [Array.size_setIfInBounds, markC_size])
  · rw [Array.getElem?_setIfInBounds, if_neg (by omega), markC_s]
  · rw [Array.getElem?_setIfInBounds, if_neg (by omega), markC_a _ _ _ _ hi]
  · rw [Array.getElem?_setIfInBounds]
    by_cases h : 129 + k = 129 + i
    · rw [if_pos h, if_pos (by rw [markC_size]; omega)]
      unfold upd
      rw [if_pos (by omega)]
    · rw [if_neg h, markC_b _ _ _ _ hi]
      unfold upd
      rw [if_neg (by omega)]

end Go.Proofs.YtjeomiooheoegaaGreatDoor.PD

namespace Go.Proofs.YtjeomiooheoegaaGreatDoor.PD
open Go.RowKit Go.Proofs.YtjeomiooheoegaaGreatDoorW.PrintWords Go.Proofs.YtjeomiooheoegaaGreatDoorW.PrintLast Go.Proofs.YtjeomiooheoegaaGreatDoorW.PrintMore
set_option linter.unusedVariables false
set_option linter.unusedSimpArgs false
/-! ### mark -/
theorem zero_marks (A : Option Addr) (n c : Nat) : Tryz.zeroCells181.setIfInBounds 0 (.slice A n c) = markC (.slice A n c) (fun _ => false) (fun _ => false) := by kernel_rfl
theorem RowI.ne {w : World} {base : Nat} {v : Value} {l : List Int} (h : RowI w base v l) {g t : Nat} {cells : Array Value} (hb : w.heap[g]? = some (.cells cells t (0, 0))) (ht : 2 ≠ t) : some g ≠ v.ownBlock := Kd.R_ne h hb ht
theorem RowI.base {w : World} {base : Nat} {v : Value} {l : List Int} (h : RowI w base v l) : ∀ k, v.ownBlock = some k → base ≤ k := own_base h.own
theorem index_mark (B o : Nat) (i : Nat) (h : i < 128) (W : World) : (Instr.indexAt 179 (.pointer (some ⟨B, o, none⟩)) (.int .i64 (i : Nat))).run Tryz.prog W = .ok (.pointer (some ⟨B, o + i, none⟩)) W := by
  rw [run_indexAt_array (h := by kernel_rfl)]
  have h1 : ((i : Nat) : Int) < 128 := by omega
  have e1 : Tryz.prog.arrayLen 179 = 128 := by kernel_rfl
  have e2 : Tryz.prog.cellsOf (Tryz.prog.elem 179) = 1 := by kernel_rfl
  simp [go_sem, e1, e2, h1, Addr.add]
theorem RowI.far {w : World} {base : Nat} {v : Value} {l : List Int} (h : RowI w base v l) {g t : Nat} {cells : Array Value} (hb : w.heap[g]? = some (.cells cells t (0, 0))) (ht : 2 ≠ t) (j : Nat) (u : Value) : RowI (w.setCell ⟨g, j, none⟩ u) base v l :=
  Kd.R_set h hb (fun q hq => by
    rcases List.mem_cons.1 hq with rfl | hq
    · exact ht
    · cases hq) j u
theorem LstI.at {w : World} {A : Option Addr} {n c : Nat} {l : List Int} (h : LstI w (.slice A n c) l) (k : Nat) (hk : k < l.length) : ∃ ad, A = some ad ∧ w.cell? (ad.add k) = some (.int .i64 l[k]) := by
  obtain ⟨A', c', e, hC, _⟩ := h
  injection e with e1 e2 e3
  subst e1
  obtain ⟨ad, h1, h2⟩ := Kd.at_int hC (k : Int) (by omega) (by omega)
  rw [rdI l k hk, Int.toNat_natCast] at h2
  exact ⟨ad, h1, h2⟩
theorem blk_two {w w1 w2 : World} {g : Nat} {o : Obj} (h : w.heap[g]? = some o) (h1 : Below w.heap.size w.drew w1) (h2 : Below w1.heap.size w1 w2) : w2.heap[g]? = some o := by
  have e1 := (h1.block g (blk_lt h)).trans h
  exact (h2.block g (blk_lt e1)).trans e1
/-- what a mark says -/
def Marked (U A B : List Int) (k : Nat) (f g : Nat → Bool) : Prop := ∀ j (h : j < U.length), j < k → f j = decide (U[j] ∈ A) ∧ g j = decide (U[j] ∈ B)
theorem Marked.step {U A B : List Int} {k : Nat} {f g : Nat → Bool} (h : Marked U A B k f g) (hk : k < U.length) : Marked U A B (k + 1) (upd f k (decide (U[k] ∈ A))) (upd g k (decide (U[k] ∈ B))) := by
  intro j hj hjk
  unfold upd
  by_cases e : j = k
  · subst e
    rw [if_pos rfl, if_pos rfl]
    exact ⟨rfl, rfl⟩
  · rw [if_neg e, if_neg e]
    exact h j hj (by omega)
set_option maxRecDepth 100000 in
set_option maxHeartbeats 16000000 in
theorem mark_calls {v1 v2 : Value} (a b : List Int) (w : World) (h1 : LstI w v1 a) (h2 : LstI w v2 b) :
    Calls Tryz.prog 123 #[v1, v2] w fun e w' => ∃ (B : Nat) (v : Value) (f g : Nat → Bool), e = .returned (.pointer (some ⟨B, 0, none⟩)) ∧ w'.heap[B]? = some (.cells (markC v f g) 181 (0, 0)) ∧ RowI w' w.heap.size v (uniL (asL a) (asL b)) ∧ Marked (uniL (asL a) (asL b)) (asL a) (asL b) (uniL (asL a) (asL b)).length f g ∧ Below w.heap.size w w' := by
  have HA := Lib.hid (fun W (hb : Below w.heap.size w W) => as_calls a W (h1.below hb))
  have HB2 := Lib.hid (fun W (hb : Below w.heap.size w W) => as_calls b W (h2.below hb))
  have hl1 := set_len (asL_set a); have hl2 := set_len (asL_set b)
  have HRA := Lib.hid (set_ris (asL_set a)); have HRB := Lib.hid (set_ris (asL_set b))
  have hul := uniL_len (asL a) (asL b)
  have HU := Lib.hid (compact_uni (asL a) (asL b) HRA.out HRB.out)
  obtain ⟨A1, c1, rfl⟩ := h1.form
  obtain ⟨A2, c2, rfl⟩ := h2.form
  clear h1 h2
  generalize asL a = ta at *
  generalize asL b = tb at *
  obtain ⟨U, hU⟩ : ∃ U, uniL ta tb = U := ⟨_, rfl⟩
  rw [hU] at HU hul ⊢
  clear hU
  have HSA := Lib.hid (fun v x W h => search_calls (v := v) ta x W h (by omega) HRA.out)
  have HSB := Lib.hid (fun v x W h => search_calls (v := v) tb x W h (by omega) HRB.out)
  go_enter Tryz.func123, Tryz.ntmps123
  go_wp2_with fail
  refine (HA.out _ (Below.refl _ _)).mono ?_
  rintro e w1 ⟨va, rfl, hLa, hb1⟩
  have HB1 := Lib.hid hb1; have HLa := Lib.hid hLa
  clear hb1 hLa
  go_wp2_with fail
  refine (HB2.out _ HB1.out).mono ?_
  rintro e w2 ⟨vb, rfl, hLb, hb2⟩
  have hb3 : Below w2.heap.size w2 (w2.alloc (.cells #[va, vb] 50)) := (Below.refl _ _).alloc (Nat.le_refl _) _
  have hnw := World.alloc_heap_new w2 (.cells #[va, vb] 50)
  have HK := Lib.hid (concatI_calls ta tb w2.heap.size (w2.alloc (.cells #[va, vb] 50)) ((HLa.out.below hb2).below hb3) (hLb.below hb3) (by omega) (by omega) ((blk_cell hnw 0).trans rfl) ((blk_cell hnw 1).trans rfl))
  have HB3 := Lib.hid (below_step (below_step HB1.out hb2) hb3)
  obtain ⟨Aa, ca, hva⟩ := HLa.out.form
  obtain ⟨Ab, cb, hvb⟩ := hLb.form
  subst hva hvb
  clear hb2 hb3 hnw HLa hLb
  go_wp2_with fail
  refine HK.out.mono ?_
  rintro e w5 ⟨v5, rfl, hO5, hb5⟩
  have HB5 := Lib.hid (below_step HB3.out hb5)
  have HO5 := Lib.hid (hO5.lower HB3.out.size)
  obtain ⟨A5, c5, hv5, _⟩ := hO5.form
  subst hv5
  clear hO5 hb5 HK
  obtain ⟨n5, hn5⟩ : ∃ n, (ta ++ tb).length = n := ⟨_, rfl⟩
  have hn5l : n5 ≤ 128 := by rw [← hn5, List.length_append]; omega
  obtain ⟨Z, hZ⟩ : ∃ Z, Tryz.zeroCells181.setIfInBounds 0 (.slice A5 n5 c5) = Z := ⟨_, rfl⟩
  have HZ := Lib.hid (hZ.symm.trans (zero_marks A5 n5 c5))
  have hx0 := (blk_cell (World.alloc_heap_new w5 (.cells Z 181)) 0).trans ((congrArg (fun c => c[0]?) HZ.out).trans (markC_s _ _ _))
  have hsx := sortI_calls (ta ++ tb) (w5.alloc (.cells Z 181)) (HO5.out.below ((Below.refl _ _).alloc (Nat.le_refl _) _)) (by have := HB5.out.size; simp; omega) (by omega)
  have HNW := Lib.hid (World.alloc_heap_new w5 (.cells Z 181))
  have HB6 := Lib.hid (below_step HB5.out ((Below.refl w5.heap.size w5).alloc (Nat.le_refl _) (.cells Z 181)))
  have HNE := Lib.hid ((HO5.out.below ((Below.refl _ _).alloc (Nat.le_refl _) _)).ne HNW.out (by decide))
  have HBA := Lib.hid (HO5.out.base)
  rw [hn5] at hsx HNE HBA
  have HS := Lib.hid hsx
  have HN5 := Lib.hid hn5
  rw [hn5]
  clear hsx hn5
  go_wp2_with fail
  refine HS.out.mono ?_
  rintro e w6 ⟨rfl, hO6, hg6⟩
  have hn6 := blk_grown HNW.out hg6 HNE.out
  rw [HZ.out] at hn6
  have HN6 := Lib.hid hn6
  clear hn6
  have HB7 := Lib.hid (HB6.out.grown hg6 (by have := HB6.out.size; exact this) (fun k hk => HBA.out k hk))
  have HL := Lib.hid (List.length_mergeSort (le := fun (x y : Int) => decide (x ≤ y)) (ta ++ tb))
  obtain ⟨L, hL⟩ : ∃ L, ((ta ++ tb).mergeSort fun x y => decide (x ≤ y)) = L := ⟨_, rfl⟩
  rw [hL] at hO6 HU HL
  have hLl : L.length ≤ 128 := by have := HL.out; rw [HN5.out] at this; omega
  have HC := Lib.hid (compactI_calls L w6 hO6 HB7.out.size (by omega))
  rw [HU.out] at HC
  have HNE6 := Lib.hid (hO6.ne HN6.out (by decide))
  have hx6 := (blk_cell HN6.out 0).trans (markC_s _ _ _)
  have hf6 := blk_frozen HN6.out 0
  clear hL hx0 hZ HS HNW HB6 HNE HL hO6 hg6 HB3
  go_wp2_with fail
  refine HC.out.mono ?_
  rintro e w7 ⟨v7, rfl, hO7, hg7⟩
  obtain ⟨A7, c7, hv7, _⟩ := hO7.form
  subst hv7
  have HN7 := Lib.hid (blk_grown HN6.out hg7 HNE6.out)
  have HB8 := Lib.hid (HB7.out.grown hg7 HB7.out.size (fun k hk => HBA.out k hk))
  have hx7 := (blk_cell HN7.out 0).trans (markC_s _ _ _)
  have hf7 := blk_frozen HN7.out 0
  have HN8 := Lib.hid (blk_put HN7.out 0 (.slice A7 U.length c7) (markC_setS _ _ _ _))
  have HO8 := Lib.hid (hO7.far HN7.out (by decide) 0 (.slice A7 U.length c7))
  have HB9 := Lib.hid (HB8.out.setCell (p := ⟨w5.heap.size, 0, none⟩) HB5.out.size (.slice A7 U.length c7))
  have hx8 := (blk_cell HN8.out 0).trans (markC_s _ _ _)
  have hB := HB5.out.size
  clear hx6 hf6 HC HN6 HNE6 HN7 HB7 HB8 HB5 hO7 hg7 HU HBA HO5 HN5 HZ
  generalize w5.heap.size = B at *
  generalize hm : U.length = m at *
  have HM := Lib.hid hm
  clear hm
  go_wp2_with fail
  generalize w7.setCell ⟨B, 0, none⟩ (.slice A7 m c7) = w8 at *
  clear hx7 hf7 hx8
  have HML := Lib.hid (show m ≤ 128 by omega)
  go_loopw [34] (fun i wr => ∃ (k : Nat) (f g : Nat → Bool), i = .int .i64 k ∧ k ≤ m ∧ Hid (wr.heap[B]? = some (.cells (markC (.slice A7 m c7) f g) 181 (0, 0))) ∧ Hid (Marked U ta tb k f g) ∧ Hid (RowI wr w.heap.size (.slice A7 m c7) U) ∧ Hid (Below w.heap.size w wr))
    (fun i _ => m - (intOf i).toNat)
  case atStart => exact ⟨0, _, _, rfl, Nat.zero_le _, HN8, Lib.hid (fun j _ h => by omega), HO8, HB9⟩
  case round =>
    obtain ⟨k, f, g, rfl, hk, hN, hMk, hO, hBw⟩ := hrel
    by_cases hkm : k < m
    · have hkt : k < U.length := by rw [HM.out]; exact hkm
      obtain ⟨ad, hA, x0⟩ := hO.out.lst.at k hkt
      subst hA
      have HMS := Lib.hid (hMk.out.step hkt)
      generalize U[k] = x at *
      have hix := fun W => indexI_at ad m c7 (k : Nat) (by omega) W
      simp only [Int.toNat_natCast] at hix
      have hixA := fun W => index_mark B 1 k (by have := HML.out; omega) W
      have hixB := fun W => index_mark B 129 k (by have := HML.out; omega) W
      have HA1 := Lib.hid (HA.out wr.drew hBw.out.drew)
      go_wp2_with fail
      go_region_with (first
        | (go_at_call 122; refine HA1.out.mono ?_; rintro e w9 ⟨va2, rfl, hLa, hb9⟩; obtain ⟨Aa2, ca2, hva2⟩ := hLa.form; subst hva2; have HLa := Lib.hid hLa; have HBa := Lib.hid hb9; clear hLa hb9)
        | (go_at_call 138; refine (HSA.out _ x _ HLa.out).mono ?_; rintro e w10 ⟨r, rfl, hb10⟩; have HK := Lib.hid (blk_two hN.out HBa.out hb10); have y0 := (blk_cell HK.out (1 + k)).trans (markC_a _ _ _ k (by have := HML.out; omega)); have y1 := blk_frozen HK.out (1 + k); have HBb := Lib.hid (below_step HBa.out hb10); clear hb10))
      have HK2 := Lib.hid (blk_put HK.out (1 + k) (.bool (decide (x ∈ ta))) (markC_setA _ _ _ k (by have := HML.out; omega) _))
      have HO2 := Lib.hid ((hO.out.below (below_step ((Below.refl _ _).drew) HBb.out)).far HK.out (by decide) (1 + k) (.bool (decide (x ∈ ta))))
      have HW2 := Lib.hid ((below_step hBw.out (below_step ((Below.refl _ _).drew) HBb.out)).setCell (p := ⟨B, 1 + k, none⟩) hB (.bool (decide (x ∈ ta))))
      clear y0 y1 HK HBa HLa HBb HA1 hixA x0
      generalize w10.setCell ⟨B, 1 + k, none⟩ (.bool (decide (x ∈ ta))) = w11 at *
      have HA2 := Lib.hid (HB2.out w11.drew HW2.out.drew)
      go_wp2_with fail
      go_region_with (first
        | (go_at_call 122; refine HA2.out.mono ?_; rintro e w12 ⟨vb2, rfl, hLb, hb12⟩; obtain ⟨Ab2, cb2, hvb2⟩ := hLb.form; subst hvb2; have HLb := Lib.hid hLb; have HBa := Lib.hid hb12; clear hLb hb12)
        | (go_at_call 138; refine (HSB.out _ x _ HLb.out).mono ?_; rintro e w13 ⟨r2, rfl, hb13⟩; have HK := Lib.hid (blk_two HK2.out HBa.out hb13); have y0 := (blk_cell HK.out (129 + k)).trans (markC_b _ _ _ k (by have := HML.out; omega)); have y1 := blk_frozen HK.out (129 + k); have HBb := Lib.hid (below_step HBa.out hb13); clear hb13))
      have HK3 := Lib.hid (blk_put HK.out (129 + k) (.bool (decide (x ∈ tb))) (markC_setB _ _ _ k (by have := HML.out; omega) _))
      have HO3 := Lib.hid ((HO2.out.below (below_step ((Below.refl _ _).drew) HBb.out)).far HK.out (by decide) (129 + k) (.bool (decide (x ∈ tb))))
      have HW3 := Lib.hid ((below_step HW2.out (below_step ((Below.refl _ _).drew) HBb.out)).setCell (p := ⟨B, 129 + k, none⟩) hB (.bool (decide (x ∈ tb))))
      clear y0 y1 HK HBa HLb HBb HA2 hixB
      generalize w13.setCell ⟨B, 129 + k, none⟩ (.bool (decide (x ∈ tb))) = w14 at *
      go_wp2_with fail
      refine ⟨⟨k + 1, _, _, by rw [Int.natCast_add]; rfl, by omega, HK3, HMS, HO3, HW3⟩, by simp [intOf]; omega⟩
    · obtain rfl : k = m := by omega
      go_wp2_with fail
      go_ret
      exact ⟨B, _, f, g, rfl, hN.out, hO.out, (by rw [HM.out]; exact hMk.out), hBw.out⟩

end Go.Proofs.YtjeomiooheoegaaGreatDoor.PD

namespace Go.Proofs.YtjeomiooheoegaaGreatDoor.PD
open Go.RowKit Go.Proofs.YtjeomiooheoegaaGreatDoorW.PrintWords Go.Proofs.YtjeomiooheoegaaGreatDoorW.PrintLast Go.Proofs.YtjeomiooheoegaaGreatDoorW.PrintMore
set_option linter.unusedVariables false
set_option linter.unusedSimpArgs false
/-! ### some; Join, Meet, Less, Sym -/
theorem RowI.pushed {W w4 : World} {base : Nat} {v v' : Value} {out : List Int} {x : Int} {o : Obj} (h : RowI W base v out) (hown : w4.ownsRow base 2 1 v' (out.length + 1) (intsV out ++ [.int .i64 x])) (hg : (W.alloc o).grownBy w4 v.ownBlock) (hb : base ≤ W.heap.size) : RowI w4 base v' (out ++ [x]) ∧ Below base W w4 := by
  refine ⟨RowI.mk ?_, ((Below.refl base W).alloc hb o).grown hg (by simp; omega) (fun k hk => h.base k hk)⟩
  have e : intsV (out ++ [x]) = intsV out ++ [.int .i64 x] := by simp [intsV]
  rw [e, List.length_append, List.length_singleton]
  exact hown
/-- a row whose spare room may have been cut off -/
def RowIC (w : World) (base : Nat) (v : Value) (l : List Int) : Prop := ∃ A c c', v = .slice A l.length c ∧ l.length ≤ c ∧ RowI w base (.slice A l.length c') l
theorem RowIC.below {w w' : World} {base : Nat} {v : Value} {l : List Int} (h : RowIC w base v l) (hb : Below w.heap.size w w') : RowIC w' base v l := by
  obtain ⟨A, c, c', e, hc, hr⟩ := h
  exact ⟨A, c, c', e, hc, hr.below hb⟩
theorem RowIC.lower {w : World} {base base' : Nat} {v : Value} {l : List Int} (h : RowIC w base v l) (hb : base' ≤ base) : RowIC w base' v l := by
  obtain ⟨A, c, c', e, hc, hr⟩ := h
  exact ⟨A, c, c', e, hc, hr.lower hb⟩
theorem RowIC.lst {w : World} {base : Nat} {v : Value} {l : List Int} (h : RowIC w base v l) : LstI w v l := by
  obtain ⟨A, c, c', e, hc, hr⟩ := h
  obtain ⟨A2, c2, e2, hC, hc2⟩ := hr.lst
  injection e2 with e3 _ e4
  subst e3
  exact ⟨A, c, e, hC, hc⟩
theorem cut3 (A : Option Addr) (n c : Nat) (h : n ≤ c) (hn : n ≤ 1000000) (W : World) : (Instr.slice 50 (.slice A n c) none (some (.int .i64 (n : Nat))) (some (.int .i64 (n : Nat)))).run Tryz.prog W = .ok (.slice A n n) W := by
  have ht := Tryz.underlying50
  have hel : Tryz.prog.elem 50 = 2 := by simp [Program.elem, ht]
  have hu : Tryz.prog.underlying 50 = some (.slice (Tryz.prog.elem 50)) := by rw [hel]; exact ht
  have ha : (A.map fun x => x.add 0) = A := by cases A <;> simp [Addr.add]
  obtain ⟨i0, hi0, _, _, _⟩ := info_parts infoI
  rw [run_slice_hm W 50 A n c hu .i64 .i64 (n : Int) (n : Int) (by omega) (by omega) (by omega), hel]
  simp [sizeOf, typeInfo, hi0, sliced, Result.andThen, ha]
theorem pick_take {want : Bool → Bool → Bool} {U A B : List Int} {k : Nat} (hk : k < U.length) {x y : Bool} (hx : x = decide (U[k] ∈ A)) (hy : y = decide (U[k] ∈ B)) : (U.take (k + 1)).filter (fun v => want (decide (v ∈ A)) (decide (v ∈ B))) = (U.take k).filter (fun v => want (decide (v ∈ A)) (decide (v ∈ B))) ++ if want x y = true then [U[k]] else [] := by
  rw [List.take_succ_eq_append_getElem hk, List.filter_append]
  congr 1
  rw [hx, hy]
  by_cases h : want (decide (U[k] ∈ A)) (decide (U[k] ∈ B)) = true
  · rw [if_pos h, List.filter_cons_of_pos (by simpa using h)]
    rfl
  · rw [if_neg h, List.filter_cons_of_neg (by simpa using h)]
    rfl
theorem Join1_calls (x y : Bool) (W : World) : Calls Tryz.prog 125 #[.bool x, .bool y] W fun e w' => e = .returned (.bool (x || y)) ∧ w' = W := by
  cases x <;> cases y
  all_goals
    go_enter Tryz.func125, Tryz.ntmps125
    go_wp2_with fail
    go_ret
    exact ⟨rfl, rfl⟩
set_option maxRecDepth 100000 in
set_option maxHeartbeats 16000000 in
theorem someJoin_calls {B : Nat} {v : Value} {f g : Nat → Bool} {base : Nat} (U P Q : List Int) (w : World) (hN : w.heap[B]? = some (.cells (markC v f g) 181 (0, 0))) (hO : RowI w base v U) (hM : Marked U P Q U.length f g) (hU : U.length ≤ 128) :
    Calls Tryz.prog 124 #[.pointer (some ⟨B, 0, none⟩), .func (.func 125) #[] #[]] w fun e w' => ∃ v', e = .returned v' ∧ RowIC w' w.heap.size v' (U.filter (fun v => decide (v ∈ P) || decide (v ∈ Q))) ∧ Below w.heap.size w w' := by
  obtain ⟨i0, hi0, hz0, hz1, hz2⟩ := info_parts infoI
  obtain ⟨A1, c1, hv, hc1⟩ := hO.form
  have HL := Lib.hid hO.lst
  subst hv
  have HN := Lib.hid hN; have HMK := Lib.hid hM
  have x00 := (blk_cell hN 0).trans (markC_s _ _ _)
  obtain ⟨R, hR⟩ : ∃ R, U.filter (fun v => decide (v ∈ P) || decide (v ∈ Q)) = R := ⟨_, rfl⟩
  have HR := Lib.hid hR
  rw [hR]
  clear hN hO hM hR
  generalize hm : U.length = m at *
  have HM := Lib.hid hm
  clear hm
  go_enter Tryz.func124, Tryz.ntmps124
  go_wp2_with fail
  clear x00
  go_loopw [5, 13] (fun o i wr => ∃ (k : Nat) (out : List Int), i = .int .i64 k ∧ k ≤ m ∧ out.length ≤ k ∧ Hid ((U.take k).filter (fun v => decide (v ∈ P) || decide (v ∈ Q)) = out) ∧ Hid (RowI wr w.heap.size o out) ∧ Hid (Below w.heap.size w wr))
    (fun _ i _ => m - (intOf i).toNat)
  case atStart => exact ⟨0, [], rfl, Nat.zero_le _, Nat.zero_le _, Lib.hid rfl, Lib.hid (RowI.nil _ _), Lib.hid (Below.refl _ _)⟩
  case round =>
    obtain ⟨k, out, rfl, hk, hol, hF, hO, hB⟩ := hrel
    obtain ⟨A0, c0, rfl, _⟩ := hO.out.form
    by_cases hkm : k < m
    · have hkt : k < U.length := by rw [HM.out]; exact hkm
      have hLw : LstI wr (.slice A1 m c1) U := HL.out.below hB.out
      obtain ⟨ad, hA, x0⟩ := hLw.at k hkt
      subst hA
      clear hLw
      have hblk := (hB.out.block B (blk_lt HN.out)).trans HN.out
      have x1 := (blk_cell hblk (1 + k)).trans (markC_a _ _ _ k (by omega))
      have x2 := (blk_cell hblk (129 + k)).trans (markC_b _ _ _ k (by omega))
      clear hblk
      obtain ⟨m1, m2⟩ := HMK.out k hkt hkm
      have HST := Lib.hid (pick_take (want := fun x y => x || y) hkt m1 m2)
      clear m1 m2
      generalize U[k] = x at *
      have hix := fun W => indexI_at ad m c1 (k : Nat) (by omega) W
      simp only [Int.toNat_natCast] at hix
      have hixA := fun W => index_mark B 1 k (by omega) W
      have hixB := fun W => index_mark B 129 k (by omega) W
      have HC := Lib.hid (fun W => Join1_calls (f k) (g k) W)
      generalize f k = fx at *
      generalize g k = gx at *
      have HW : Hid ((fx || gx) = (fx || gx)) := Lib.hid rfl
      cases hb : (fx || gx) with
      | true =>
        have HBT := Lib.hid hb
        rw [hb] at HC
        clear hb
        go_wp2_with fail
        go_quiet ((go_at_call 125; exact Calls.quiet_of_same (HC.out _)))
        have hQ1 := Lib.hid (hO.out.below (Drawn0.below (w' := World.drewN _ nq) ⟨⟨_, rfl⟩⟩)); have hQ2 := Lib.hid (below_step hB.out (Drawn0.below (w' := World.drewN _ nq) ⟨⟨_, rfl⟩⟩))
        have hsz2 := hQ2.out.size
        generalize World.drewN wr nq = W2 at *
        go_wp2_with ((with_reducible refine gate_dst (N := 35) rfl ?_); refine wpList_append_own _ rfl _ _ 50 rfl w.heap.size 2 i0 _ 1 8 Tryz.underlying50 hi0 hz0 hz1 hz2 rfl (by decide) _ _ _ rfl ((RowI.own hQ1.out).alloc _) ⟨_, 0, none⟩ 1 1 [.int .i64 x] rfl rfl (cell_one_at _ _ (by simp) _ _) (by simp [Value.oneCell']) (by simp only [maxLen]; omega) (by omega) (by first | omega | (simp; omega)) ?_; intro v' w4 hown' hgrow _; obtain ⟨q1, q2⟩ := hQ1.out.pushed hown' hgrow (by first | omega | (simp; omega)); have hQ3 := Lib.hid q1; have hQ4 := Lib.hid (hQ2.out.trans q2); clear hown' hgrow q1 q2)
        refine ⟨⟨k + 1, out ++ [x], by rw [Int.natCast_add]; rfl, by omega, by rw [List.length_append, List.length_singleton]; omega, Lib.hid (by rw [HST.out, if_pos HBT.out, hF.out]), hQ3, hQ4⟩, by simp [intOf]; omega⟩
      | false =>
        have HBT := Lib.hid hb
        rw [hb] at HC
        clear hb
        go_wp2_with fail
        go_quiet ((go_at_call 125; exact Calls.quiet_of_same (HC.out _)))
        have hQ1 := Lib.hid (hO.out.below (Drawn0.below (w' := World.drewN _ nq) ⟨⟨_, rfl⟩⟩)); have hQ2 := Lib.hid (below_step hB.out (Drawn0.below (w' := World.drewN _ nq) ⟨⟨_, rfl⟩⟩))
        generalize World.drewN wr nq = W2 at *
        go_wp2_with fail
        refine ⟨⟨k + 1, out, by rw [Int.natCast_add]; rfl, by omega, by omega, Lib.hid (by rw [HST.out, if_neg (by rw [HBT.out]; decide), hF.out, List.append_nil]), hQ1, hQ2⟩, by simp [intOf]; omega⟩
    · obtain rfl : k = m := by omega
      have HE : Hid (out = R) := Lib.hid (by rw [← hF.out, List.take_of_length_le (by rw [HM.out]; exact Nat.le_refl _), HR.out])
      have hcut := fun W => cut3 A0 out.length c0 (by assumption) (by omega) W
      go_wp2_with fail
      go_ret
      refine ⟨_, rfl, ?_, hB.out⟩
      rw [← HE.out]
      exact ⟨A0, out.length, c0, rfl, Nat.le_refl _, hO.out⟩
set_option maxHeartbeats 4000000 in
theorem Join_calls {v1 v2 : Value} (a b : List Int) (w : World) (h1 : LstI w v1 a) (h2 : LstI w v2 b) :
    Calls Tryz.prog 50 #[v1, v2] w fun e w' => ∃ v', e = .returned v' ∧ RowIC w' w.heap.size v' (joinS a b) ∧ Below w.heap.size w w' := by
  have HM := Lib.hid (mark_calls a b w h1 h2)
  have hl := uniL_len (asL a) (asL b)
  have hl1 := set_len (asL_set a); have hl2 := set_len (asL_set b)
  have HR := Lib.hid (show joinS a b = (uniL (asL a) (asL b)).filter (fun v => decide (v ∈ asL a) || decide (v ∈ asL b)) from rfl)
  have hU : (uniL (asL a) (asL b)).length ≤ 128 := by omega
  generalize joinS a b = R at *
  obtain ⟨A1, c1, hv1⟩ := h1.form
  obtain ⟨A2, c2, hv2⟩ := h2.form
  subst hv1 hv2
  clear h1 h2 hl hl1 hl2
  go_enter Tryz.func50, Tryz.ntmps50
  go_wp2_with fail
  refine HM.out.mono ?_
  rintro e w1 ⟨B, v, f, g, rfl, hN, hO, hMk, hb1⟩
  have HS := Lib.hid (someJoin_calls _ _ _ w1 hN hO hMk hU)
  have HB1 := Lib.hid hb1
  clear hb1 hN hO hMk
  go_wp2_with fail
  refine HS.out.mono ?_
  rintro e w2 ⟨v2, rfl, hC, hb2⟩
  obtain ⟨A3, c3, c4, hv3, hc3, hr3⟩ := hC
  subst hv3
  have HC := Lib.hid (show RowIC w2 w1.heap.size _ _ from ⟨A3, c3, c4, rfl, hc3, hr3⟩)
  have HB2 := Lib.hid (below_step HB1.out hb2)
  clear hb2 hr3
  go_wp2_with fail
  go_ret
  refine ⟨_, rfl, ?_, HB2.out⟩
  rw [HR.out]
  exact HC.out.lower HB1.out.size
theorem Meet1_calls (x y : Bool) (W : World) : Calls Tryz.prog 126 #[.bool x, .bool y] W fun e w' => e = .returned (.bool (x && y)) ∧ w' = W := by
  cases x <;> cases y
  all_goals
    go_enter Tryz.func126, Tryz.ntmps126
    go_wp2_with fail
    go_ret
    exact ⟨rfl, rfl⟩
set_option maxRecDepth 100000 in
set_option maxHeartbeats 16000000 in
theorem someMeet_calls {B : Nat} {v : Value} {f g : Nat → Bool} {base : Nat} (U P Q : List Int) (w : World) (hN : w.heap[B]? = some (.cells (markC v f g) 181 (0, 0))) (hO : RowI w base v U) (hM : Marked U P Q U.length f g) (hU : U.length ≤ 128) :
    Calls Tryz.prog 124 #[.pointer (some ⟨B, 0, none⟩), .func (.func 126) #[] #[]] w fun e w' => ∃ v', e = .returned v' ∧ RowIC w' w.heap.size v' (U.filter (fun v => decide (v ∈ P) && decide (v ∈ Q))) ∧ Below w.heap.size w w' := by
  obtain ⟨i0, hi0, hz0, hz1, hz2⟩ := info_parts infoI
  obtain ⟨A1, c1, hv, hc1⟩ := hO.form
  have HL := Lib.hid hO.lst
  subst hv
  have HN := Lib.hid hN; have HMK := Lib.hid hM
  have x00 := (blk_cell hN 0).trans (markC_s _ _ _)
  obtain ⟨R, hR⟩ : ∃ R, U.filter (fun v => decide (v ∈ P) && decide (v ∈ Q)) = R := ⟨_, rfl⟩
  have HR := Lib.hid hR
  rw [hR]
  clear hN hO hM hR
  generalize hm : U.length = m at *
  have HM := Lib.hid hm
  clear hm
  go_enter Tryz.func124, Tryz.ntmps124
  go_wp2_with fail
  clear x00
  go_loopw [5, 13] (fun o i wr => ∃ (k : Nat) (out : List Int), i = .int .i64 k ∧ k ≤ m ∧ out.length ≤ k ∧ Hid ((U.take k).filter (fun v => decide (v ∈ P) && decide (v ∈ Q)) = out) ∧ Hid (RowI wr w.heap.size o out) ∧ Hid (Below w.heap.size w wr))
    (fun _ i _ => m - (intOf i).toNat)
  case atStart => exact ⟨0, [], rfl, Nat.zero_le _, Nat.zero_le _, Lib.hid rfl, Lib.hid (RowI.nil _ _), Lib.hid (Below.refl _ _)⟩
  case round =>
    obtain ⟨k, out, rfl, hk, hol, hF, hO, hB⟩ := hrel
    obtain ⟨A0, c0, rfl, _⟩ := hO.out.form
    by_cases hkm : k < m
    · have hkt : k < U.length := by rw [HM.out]; exact hkm
      have hLw : LstI wr (.slice A1 m c1) U := HL.out.below hB.out
      obtain ⟨ad, hA, x0⟩ := hLw.at k hkt
      subst hA
      clear hLw
      have hblk := (hB.out.block B (blk_lt HN.out)).trans HN.out
      have x1 := (blk_cell hblk (1 + k)).trans (markC_a _ _ _ k (by omega))
      have x2 := (blk_cell hblk (129 + k)).trans (markC_b _ _ _ k (by omega))
      clear hblk
      obtain ⟨m1, m2⟩ := HMK.out k hkt hkm
      have HST := Lib.hid (pick_take (want := fun x y => x && y) hkt m1 m2)
      clear m1 m2
      generalize U[k] = x at *
      have hix := fun W => indexI_at ad m c1 (k : Nat) (by omega) W
      simp only [Int.toNat_natCast] at hix
      have hixA := fun W => index_mark B 1 k (by omega) W
      have hixB := fun W => index_mark B 129 k (by omega) W
      have HC := Lib.hid (fun W => Meet1_calls (f k) (g k) W)
      generalize f k = fx at *
      generalize g k = gx at *
      have HW : Hid ((fx && gx) = (fx && gx)) := Lib.hid rfl
      cases hb : (fx && gx) with
      | true =>
        have HBT := Lib.hid hb
        rw [hb] at HC
        clear hb
        go_wp2_with fail
        go_quiet ((go_at_call 126; exact Calls.quiet_of_same (HC.out _)))
        have hQ1 := Lib.hid (hO.out.below (Drawn0.below (w' := World.drewN _ nq) ⟨⟨_, rfl⟩⟩)); have hQ2 := Lib.hid (below_step hB.out (Drawn0.below (w' := World.drewN _ nq) ⟨⟨_, rfl⟩⟩))
        have hsz2 := hQ2.out.size
        generalize World.drewN wr nq = W2 at *
        go_wp2_with ((with_reducible refine gate_dst (N := 35) rfl ?_); refine wpList_append_own _ rfl _ _ 50 rfl w.heap.size 2 i0 _ 1 8 Tryz.underlying50 hi0 hz0 hz1 hz2 rfl (by decide) _ _ _ rfl ((RowI.own hQ1.out).alloc _) ⟨_, 0, none⟩ 1 1 [.int .i64 x] rfl rfl (cell_one_at _ _ (by simp) _ _) (by simp [Value.oneCell']) (by simp only [maxLen]; omega) (by omega) (by first | omega | (simp; omega)) ?_; intro v' w4 hown' hgrow _; obtain ⟨q1, q2⟩ := hQ1.out.pushed hown' hgrow (by first | omega | (simp; omega)); have hQ3 := Lib.hid q1; have hQ4 := Lib.hid (hQ2.out.trans q2); clear hown' hgrow q1 q2)
        refine ⟨⟨k + 1, out ++ [x], by rw [Int.natCast_add]; rfl, by omega, by rw [List.length_append, List.length_singleton]; omega, Lib.hid (by rw [HST.out, if_pos HBT.out, hF.out]), hQ3, hQ4⟩, by simp [intOf]; omega⟩
      | false =>
        have HBT := Lib.hid hb
        rw [hb] at HC
        clear hb
        go_wp2_with fail
        go_quiet ((go_at_call 126; exact Calls.quiet_of_same (HC.out _)))
        have hQ1 := Lib.hid (hO.out.below (Drawn0.below (w' := World.drewN _ nq) ⟨⟨_, rfl⟩⟩)); have hQ2 := Lib.hid (below_step hB.out (Drawn0.below (w' := World.drewN _ nq) ⟨⟨_, rfl⟩⟩))
        generalize World.drewN wr nq = W2 at *
        go_wp2_with fail
        refine ⟨⟨k + 1, out, by rw [Int.natCast_add]; rfl, by omega, by omega, Lib.hid (by rw [HST.out, if_neg (by rw [HBT.out]; decide), hF.out, List.append_nil]), hQ1, hQ2⟩, by simp [intOf]; omega⟩
    · obtain rfl : k = m := by omega
      have HE : Hid (out = R) := Lib.hid (by rw [← hF.out, List.take_of_length_le (by rw [HM.out]; exact Nat.le_refl _), HR.out])
      have hcut := fun W => cut3 A0 out.length c0 (by assumption) (by omega) W
      go_wp2_with fail
      go_ret
      refine ⟨_, rfl, ?_, hB.out⟩
      rw [← HE.out]
      exact ⟨A0, out.length, c0, rfl, Nat.le_refl _, hO.out⟩
set_option maxHeartbeats 4000000 in
theorem Meet_calls {v1 v2 : Value} (a b : List Int) (w : World) (h1 : LstI w v1 a) (h2 : LstI w v2 b) :
    Calls Tryz.prog 51 #[v1, v2] w fun e w' => ∃ v', e = .returned v' ∧ RowIC w' w.heap.size v' (meetS a b) ∧ Below w.heap.size w w' := by
  have HM := Lib.hid (mark_calls a b w h1 h2)
  have hl := uniL_len (asL a) (asL b)
  have hl1 := set_len (asL_set a); have hl2 := set_len (asL_set b)
  have HR := Lib.hid (show meetS a b = (uniL (asL a) (asL b)).filter (fun v => decide (v ∈ asL a) && decide (v ∈ asL b)) from rfl)
  have hU : (uniL (asL a) (asL b)).length ≤ 128 := by omega
  generalize meetS a b = R at *
  obtain ⟨A1, c1, hv1⟩ := h1.form
  obtain ⟨A2, c2, hv2⟩ := h2.form
  subst hv1 hv2
  clear h1 h2 hl hl1 hl2
  go_enter Tryz.func51, Tryz.ntmps51
  go_wp2_with fail
  refine HM.out.mono ?_
  rintro e w1 ⟨B, v, f, g, rfl, hN, hO, hMk, hb1⟩
  have HS := Lib.hid (someMeet_calls _ _ _ w1 hN hO hMk hU)
  have HB1 := Lib.hid hb1
  clear hb1 hN hO hMk
  go_wp2_with fail
  refine HS.out.mono ?_
  rintro e w2 ⟨v2, rfl, hC, hb2⟩
  obtain ⟨A3, c3, c4, hv3, hc3, hr3⟩ := hC
  subst hv3
  have HC := Lib.hid (show RowIC w2 w1.heap.size _ _ from ⟨A3, c3, c4, rfl, hc3, hr3⟩)
  have HB2 := Lib.hid (below_step HB1.out hb2)
  clear hb2 hr3
  go_wp2_with fail
  go_ret
  refine ⟨_, rfl, ?_, HB2.out⟩
  rw [HR.out]
  exact HC.out.lower HB1.out.size
theorem Less1_calls (x y : Bool) (W : World) : Calls Tryz.prog 127 #[.bool x, .bool y] W fun e w' => e = .returned (.bool (x && !y)) ∧ w' = W := by
  cases x <;> cases y
  all_goals
    go_enter Tryz.func127, Tryz.ntmps127
    go_wp2_with fail
    go_ret
    exact ⟨rfl, rfl⟩
set_option maxRecDepth 100000 in
set_option maxHeartbeats 16000000 in
theorem someLess_calls {B : Nat} {v : Value} {f g : Nat → Bool} {base : Nat} (U P Q : List Int) (w : World) (hN : w.heap[B]? = some (.cells (markC v f g) 181 (0, 0))) (hO : RowI w base v U) (hM : Marked U P Q U.length f g) (hU : U.length ≤ 128) :
    Calls Tryz.prog 124 #[.pointer (some ⟨B, 0, none⟩), .func (.func 127) #[] #[]] w fun e w' => ∃ v', e = .returned v' ∧ RowIC w' w.heap.size v' (U.filter (fun v => decide (v ∈ P) && !decide (v ∈ Q))) ∧ Below w.heap.size w w' := by
  obtain ⟨i0, hi0, hz0, hz1, hz2⟩ := info_parts infoI
  obtain ⟨A1, c1, hv, hc1⟩ := hO.form
  have HL := Lib.hid hO.lst
  subst hv
  have HN := Lib.hid hN; have HMK := Lib.hid hM
  have x00 := (blk_cell hN 0).trans (markC_s _ _ _)
  obtain ⟨R, hR⟩ : ∃ R, U.filter (fun v => decide (v ∈ P) && !decide (v ∈ Q)) = R := ⟨_, rfl⟩
  have HR := Lib.hid hR
  rw [hR]
  clear hN hO hM hR
  generalize hm : U.length = m at *
  have HM := Lib.hid hm
  clear hm
  go_enter Tryz.func124, Tryz.ntmps124
  go_wp2_with fail
  clear x00
  go_loopw [5, 13] (fun o i wr => ∃ (k : Nat) (out : List Int), i = .int .i64 k ∧ k ≤ m ∧ out.length ≤ k ∧ Hid ((U.take k).filter (fun v => decide (v ∈ P) && !decide (v ∈ Q)) = out) ∧ Hid (RowI wr w.heap.size o out) ∧ Hid (Below w.heap.size w wr))
    (fun _ i _ => m - (intOf i).toNat)
  case atStart => exact ⟨0, [], rfl, Nat.zero_le _, Nat.zero_le _, Lib.hid rfl, Lib.hid (RowI.nil _ _), Lib.hid (Below.refl _ _)⟩
  case round =>
    obtain ⟨k, out, rfl, hk, hol, hF, hO, hB⟩ := hrel
    obtain ⟨A0, c0, rfl, _⟩ := hO.out.form
    by_cases hkm : k < m
    · have hkt : k < U.length := by rw [HM.out]; exact hkm
      have hLw : LstI wr (.slice A1 m c1) U := HL.out.below hB.out
      obtain ⟨ad, hA, x0⟩ := hLw.at k hkt
      subst hA
      clear hLw
      have hblk := (hB.out.block B (blk_lt HN.out)).trans HN.out
      have x1 := (blk_cell hblk (1 + k)).trans (markC_a _ _ _ k (by omega))
      have x2 := (blk_cell hblk (129 + k)).trans (markC_b _ _ _ k (by omega))
      clear hblk
      obtain ⟨m1, m2⟩ := HMK.out k hkt hkm
      have HST := Lib.hid (pick_take (want := fun x y => x && !y) hkt m1 m2)
      clear m1 m2
      generalize U[k] = x at *
      have hix := fun W => indexI_at ad m c1 (k : Nat) (by omega) W
      simp only [Int.toNat_natCast] at hix
      have hixA := fun W => index_mark B 1 k (by omega) W
      have hixB := fun W => index_mark B 129 k (by omega) W
      have HC := Lib.hid (fun W => Less1_calls (f k) (g k) W)
      generalize f k = fx at *
      generalize g k = gx at *
      have HW : Hid ((fx && !gx) = (fx && !gx)) := Lib.hid rfl
      cases hb : (fx && !gx) with
      | true =>
        have HBT := Lib.hid hb
        rw [hb] at HC
        clear hb
        go_wp2_with fail
        go_quiet ((go_at_call 127; exact Calls.quiet_of_same (HC.out _)))
        have hQ1 := Lib.hid (hO.out.below (Drawn0.below (w' := World.drewN _ nq) ⟨⟨_, rfl⟩⟩)); have hQ2 := Lib.hid (below_step hB.out (Drawn0.below (w' := World.drewN _ nq) ⟨⟨_, rfl⟩⟩))
        have hsz2 := hQ2.out.size
        generalize World.drewN wr nq = W2 at *
        go_wp2_with ((with_reducible refine gate_dst (N := 35) rfl ?_); refine wpList_append_own _ rfl _ _ 50 rfl w.heap.size 2 i0 _ 1 8 Tryz.underlying50 hi0 hz0 hz1 hz2 rfl (by decide) _ _ _ rfl ((RowI.own hQ1.out).alloc _) ⟨_, 0, none⟩ 1 1 [.int .i64 x] rfl rfl (cell_one_at _ _ (by simp) _ _) (by simp [Value.oneCell']) (by simp only [maxLen]; omega) (by omega) (by first | omega | (simp; omega)) ?_; intro v' w4 hown' hgrow _; obtain ⟨q1, q2⟩ := hQ1.out.pushed hown' hgrow (by first | omega | (simp; omega)); have hQ3 := Lib.hid q1; have hQ4 := Lib.hid (hQ2.out.trans q2); clear hown' hgrow q1 q2)
        refine ⟨⟨k + 1, out ++ [x], by rw [Int.natCast_add]; rfl, by omega, by rw [List.length_append, List.length_singleton]; omega, Lib.hid (by rw [HST.out, if_pos HBT.out, hF.out]), hQ3, hQ4⟩, by simp [intOf]; omega⟩
      | false =>
        have HBT := Lib.hid hb
        rw [hb] at HC
        clear hb
        go_wp2_with fail
        go_quiet ((go_at_call 127; exact Calls.quiet_of_same (HC.out _)))
        have hQ1 := Lib.hid (hO.out.below (Drawn0.below (w' := World.drewN _ nq) ⟨⟨_, rfl⟩⟩)); have hQ2 := Lib.hid (below_step hB.out (Drawn0.below (w' := World.drewN _ nq) ⟨⟨_, rfl⟩⟩))
        generalize World.drewN wr nq = W2 at *
        go_wp2_with fail
        refine ⟨⟨k + 1, out, by rw [Int.natCast_add]; rfl, by omega, by omega, Lib.hid (by rw [HST.out, if_neg (by rw [HBT.out]; decide), hF.out, List.append_nil]), hQ1, hQ2⟩, by simp [intOf]; omega⟩
    · obtain rfl : k = m := by omega
      have HE : Hid (out = R) := Lib.hid (by rw [← hF.out, List.take_of_length_le (by rw [HM.out]; exact Nat.le_refl _), HR.out])
      have hcut := fun W => cut3 A0 out.length c0 (by assumption) (by omega) W
      go_wp2_with fail
      go_ret
      refine ⟨_, rfl, ?_, hB.out⟩
      rw [← HE.out]
      exact ⟨A0, out.length, c0, rfl, Nat.le_refl _, hO.out⟩
set_option maxHeartbeats 4000000 in
theorem Less_calls {v1 v2 : Value} (a b : List Int) (w : World) (h1 : LstI w v1 a) (h2 : LstI w v2 b) :
    Calls Tryz.prog 52 #[v1, v2] w fun e w' => ∃ v', e = .returned v' ∧ RowIC w' w.heap.size v' (lessI a b) ∧ Below w.heap.size w w' := by
  have HM := Lib.hid (mark_calls a b w h1 h2)
  have hl := uniL_len (asL a) (asL b)
  have hl1 := set_len (asL_set a); have hl2 := set_len (asL_set b)
  have HR := Lib.hid (show lessI a b = (uniL (asL a) (asL b)).filter (fun v => decide (v ∈ asL a) && !decide (v ∈ asL b)) from rfl)
  have hU : (uniL (asL a) (asL b)).length ≤ 128 := by omega
  generalize lessI a b = R at *
  obtain ⟨A1, c1, hv1⟩ := h1.form
  obtain ⟨A2, c2, hv2⟩ := h2.form
  subst hv1 hv2
  clear h1 h2 hl hl1 hl2
  go_enter Tryz.func52, Tryz.ntmps52
  go_wp2_with fail
  refine HM.out.mono ?_
  rintro e w1 ⟨B, v, f, g, rfl, hN, hO, hMk, hb1⟩
  have HS := Lib.hid (someLess_calls _ _ _ w1 hN hO hMk hU)
  have HB1 := Lib.hid hb1
  clear hb1 hN hO hMk
  go_wp2_with fail
  refine HS.out.mono ?_
  rintro e w2 ⟨v2, rfl, hC, hb2⟩
  obtain ⟨A3, c3, c4, hv3, hc3, hr3⟩ := hC
  subst hv3
  have HC := Lib.hid (show RowIC w2 w1.heap.size _ _ from ⟨A3, c3, c4, rfl, hc3, hr3⟩)
  have HB2 := Lib.hid (below_step HB1.out hb2)
  clear hb2 hr3
  go_wp2_with fail
  go_ret
  refine ⟨_, rfl, ?_, HB2.out⟩
  rw [HR.out]
  exact HC.out.lower HB1.out.size
theorem Sym1_calls (x y : Bool) (W : World) : Calls Tryz.prog 128 #[.bool x, .bool y] W fun e w' => e = .returned (.bool (x != y)) ∧ w' = W := by
  cases x <;> cases y
  all_goals
    go_enter Tryz.func128, Tryz.ntmps128
    go_wp2_with fail
    go_ret
    exact ⟨rfl, rfl⟩
set_option maxRecDepth 100000 in
set_option maxHeartbeats 16000000 in
theorem someSym_calls {B : Nat} {v : Value} {f g : Nat → Bool} {base : Nat} (U P Q : List Int) (w : World) (hN : w.heap[B]? = some (.cells (markC v f g) 181 (0, 0))) (hO : RowI w base v U) (hM : Marked U P Q U.length f g) (hU : U.length ≤ 128) :
    Calls Tryz.prog 124 #[.pointer (some ⟨B, 0, none⟩), .func (.func 128) #[] #[]] w fun e w' => ∃ v', e = .returned v' ∧ RowIC w' w.heap.size v' (U.filter (fun v => decide (v ∈ P) != decide (v ∈ Q))) ∧ Below w.heap.size w w' := by
  obtain ⟨i0, hi0, hz0, hz1, hz2⟩ := info_parts infoI
  obtain ⟨A1, c1, hv, hc1⟩ := hO.form
  have HL := Lib.hid hO.lst
  subst hv
  have HN := Lib.hid hN; have HMK := Lib.hid hM
  have x00 := (blk_cell hN 0).trans (markC_s _ _ _)
  obtain ⟨R, hR⟩ : ∃ R, U.filter (fun v => decide (v ∈ P) != decide (v ∈ Q)) = R := ⟨_, rfl⟩
  have HR := Lib.hid hR
  rw [hR]
  clear hN hO hM hR
  generalize hm : U.length = m at *
  have HM := Lib.hid hm
  clear hm
  go_enter Tryz.func124, Tryz.ntmps124
  go_wp2_with fail
  clear x00
  go_loopw [5, 13] (fun o i wr => ∃ (k : Nat) (out : List Int), i = .int .i64 k ∧ k ≤ m ∧ out.length ≤ k ∧ Hid ((U.take k).filter (fun v => decide (v ∈ P) != decide (v ∈ Q)) = out) ∧ Hid (RowI wr w.heap.size o out) ∧ Hid (Below w.heap.size w wr))
    (fun _ i _ => m - (intOf i).toNat)
  case atStart => exact ⟨0, [], rfl, Nat.zero_le _, Nat.zero_le _, Lib.hid rfl, Lib.hid (RowI.nil _ _), Lib.hid (Below.refl _ _)⟩
  case round =>
    obtain ⟨k, out, rfl, hk, hol, hF, hO, hB⟩ := hrel
    obtain ⟨A0, c0, rfl, _⟩ := hO.out.form
    by_cases hkm : k < m
    · have hkt : k < U.length := by rw [HM.out]; exact hkm
      have hLw : LstI wr (.slice A1 m c1) U := HL.out.below hB.out
      obtain ⟨ad, hA, x0⟩ := hLw.at k hkt
      subst hA
      clear hLw
      have hblk := (hB.out.block B (blk_lt HN.out)).trans HN.out
      have x1 := (blk_cell hblk (1 + k)).trans (markC_a _ _ _ k (by omega))
      have x2 := (blk_cell hblk (129 + k)).trans (markC_b _ _ _ k (by omega))
      clear hblk
      obtain ⟨m1, m2⟩ := HMK.out k hkt hkm
      have HST := Lib.hid (pick_take (want := fun x y => x != y) hkt m1 m2)
      clear m1 m2
      generalize U[k] = x at *
      have hix := fun W => indexI_at ad m c1 (k : Nat) (by omega) W
      simp only [Int.toNat_natCast] at hix
      have hixA := fun W => index_mark B 1 k (by omega) W
      have hixB := fun W => index_mark B 129 k (by omega) W
      have HC := Lib.hid (fun W => Sym1_calls (f k) (g k) W)
      generalize f k = fx at *
      generalize g k = gx at *
      have HW : Hid ((fx != gx) = (fx != gx)) := Lib.hid rfl
      cases hb : (fx != gx) with
      | true =>
        have HBT := Lib.hid hb
        rw [hb] at HC
        clear hb
        go_wp2_with fail
        go_quiet ((go_at_call 128; exact Calls.quiet_of_same (HC.out _)))
        have hQ1 := Lib.hid (hO.out.below (Drawn0.below (w' := World.drewN _ nq) ⟨⟨_, rfl⟩⟩)); have hQ2 := Lib.hid (below_step hB.out (Drawn0.below (w' := World.drewN _ nq) ⟨⟨_, rfl⟩⟩))
        have hsz2 := hQ2.out.size
        generalize World.drewN wr nq = W2 at *
        go_wp2_with ((with_reducible refine gate_dst (N := 35) rfl ?_); refine wpList_append_own _ rfl _ _ 50 rfl w.heap.size 2 i0 _ 1 8 Tryz.underlying50 hi0 hz0 hz1 hz2 rfl (by decide) _ _ _ rfl ((RowI.own hQ1.out).alloc _) ⟨_, 0, none⟩ 1 1 [.int .i64 x] rfl rfl (cell_one_at _ _ (by simp) _ _) (by simp [Value.oneCell']) (by simp only [maxLen]; omega) (by omega) (by first | omega | (simp; omega)) ?_; intro v' w4 hown' hgrow _; obtain ⟨q1, q2⟩ := hQ1.out.pushed hown' hgrow (by first | omega | (simp; omega)); have hQ3 := Lib.hid q1; have hQ4 := Lib.hid (hQ2.out.trans q2); clear hown' hgrow q1 q2)
        refine ⟨⟨k + 1, out ++ [x], by rw [Int.natCast_add]; rfl, by omega, by rw [List.length_append, List.length_singleton]; omega, Lib.hid (by rw [HST.out, if_pos HBT.out, hF.out]), hQ3, hQ4⟩, by simp [intOf]; omega⟩
      | false =>
        have HBT := Lib.hid hb
        rw [hb] at HC
        clear hb
        go_wp2_with fail
        go_quiet ((go_at_call 128; exact Calls.quiet_of_same (HC.out _)))
        have hQ1 := Lib.hid (hO.out.below (Drawn0.below (w' := World.drewN _ nq) ⟨⟨_, rfl⟩⟩)); have hQ2 := Lib.hid (below_step hB.out (Drawn0.below (w' := World.drewN _ nq) ⟨⟨_, rfl⟩⟩))
        generalize World.drewN wr nq = W2 at *
        go_wp2_with fail
        refine ⟨⟨k + 1, out, by rw [Int.natCast_add]; rfl, by omega, by omega, Lib.hid (by rw [HST.out, if_neg (by rw [HBT.out]; decide), hF.out, List.append_nil]), hQ1, hQ2⟩, by simp [intOf]; omega⟩
    · obtain rfl : k = m := by omega
      have HE : Hid (out = R) := Lib.hid (by rw [← hF.out, List.take_of_length_le (by rw [HM.out]; exact Nat.le_refl _), HR.out])
      have hcut := fun W => cut3 A0 out.length c0 (by assumption) (by omega) W
      go_wp2_with fail
      go_ret
      refine ⟨_, rfl, ?_, hB.out⟩
      rw [← HE.out]
      exact ⟨A0, out.length, c0, rfl, Nat.le_refl _, hO.out⟩
set_option maxHeartbeats 4000000 in
theorem Sym_calls {v1 v2 : Value} (a b : List Int) (w : World) (h1 : LstI w v1 a) (h2 : LstI w v2 b) :
    Calls Tryz.prog 53 #[v1, v2] w fun e w' => ∃ v', e = .returned v' ∧ RowIC w' w.heap.size v' (symS a b) ∧ Below w.heap.size w w' := by
  have HM := Lib.hid (mark_calls a b w h1 h2)
  have hl := uniL_len (asL a) (asL b)
  have hl1 := set_len (asL_set a); have hl2 := set_len (asL_set b)
  have HR := Lib.hid (show symS a b = (uniL (asL a) (asL b)).filter (fun v => decide (v ∈ asL a) != decide (v ∈ asL b)) from rfl)
  have hU : (uniL (asL a) (asL b)).length ≤ 128 := by omega
  generalize symS a b = R at *
  obtain ⟨A1, c1, hv1⟩ := h1.form
  obtain ⟨A2, c2, hv2⟩ := h2.form
  subst hv1 hv2
  clear h1 h2 hl hl1 hl2
  go_enter Tryz.func53, Tryz.ntmps53
  go_wp2_with fail
  refine HM.out.mono ?_
  rintro e w1 ⟨B, v, f, g, rfl, hN, hO, hMk, hb1⟩
  have HS := Lib.hid (someSym_calls _ _ _ w1 hN hO hMk hU)
  have HB1 := Lib.hid hb1
  clear hb1 hN hO hMk
  go_wp2_with fail
  refine HS.out.mono ?_
  rintro e w2 ⟨v2, rfl, hC, hb2⟩
  obtain ⟨A3, c3, c4, hv3, hc3, hr3⟩ := hC
  subst hv3
  have HC := Lib.hid (show RowIC w2 w1.heap.size _ _ from ⟨A3, c3, c4, rfl, hc3, hr3⟩)
  have HB2 := Lib.hid (below_step HB1.out hb2)
  clear hb2 hr3
  go_wp2_with fail
  go_ret
  refine ⟨_, rfl, ?_, HB2.out⟩
  rw [HR.out]
  exact HC.out.lower HB1.out.size

end Go.Proofs.YtjeomiooheoegaaGreatDoor.PD

namespace Go.Proofs.YtjeomiooheoegaaGreatDoor.PD
open Go.RowKit Go.Proofs.YtjeomiooheoegaaGreatDoorW.PrintWords Go.Proofs.YtjeomiooheoegaaGreatDoorW.PrintLast Go.Proofs.YtjeomiooheoegaaGreatDoorW.PrintMore
attribute [local go_sem] max2_int min2_int max_two min_two max_three min_three max_four min_four   -- for this text's walks alone
set_option linter.unusedVariables false
set_option linter.unusedSimpArgs false

/-! ### cmp_Compare_int64: function 184 -/
def cmp_Compare_int64.f (a0 : Int) (a1 : Int) : Option (Int) := (cmp_isNaN_int64.f a0).bind fun t331 => ((cmp_isNaN_int64.f a1).bind fun t332 => (if t331 = true then (if t332 = true then (some 0) else (some (-1))) else (if t332 = true then (some 1) else (if a0 < a1 then (some (-1)) else (if a0 > a1 then (some 1) else (some 0))))))
set_option maxHeartbeats 8000000 in
set_option maxRecDepth 100000 in
theorem cmp_Compare_int64.calls (a0 : Int) (a1 : Int) (r : Int) (w : World) (h : cmp_Compare_int64.f a0 a1 = some r) :
    Calls Tryz.prog 184 #[.int .i64 a0, .int .i64 a1] w fun e w' => e = .returned (.int .i64 r) ∧ Drawn0 w w' := by
  have H : ((cmp_isNaN_int64.f a0).bind fun t331 => ((cmp_isNaN_int64.f a1).bind fun t332 => (if t331 = true then (if t332 = true then (some 0) else (some (-1))) else (if t332 = true then (some 1) else (if a0 < a1 then (some (-1)) else (if a0 > a1 then (some 1) else (some 0))))))) = some r := h
  clear h
  replace H := Option.bind_eq_some_iff.mp H
  obtain ⟨t331, A30, H⟩ := H
  replace H : ((cmp_isNaN_int64.f a1).bind fun t332 => (if t331 = true then (if t332 = true then (some 0) else (some (-1))) else (if t332 = true then (some 1) else (if a0 < a1 then (some (-1)) else (if a0 > a1 then (some 1) else (some 0)))))) = some r := H
  have A3 := Aside0.mk A30
  clear A30
  replace H := Option.bind_eq_some_iff.mp H
  obtain ⟨t332, A40, H⟩ := H
  replace H : (if t331 = true then (if t332 = true then (some 0) else (some (-1))) else (if t332 = true then (some 1) else (if a0 < a1 then (some (-1)) else (if a0 > a1 then (some 1) else (some 0))))) = some r := H
  have A4 := Aside0.mk A40
  clear A40
  by_cases c5 : t331 = true
  · subst c5
    have H1 : (if t332 = true then (some 0) else (some (-1))) = some r := by rw [if_pos rfl] at H; exact H
    clear H
    have H := H1
    clear H1
    by_cases c6 : t332 = true
    · subst c6
      have H1 : (some 0) = some r := by rw [if_pos rfl] at H; exact H
      clear H
      have H := H1
      clear H1
      obtain rfl := Option.some.inj H
      go_enter Tryz.func184, Tryz.ntmps184
      go_wp2_with (first | ((with_reducible refine gate_callee (f := 214) rfl ?_); refine goesL_ (some 8) rfl rfl Tryz.func214 (by kernel_rfl) rfl #[.int .i64 a0] rfl (by (try simp only [List.map_toArray, List.map_cons, List.map_nil]); first | done | rfl | (simp only [List.length_drop, List.length_take]; rfl)) ?_; (with_reducible refine (cmp_isNaN_int64.calls a0 true _ A3.out).mono ?_); rintro e w' ⟨rfl, ⟨nd, rfl⟩⟩; refine ⟨_, rfl, ?_⟩) | ((with_reducible refine gate_callee (f := 214) rfl ?_); refine goesL_ (some 10) rfl rfl Tryz.func214 (by kernel_rfl) rfl #[.int .i64 a1] rfl (by (try simp only [List.map_toArray, List.map_cons, List.map_nil]); first | done | rfl | (simp only [List.length_drop, List.length_take]; rfl)) ?_; (with_reducible refine (cmp_isNaN_int64.calls a1 true _ A4.out).mono ?_); rintro e w' ⟨rfl, ⟨nd, rfl⟩⟩; refine ⟨_, rfl, ?_⟩))
      go_ret
      exact ⟨by first | rfl | (simp; done) | (simp [*]; done), by repeat (first | exact Drawn0.refl _ | apply Drawn0.step)⟩
    · replace c6 := Bool.eq_false_iff.mpr c6
      subst c6
      have H1 : (some (-1)) = some r := by rw [if_neg (show ¬ (false = true) by decide)] at H; exact H
      clear H
      have H := H1
      clear H1
      obtain rfl := Option.some.inj H
      go_enter Tryz.func184, Tryz.ntmps184
      go_wp2_with (first | ((with_reducible refine gate_callee (f := 214) rfl ?_); refine goesL_ (some 8) rfl rfl Tryz.func214 (by kernel_rfl) rfl #[.int .i64 a0] rfl (by (try simp only [List.map_toArray, List.map_cons, List.map_nil]); first | done | rfl | (simp only [List.length_drop, List.length_take]; rfl)) ?_; (with_reducible refine (cmp_isNaN_int64.calls a0 true _ A3.out).mono ?_); rintro e w' ⟨rfl, ⟨nd, rfl⟩⟩; refine ⟨_, rfl, ?_⟩) | ((with_reducible refine gate_callee (f := 214) rfl ?_); refine goesL_ (some 10) rfl rfl Tryz.func214 (by kernel_rfl) rfl #[.int .i64 a1] rfl (by (try simp only [List.map_toArray, List.map_cons, List.map_nil]); first | done | rfl | (simp only [List.length_drop, List.length_take]; rfl)) ?_; (with_reducible refine (cmp_isNaN_int64.calls a1 false _ A4.out).mono ?_); rintro e w' ⟨rfl, ⟨nd, rfl⟩⟩; refine ⟨_, rfl, ?_⟩))
      go_ret
      exact ⟨by first | rfl | (simp; done) | (simp [*]; done), by repeat (first | exact Drawn0.refl _ | apply Drawn0.step)⟩
  · replace c5 := Bool.eq_false_iff.mpr c5
    subst c5
    have H1 : (if t332 = true then (some 1) else (if a0 < a1 then (some (-1)) else (if a0 > a1 then (some 1) else (some 0)))) = some r := by rw [if_neg (show ¬ (false = true) by decide)] at H; exact H
    clear H
    have H := H1
    clear H1
    by_cases c7 : t332 = true
    · subst c7
      have H1 : (some 1) = some r := by rw [if_pos rfl] at H; exact H
      clear H
      have H := H1
      clear H1
      obtain rfl := Option.some.inj H
      go_enter Tryz.func184, Tryz.ntmps184
      go_wp2_with (first | ((with_reducible refine gate_callee (f := 214) rfl ?_); refine goesL_ (some 8) rfl rfl Tryz.func214 (by kernel_rfl) rfl #[.int .i64 a0] rfl (by (try simp only [List.map_toArray, List.map_cons, List.map_nil]); first | done | rfl | (simp only [List.length_drop, List.length_take]; rfl)) ?_; (with_reducible refine (cmp_isNaN_int64.calls a0 false _ A3.out).mono ?_); rintro e w' ⟨rfl, ⟨nd, rfl⟩⟩; refine ⟨_, rfl, ?_⟩) | ((with_reducible refine gate_callee (f := 214) rfl ?_); refine goesL_ (some 10) rfl rfl Tryz.func214 (by kernel_rfl) rfl #[.int .i64 a1] rfl (by (try simp only [List.map_toArray, List.map_cons, List.map_nil]); first | done | rfl | (simp only [List.length_drop, List.length_take]; rfl)) ?_; (with_reducible refine (cmp_isNaN_int64.calls a1 true _ A4.out).mono ?_); rintro e w' ⟨rfl, ⟨nd, rfl⟩⟩; refine ⟨_, rfl, ?_⟩))
      go_ret
      exact ⟨by first | rfl | (simp; done) | (simp [*]; done), by repeat (first | exact Drawn0.refl _ | apply Drawn0.step)⟩
    · replace c7 := Bool.eq_false_iff.mpr c7
      subst c7
      have H1 : (if a0 < a1 then (some (-1)) else (if a0 > a1 then (some 1) else (some 0))) = some r := by rw [if_neg (show ¬ (false = true) by decide)] at H; exact H
      clear H
      have H := H1
      clear H1
      by_cases c8 : a0 < a1
      · rw [if_pos c8] at H
        have c8b0 : decide (a0 < a1) = true := decide_eq_true c8
        clear c8
        obtain rfl := Option.some.inj H
        go_enter Tryz.func184, Tryz.ntmps184
        go_wp2_with (first | ((with_reducible refine gate_callee (f := 214) rfl ?_); refine goesL_ (some 8) rfl rfl Tryz.func214 (by kernel_rfl) rfl #[.int .i64 a0] rfl (by (try simp only [List.map_toArray, List.map_cons, List.map_nil]); first | done | rfl | (simp only [List.length_drop, List.length_take]; rfl)) ?_; (with_reducible refine (cmp_isNaN_int64.calls a0 false _ A3.out).mono ?_); rintro e w' ⟨rfl, ⟨nd, rfl⟩⟩; refine ⟨_, rfl, ?_⟩) | ((with_reducible refine gate_callee (f := 214) rfl ?_); refine goesL_ (some 10) rfl rfl Tryz.func214 (by kernel_rfl) rfl #[.int .i64 a1] rfl (by (try simp only [List.map_toArray, List.map_cons, List.map_nil]); first | done | rfl | (simp only [List.length_drop, List.length_take]; rfl)) ?_; (with_reducible refine (cmp_isNaN_int64.calls a1 false _ A4.out).mono ?_); rintro e w' ⟨rfl, ⟨nd, rfl⟩⟩; refine ⟨_, rfl, ?_⟩))
        go_ret
        exact ⟨by first | rfl | (simp; done) | (simp [*]; done), by repeat (first | exact Drawn0.refl _ | apply Drawn0.step)⟩
      · rw [if_neg c8] at H
        have c8b0 : decide (a0 < a1) = false := decide_eq_false c8
        clear c8
        by_cases c9 : a0 > a1
        · rw [if_pos c9] at H
          have c9b0 : decide (a1 < a0) = true := decide_eq_true c9
          clear c9
          obtain rfl := Option.some.inj H
          go_enter Tryz.func184, Tryz.ntmps184
          go_wp2_with (first | ((with_reducible refine gate_callee (f := 214) rfl ?_); refine goesL_ (some 8) rfl rfl Tryz.func214 (by kernel_rfl) rfl #[.int .i64 a0] rfl (by (try simp only [List.map_toArray, List.map_cons, List.map_nil]); first | done | rfl | (simp only [List.length_drop, List.length_take]; rfl)) ?_; (with_reducible refine (cmp_isNaN_int64.calls a0 false _ A3.out).mono ?_); rintro e w' ⟨rfl, ⟨nd, rfl⟩⟩; refine ⟨_, rfl, ?_⟩) | ((with_reducible refine gate_callee (f := 214) rfl ?_); refine goesL_ (some 10) rfl rfl Tryz.func214 (by kernel_rfl) rfl #[.int .i64 a1] rfl (by (try simp only [List.map_toArray, List.map_cons, List.map_nil]); first | done | rfl | (simp only [List.length_drop, List.length_take]; rfl)) ?_; (with_reducible refine (cmp_isNaN_int64.calls a1 false _ A4.out).mono ?_); rintro e w' ⟨rfl, ⟨nd, rfl⟩⟩; refine ⟨_, rfl, ?_⟩))
          go_ret
          exact ⟨by first | rfl | (simp; done) | (simp [*]; done), by repeat (first | exact Drawn0.refl _ | apply Drawn0.step)⟩
        · rw [if_neg c9] at H
          have c9b0 : decide (a1 < a0) = false := decide_eq_false c9
          clear c9
          obtain rfl := Option.some.inj H
          go_enter Tryz.func184, Tryz.ntmps184
          go_wp2_with (first | ((with_reducible refine gate_callee (f := 214) rfl ?_); refine goesL_ (some 8) rfl rfl Tryz.func214 (by kernel_rfl) rfl #[.int .i64 a0] rfl (by (try simp only [List.map_toArray, List.map_cons, List.map_nil]); first | done | rfl | (simp only [List.length_drop, List.length_take]; rfl)) ?_; (with_reducible refine (cmp_isNaN_int64.calls a0 false _ A3.out).mono ?_); rintro e w' ⟨rfl, ⟨nd, rfl⟩⟩; refine ⟨_, rfl, ?_⟩) | ((with_reducible refine gate_callee (f := 214) rfl ?_); refine goesL_ (some 10) rfl rfl Tryz.func214 (by kernel_rfl) rfl #[.int .i64 a1] rfl (by (try simp only [List.map_toArray, List.map_cons, List.map_nil]); first | done | rfl | (simp only [List.length_drop, List.length_take]; rfl)) ?_; (with_reducible refine (cmp_isNaN_int64.calls a1 false _ A4.out).mono ?_); rintro e w' ⟨rfl, ⟨nd, rfl⟩⟩; refine ⟨_, rfl, ?_⟩))
          go_ret
          exact ⟨by first | rfl | (simp; done) | (simp [*]; done), by repeat (first | exact Drawn0.refl _ | apply Drawn0.step)⟩
end Go.Proofs.YtjeomiooheoegaaGreatDoor.PD

namespace Go.Proofs.YtjeomiooheoegaaGreatDoor.PD
open Go.RowKit Go.Proofs.YtjeomiooheoegaaGreatDoorW.PrintWords Go.Proofs.YtjeomiooheoegaaGreatDoorW.PrintLast Go.Proofs.YtjeomiooheoegaaGreatDoorW.PrintMore
attribute [local go_sem] max2_int min2_int max_two min_two max_three min_three max_four min_four   -- for this text's walks alone
set_option linter.unusedVariables false
set_option linter.unusedSimpArgs false

/-! ### slices_Compare_int64_int64: function 137 -/
def slices_Compare_int64_int64.l0 : Nat → List Int → List Int → List Int → Int → Int → Option (Int)
  | 0, _, _, _, _, _ => none
  | k + 1, x0, x1, x9, x10, x11 => if x11 < x10 then (if 0 ≤ x11 then (if x11 < (x9.length : Int) then (if x11 ≥ (x1.length : Int) then (some 1) else (if x11 < (x1.length : Int) then ((cmp_Compare_int64.f (rd x9 x11) (rd x1 x11)).bind fun t335 => (if t335 = 0 then (slices_Compare_int64_int64.l0 k x0 x1 x9 x10 (wrap64 (x11 + 1))) else (some t335))) else (none))) else (none)) else (none)) else (if (x0.length : Int) < (x1.length : Int) then (some (-1)) else (some 0))
def slices_Compare_int64_int64.f (k : Nat) (l0 : List Int) (l1 : List Int) : Option (Int) := slices_Compare_int64_int64.l0 k l0 l1 l0 (l0.length : Int) 0
theorem slices_Compare_int64_int64.mono_l : ∀ k, (∀ y0 y1 y2 y3 y4, LeO (slices_Compare_int64_int64.l0 k y0 y1 y2 y3 y4) (slices_Compare_int64_int64.l0 (k + 1) y0 y1 y2 y3 y4))
  | 0 => fun _ _ _ _ _ r h => by simp [slices_Compare_int64_int64.l0] at h
  | k + 1 => by
    have ih0 := slices_Compare_int64_int64.mono_l k
    · intro y0 y1 y2 y3 y4
      unfold slices_Compare_int64_int64.l0
      repeat' first
      | (with_reducible exact ih0 _ _ _ _ _)
      | (with_reducible exact LeO.refl _)
      | (with_reducible exact LeO.none _)
      | (with_reducible refine LeO.ite ?_ ?_)
      | (with_reducible refine LeO.bind ?_ (fun _ => ?_))
      | exact ih0 _ _ _ _ _
      | exact LeO.none _
      | refine LeO.ite ?_ ?_
      | refine LeO.bind ?_ (fun _ => ?_)
theorem slices_Compare_int64_int64.mono : ∀ a0 a1 k, LeO (slices_Compare_int64_int64.f k a0 a1) (slices_Compare_int64_int64.f (k + 1) a0 a1) := by
  intro a0 a1 k
  have ih0 := slices_Compare_int64_int64.mono_l k
  unfold slices_Compare_int64_int64.f
  repeat' first
      | (with_reducible exact ih0 _ _ _ _ _)
      | (with_reducible exact LeO.refl _)
      | (with_reducible exact LeO.none _)
      | (with_reducible refine LeO.ite ?_ ?_)
      | (with_reducible refine LeO.bind ?_ (fun _ => ?_))
      | exact ih0 _ _ _ _ _
      | exact LeO.none _
      | refine LeO.ite ?_ ?_
      | refine LeO.bind ?_ (fun _ => ?_)
set_option maxHeartbeats 8000000 in
set_option maxRecDepth 100000 in
theorem slices_Compare_int64_int64.calls (k : Nat) (A0 : Option Addr) (c0 : Nat) (l0 : List Int) (A1 : Option Addr) (c1 : Nat) (l1 : List Int) (r : Int) (w : World) (hr0 : Kd.C (Kd.int .i64) w A0 l0.length l0) (hc0 : l0.length ≤ c0) (hr1 : Kd.C (Kd.int .i64) w A1 l1.length l1) (hc1 : l1.length ≤ c1) (h : slices_Compare_int64_int64.f k l0 l1 = some r) :
    Calls Tryz.prog 137 #[.slice A0 l0.length c0, .slice A1 l1.length c1] w fun e w' => e = .returned (.int .i64 r) ∧ Drawn0 w w' := by
  have HR0 := Aside0.mk hr0
  have HC0 := Aside0.mk hc0
  clear hr0 hc0
  have HR1 := Aside0.mk hr1
  have HC1 := Aside0.mk hc1
  clear hr1 hc1
  have H : (slices_Compare_int64_int64.l0 k l0 l1 l0 (l0.length : Int) 0) = some r := h
  clear h
  have H' := Aside0.mk H
  clear H
  go_enter Tryz.func137, Tryz.ntmps137
  go_wp2
  go_loopg [11] k (fun kq v11 w' => ∃ (x11_1 : Int), v11 = .int .i64 x11_1 ∧ Aside0 (slices_Compare_int64_int64.l0 kq l0 l1 l0 (l0.length : Int) x11_1 = some r) ∧ Aside0 (kq ≤ k) ∧ Drawn0 w w')
  case atStart => exact ⟨(0), (by first | rfl | (simp; done) | (simp [*]; done)), H', ⟨Nat.le_refl _⟩, by repeat (first | exact Drawn0.refl _ | apply Drawn0.step)⟩
  case round =>
    clear H'
    try clear c1
    try clear p2
    obtain ⟨x11_1, rfl, HA, HK1, ⟨m1, rfl⟩⟩ := hrel
    cases gk with
    | zero => exact absurd HA.out (by simp [slices_Compare_int64_int64.l0])
    | succ k1 =>
      have H := HA.out
      clear HA
      simp only [slices_Compare_int64_int64.l0] at H
      by_cases c3 : x11_1 < (l0.length : Int)
      · rw [if_pos c3] at H
        have c3b0 : decide (x11_1 < (l0.length : Int)) = true := decide_eq_true c3
        clear c3
        by_cases c4 : 0 ≤ x11_1
        · rw [if_pos c4] at H
          have c4b0 : decide (0 ≤ x11_1) = true := decide_eq_true c4
          clear c4
          by_cases c5 : x11_1 < (l0.length : Int)
          · rw [if_pos c5] at H
            have c5b0 : decide (x11_1 < (l0.length : Int)) = true := decide_eq_true c5
            clear c5
            by_cases c6 : x11_1 ≥ (l1.length : Int)
            · rw [if_pos c6] at H
              have c6b0 : decide ((l1.length : Int) ≤ x11_1) = true := decide_eq_true c6
              clear c6
              obtain rfl := Option.some.inj H
              have p333 : 0 ≤ (x11_1 : Int) := of_decide_eq_true (by first | (with_reducible assumption) | assumption)
              have q333 : x11_1 < (l0.length : Int) := of_decide_eq_true (by first | (with_reducible assumption) | assumption)
              obtain ⟨ad333, e333, hx333_0⟩ := Kd.at_int HR0.out x11_1 p333 q333
              cases e333
              replace p333 := eq_true p333
              replace q333 := eq_true q333
              go_wp2
              go_ret
              exact ⟨by first | rfl | (simp; done) | (simp [*]; done), by repeat (first | exact Drawn0.refl _ | apply Drawn0.step)⟩
            · rw [if_neg c6] at H
              have c6b0 : decide ((l1.length : Int) ≤ x11_1) = false := decide_eq_false c6
              clear c6
              by_cases c7 : x11_1 < (l1.length : Int)
              · rw [if_pos c7] at H
                have c7b0 : decide (x11_1 < (l1.length : Int)) = true := decide_eq_true c7
                clear c7
                replace H := Option.bind_eq_some_iff.mp H
                obtain ⟨t335, A80, H⟩ := H
                replace H : (if t335 = 0 then (slices_Compare_int64_int64.l0 k1 l0 l1 l0 (l0.length : Int) (wrap64 (x11_1 + 1))) else (some t335)) = some r := H
                have A8 := Aside0.mk A80
                clear A80
                by_cases c9 : t335 = 0
                · rw [if_pos c9] at H
                  have c9b0 : (t335 == 0) = true := beq_iff_eq.mpr c9
                  have c9b1 : (t335 != 0) = false := bne_eq_false_iff_eq.mpr c9
                  clear c9
                  have H' := Aside0.mk H
                  clear H
                  have p333 : 0 ≤ (x11_1 : Int) := of_decide_eq_true (by first | (with_reducible assumption) | assumption)
                  have q333 : x11_1 < (l0.length : Int) := of_decide_eq_true (by first | (with_reducible assumption) | assumption)
                  obtain ⟨ad333, e333, hx333_0⟩ := Kd.at_int HR0.out x11_1 p333 q333
                  cases e333
                  replace p333 := eq_true p333
                  replace q333 := eq_true q333
                  have p334 : 0 ≤ (x11_1 : Int) := of_decide_eq_true (by first | (with_reducible assumption) | assumption)
                  have q334 : x11_1 < (l1.length : Int) := of_decide_eq_true (by first | (with_reducible assumption) | assumption)
                  obtain ⟨ad334, e334, hx334_0⟩ := Kd.at_int HR1.out x11_1 p334 q334
                  cases e334
                  replace p334 := eq_true p334
                  replace q334 := eq_true q334
                  go_wp2_with (first | ((with_reducible refine gate_callee (f := 184) rfl ?_); refine goesL_ (some 26) rfl rfl Tryz.func184 (by kernel_rfl) rfl #[.int .i64 (rd l0 x11_1), .int .i64 (rd l1 x11_1)] rfl (by (try simp only [List.map_toArray, List.map_cons, List.map_nil]); first | done | rfl | (simp only [List.length_drop, List.length_take]; rfl)) ?_; (with_reducible refine (cmp_Compare_int64.calls (rd l0 x11_1) (rd l1 x11_1) t335 _ A8.out).mono ?_); rintro e w' ⟨rfl, ⟨nd, rfl⟩⟩; refine ⟨_, rfl, ?_⟩))
                  go_roundg k1
                  case measure => have := HK1.out; omega
                  case rel => exact ⟨(wrap64 (x11_1 + 1)), (by first | rfl | (simp; done) | (simp [*]; done)), H', ⟨by have := HK1.out; omega⟩, by repeat (first | exact Drawn0.refl _ | apply Drawn0.step)⟩
                · rw [if_neg c9] at H
                  have c9b0 : (t335 == 0) = false := beq_eq_false_iff_ne.mpr c9
                  have c9b1 : (t335 != 0) = true := bne_iff_ne.mpr c9
                  obtain rfl := Option.some.inj H
                  have p333 : 0 ≤ (x11_1 : Int) := of_decide_eq_true (by first | (with_reducible assumption) | assumption)
                  have q333 : x11_1 < (l0.length : Int) := of_decide_eq_true (by first | (with_reducible assumption) | assumption)
                  obtain ⟨ad333, e333, hx333_0⟩ := Kd.at_int HR0.out x11_1 p333 q333
                  cases e333
                  replace p333 := eq_true p333
                  replace q333 := eq_true q333
                  have p334 : 0 ≤ (x11_1 : Int) := of_decide_eq_true (by first | (with_reducible assumption) | assumption)
                  have q334 : x11_1 < (l1.length : Int) := of_decide_eq_true (by first | (with_reducible assumption) | assumption)
                  obtain ⟨ad334, e334, hx334_0⟩ := Kd.at_int HR1.out x11_1 p334 q334
                  cases e334
                  replace p334 := eq_true p334
                  replace q334 := eq_true q334
                  go_wp2_with (first | ((with_reducible refine gate_callee (f := 184) rfl ?_); refine goesL_ (some 26) rfl rfl Tryz.func184 (by kernel_rfl) rfl #[.int .i64 (rd l0 x11_1), .int .i64 (rd l1 x11_1)] rfl (by (try simp only [List.map_toArray, List.map_cons, List.map_nil]); first | done | rfl | (simp only [List.length_drop, List.length_take]; rfl)) ?_; (with_reducible refine (cmp_Compare_int64.calls (rd l0 x11_1) (rd l1 x11_1) t335 _ A8.out).mono ?_); rintro e w' ⟨rfl, ⟨nd, rfl⟩⟩; refine ⟨_, rfl, ?_⟩))
                  go_ret
                  exact ⟨by first | rfl | (simp; done) | (simp [*]; done), by repeat (first | exact Drawn0.refl _ | apply Drawn0.step)⟩
              · rw [if_neg c7] at H
                exact absurd H (by simp)
          · rw [if_neg c5] at H
            exact absurd H (by simp)
        · rw [if_neg c4] at H
          exact absurd H (by simp)
      · rw [if_neg c3] at H
        have c3b0 : decide (x11_1 < (l0.length : Int)) = false := decide_eq_false c3
        clear c3
        by_cases c10 : (l0.length : Int) < (l1.length : Int)
        · rw [if_pos c10] at H
          have c10b0 : decide ((l0.length : Int) < (l1.length : Int)) = true := decide_eq_true c10
          have c10b1 : decide (l0.length < l1.length) = true := decide_eq_true (Int.ofNat_lt.mp c10)
          clear c10
          obtain rfl := Option.some.inj H
          go_wp2
          go_ret
          exact ⟨by first | rfl | (simp; done) | (simp [*]; done), by repeat (first | exact Drawn0.refl _ | apply Drawn0.step)⟩
        · rw [if_neg c10] at H
          have c10b0 : decide ((l0.length : Int) < (l1.length : Int)) = false := decide_eq_false c10
          have c10b1 : decide (l0.length < l1.length) = false := decide_eq_false (fun h => c10 (Int.ofNat_lt.mpr h))
          clear c10
          obtain rfl := Option.some.inj H
          go_wp2
          go_ret
          exact ⟨by first | rfl | (simp; done) | (simp [*]; done), by repeat (first | exact Drawn0.refl _ | apply Drawn0.step)⟩
end Go.Proofs.YtjeomiooheoegaaGreatDoor.PD

namespace Go.Proofs.YtjeomiooheoegaaGreatDoor.PD
open Go.RowKit Go.Proofs.YtjeomiooheoegaaGreatDoorW.PrintWords Go.Proofs.YtjeomiooheoegaaGreatDoorW.PrintLast Go.Proofs.YtjeomiooheoegaaGreatDoorW.PrintMore
set_option linter.unusedVariables false
set_option linter.unusedSimpArgs false
/-! ### Sub, Cmp of the program -/
set_option maxHeartbeats 4000000 in
theorem Sub_calls {v1 v2 : Value} (a b : List Int) (w : World) (h1 : LstI w v1 a) (h2 : LstI w v2 b) :
    Calls Tryz.prog 66 #[v1, v2] w fun e w' => e = .returned (.bool (subS a b)) ∧ Below w.heap.size w w' := by
  have HL := Lib.hid (Less_calls a b w h1 h2)
  have HS := Lib.hid (show subS a b = decide ((lessI a b).length = 0) by unfold subS; cases lessI a b <;> rfl)
  rw [HS.out]
  have hlen := pickS_len (fun x y => x && !y) a b
  change (lessI a b).length ≤ 128 at hlen
  generalize lessI a b = R at *
  obtain ⟨A1, c1, hv1⟩ := h1.form
  obtain ⟨A2, c2, hv2⟩ := h2.form
  subst hv1 hv2
  clear h1 h2
  go_enter Tryz.func66, Tryz.ntmps66
  go_wp2_with fail
  refine HL.out.mono ?_
  rintro e w1 ⟨v1, rfl, hC, hb1⟩
  obtain ⟨A3, c3, hv3⟩ := hC.lst.form
  subst hv3
  clear hC
  generalize hn0 : R.length = n at *
  have HN := Lib.hid hn0
  clear hn0
  by_cases hn : n = 0
  · subst hn
    go_wp2_with fail
    go_ret
    exact ⟨by rw [HN.out]; rfl, hb1⟩
  · have hg1 : ((n : Int) == 0) = false := by rw [beq_eq_false_iff_ne]; omega
    have hg2 : ((n : Nat) == 0) = false := by rw [beq_eq_false_iff_ne]; omega
    have hd : decide (n = 0) = false := decide_eq_false hn
    go_wp2_with fail
    go_ret
    exact ⟨by rw [HN.out, hd]; rfl, hb1⟩
theorem cmpf (a b : Int) : cmp_Compare_int64.f a b = some (if a < b then -1 else if b < a then 1 else 0) := by
  unfold cmp_Compare_int64.f cmp_isNaN_int64.f
  simp only [Option.bind_some, bne_self_eq_false, Bool.false_eq_true, if_false]
  by_cases h1 : a < b
  · rw [if_pos h1, if_pos h1]
  · rw [if_neg h1, if_neg h1]
    by_cases h2 : a > b
    · rw [if_pos h2, if_pos (by omega)]
    · rw [if_neg h2, if_neg (by omega)]
theorem compare_l0 (a b : List Int) (ha : a.length ≤ 1000000) : ∀ (d i : Nat), a.length = i + d → i ≤ b.length → slices_Compare_int64_int64.l0 (d + 1) a b a (a.length : Int) (i : Int) = some (cmpL (a.drop i) (b.drop i))
  | 0, i, hd, hi => by
    have e : a.drop i = [] := List.drop_eq_nil_of_le (by omega)
    rw [slices_Compare_int64_int64.l0, if_neg (by omega), e]
    by_cases h : a.length < b.length
    · rw [if_pos (by omega), List.drop_eq_getElem_cons (by omega : i < b.length)]
      rfl
    · rw [if_neg (by omega), List.drop_eq_nil_of_le (by omega)]
      rfl
  | d + 1, i, hd, hi => by
    have hia : i < a.length := by omega
    rw [slices_Compare_int64_int64.l0, if_pos (by omega), if_pos (by omega), if_pos (by omega), List.drop_eq_getElem_cons hia, w64_succ i a.length (by omega) (by omega)]
    by_cases h : b.length ≤ i
    · rw [if_pos (by omega), List.drop_eq_nil_of_le h]
      rfl
    · have hib : i < b.length := by omega
      have ih := compare_l0 a b ha d (i + 1) (by omega) (by omega)
      rw [if_neg (by omega), if_pos (by omega), List.drop_eq_getElem_cons hib, rdI a i hia, rdI b i hib, cmpf, cmpL]
      simp only [Option.bind_some]
      by_cases h1 : a[i] < b[i]
      · rw [if_pos h1, if_neg (by decide), if_pos h1]
      · rw [if_neg h1]
        by_cases h2 : b[i] < a[i]
        · rw [if_pos h2, if_neg (by decide), if_neg h1, if_pos h2]
        · rw [if_neg h2, if_pos rfl, if_neg h1, if_neg h2]
          exact ih
theorem compareI_calls {v1 v2 : Value} (a b : List Int) (w : World) (h1 : LstI w v1 a) (h2 : LstI w v2 b) (ha : a.length ≤ 1000000) :
    Calls Tryz.prog 137 #[v1, v2] w fun e w' => e = .returned (.int .i64 (cmpL a b)) ∧ Below w.heap.size w w' := by
  obtain ⟨A, c, rfl, hC, hc⟩ := h1
  obtain ⟨A', c', rfl, hC', hc'⟩ := h2
  have hr := compare_l0 a b ha a.length 0 (by omega) (by omega)
  rw [List.drop_zero, List.drop_zero] at hr
  exact (slices_Compare_int64_int64.calls _ A c a A' c' b _ w hC hc hC' hc' hr).mono fun e w' ⟨he, hd⟩ => ⟨he, hd.below⟩
set_option maxHeartbeats 4000000 in
theorem Cmp_calls {v1 v2 : Value} (a b : List Int) (w : World) (h1 : LstI w v1 a) (h2 : LstI w v2 b) :
    Calls Tryz.prog 62 #[v1, v2] w fun e w' => e = .returned (.int .i64 (cmpS a b)) ∧ Below w.heap.size w w' := by
  have HA := Lib.hid (as_calls a w h1)
  have HB2 := Lib.hid (fun W (hb : Below w.heap.size w W) => as_calls b W (h2.below hb))
  have hl1 := set_len (asL_set a)
  have HS := Lib.hid (show cmpS a b = cmpL (asL a) (asL b) from rfl)
  rw [HS.out]
  obtain ⟨A1, c1, hv1⟩ := h1.form
  obtain ⟨A2, c2, hv2⟩ := h2.form
  subst hv1 hv2
  clear h1 h2
  generalize asL a = ta at *
  generalize asL b = tb at *
  go_enter Tryz.func62, Tryz.ntmps62
  go_wp2_with fail
  refine HA.out.mono ?_
  rintro e w1 ⟨va, rfl, hLa, hb1⟩
  have HB1 := Lib.hid hb1; have HLa := Lib.hid hLa
  obtain ⟨A3, c3, hv3⟩ := hLa.form
  subst hv3
  clear hb1 hLa
  go_wp2_with fail
  refine (HB2.out _ HB1.out).mono ?_
  rintro e w2 ⟨vb, rfl, hLb, hb2⟩
  have HC := Lib.hid (compareI_calls ta tb w2 (HLa.out.below hb2) hLb (by omega))
  have HB3 := Lib.hid (below_step HB1.out hb2)
  obtain ⟨A4, c4, hv4⟩ := hLb.form
  subst hv4
  clear hb2 hLb
  go_wp2_with fail
  refine HC.out.mono ?_
  rintro e w3 ⟨rfl, hb3⟩
  go_wp2_with fail
  go_ret
  exact ⟨rfl, below_step HB3.out hb3⟩
/-! ### the reference: Sub, Meet, Less -/
theorem allIn_drop {t : List Int} {k : Nat} (h : k < t.length) (b : List Int) : (t.drop k).all (fun x => inS x b) = (inS t[k] b && (t.drop (k + 1)).all (fun x => inS x b)) := by
  rw [List.drop_eq_getElem_cons h, List.all_cons]
theorem sub_all (a b : List Int) : subS a b = (asL a).all (fun x => inS x b) := by
  rw [Bool.eq_iff_iff, subS_iff, List.all_eq_true]
  unfold inS
  simp only [decide_eq_true_eq]
set_option maxRecDepth 100000 in
set_option maxHeartbeats 8000000 in
theorem Sub_ref {v1 v2 : Value} (a b : List Int) (w : World) (h1 : LstI w v1 a) (h2 : LstI w v2 b) :
    Calls Tryz.prog 67 #[v1, v2] w fun e w' => e = .returned (.bool (subS a b)) ∧ Below w.heap.size w w' := by
  have HT := Lib.hid (Taken4_ref a w h1)
  have HI := Lib.hid (fun x W (hb : Below w.heap.size w W) => In_ref x b W (h2.below hb))
  have hl := set_len (asL_set a)
  rw [sub_all]
  obtain ⟨A1, c1, hv1⟩ := h1.form
  obtain ⟨A2, c2, hv2⟩ := h2.form
  subst hv1 hv2
  clear h1 h2
  generalize asL a = t at *
  obtain ⟨res, hres⟩ : ∃ r, t.all (fun x => inS x b) = r := ⟨_, rfl⟩
  rw [hres]
  have HRES := Lib.hid hres
  clear hres
  go_enter Tryz.func67, Tryz.ntmps67
  go_wp2_with fail
  refine HT.out.mono ?_
  rintro e w1 ⟨va, rfl, hLa, hb1⟩
  have HB1 := Lib.hid hb1; have HLa := Lib.hid hLa
  obtain ⟨A3, c3, hv3⟩ := hLa.form
  subst hv3
  clear hb1 hLa
  generalize hm : t.length = m at *
  have HM := Lib.hid hm
  clear hm
  go_wp2_with fail
  go_loopw [5] (fun i wr => ∃ k : Nat, i = .int .i64 k ∧ k ≤ m ∧ Hid ((t.drop k).all (fun x => inS x b) = res) ∧ Hid (Below w1.heap.size w1 wr))
    (fun i _ => m - (intOf i).toNat)
  case atStart => exact ⟨0, rfl, Nat.zero_le _, Lib.hid HRES.out, Lib.hid (Below.refl _ _)⟩
  case round =>
    obtain ⟨k, rfl, hk, hR, hB⟩ := hrel
    by_cases hkm : k < m
    · have hkt : k < t.length := by rw [HM.out]; exact hkm
      have hLw : LstI wr (.slice A3 m c3) t := HLa.out.below hB.out
      obtain ⟨ad, hA, x0⟩ := hLw.at k hkt
      subst hA
      clear hLw
      have HST := Lib.hid ((allIn_drop hkt b).symm.trans hR.out)
      generalize t[k] = x at *
      have hix := fun W => indexI_at ad m c3 (k : Nat) (by omega) W
      simp only [Int.toNat_natCast] at hix
      have HX := Lib.hid (HI.out x wr (below_step HB1.out hB.out))
      cases hx : inS x b with
      | true =>
        rw [hx] at HX HST
        clear hx
        go_wp2_with fail
        refine HX.out.mono ?_
        rintro e w2 ⟨rfl, hb2⟩
        have HQ := Lib.hid (below_step hB.out hb2)
        clear hb2 x0
        go_wp2_with fail
        refine ⟨⟨k + 1, by rw [Int.natCast_add]; rfl, by omega, Lib.hid (by have := HST.out; rw [Bool.true_and] at this; exact this), HQ⟩, by simp [intOf]; omega⟩
      | false =>
        rw [hx] at HX HST
        clear hx
        have hr : res = false := by have := HST.out; rw [Bool.false_and] at this; exact this.symm
        go_wp2_with fail
        refine HX.out.mono ?_
        rintro e w2 ⟨rfl, hb2⟩
        clear x0
        go_wp2_with fail
        go_ret
        rw [hr]
        exact ⟨rfl, below_step HB1.out (below_step hB.out hb2)⟩
    · obtain rfl : k = m := by omega
      have hr : res = true := by rw [← hR.out, List.drop_eq_nil_of_le (by rw [HM.out]; exact Nat.le_refl _)]; rfl
      go_wp2_with fail
      go_ret
      rw [hr]
      exact ⟨rfl, below_step HB1.out hB.out⟩
theorem filt_take {t : List Int} {k : Nat} (hk : k < t.length) (p : Int → Bool) : (t.take (k + 1)).filter p = (t.take k).filter p ++ if p t[k] = true then [t[k]] else [] := by
  rw [List.take_succ_eq_append_getElem hk, List.filter_append]
  congr 1
  by_cases h : p t[k] = true
  · rw [if_pos h, List.filter_cons_of_pos h]
    rfl
  · rw [if_neg h, List.filter_cons_of_neg h]
    rfl
set_option maxRecDepth 100000 in
set_option maxHeartbeats 8000000 in
theorem Meet_ref {v1 v2 : Value} (a b : List Int) (w : World) (h1 : LstI w v1 a) (h2 : LstI w v2 b) :
    Calls Tryz.prog 55 #[v1, v2] w fun e w' => ∃ v', e = .returned v' ∧ RowI w' w.heap.size v' (meetS a b) ∧ Below w.heap.size w w' := by
  obtain ⟨i0, hi0, hz0, hz1, hz2⟩ := info_parts infoI
  have HT := Lib.hid (Taken4_ref a w h1)
  have HI := Lib.hid (fun x W (hb : Below w.heap.size w W) => In_ref x b W (h2.below hb))
  have hl := set_len (asL_set a)
  have HR : Hid ((asL a).filter (fun v => inS v b) = meetS a b) := Lib.hid (meet_filter a b)
  obtain ⟨A1, c1, hv1⟩ := h1.form
  obtain ⟨A2, c2, hv2⟩ := h2.form
  subst hv1 hv2
  clear h1 h2
  generalize meetS a b = R at *
  generalize asL a = t at *
  go_enter Tryz.func55, Tryz.ntmps55
  go_wp2_with fail
  refine HT.out.mono ?_
  rintro e w1 ⟨va, rfl, hLa, hb1⟩
  have HB1 := Lib.hid hb1; have HLa := Lib.hid hLa
  obtain ⟨A3, c3, hv3⟩ := hLa.form
  subst hv3
  clear hb1 hLa
  generalize hm : t.length = m at *
  have HM := Lib.hid hm
  clear hm
  go_wp2_with fail
  go_loopw [5, 6] (fun o i wr => ∃ (k : Nat) (out : List Int), i = .int .i64 k ∧ k ≤ m ∧ out.length ≤ k ∧ Hid ((t.take k).filter (fun v => inS v b) = out) ∧ Hid (RowI wr w1.heap.size o out) ∧ Hid (Below w1.heap.size w1 wr))
    (fun _ i _ => m - (intOf i).toNat)
  case atStart => exact ⟨0, [], rfl, Nat.zero_le _, Nat.zero_le _, Lib.hid rfl, Lib.hid (RowI.nil _ _), Lib.hid (Below.refl _ _)⟩
  case round =>
    obtain ⟨k, out, rfl, hk, hol, hF, hO, hB⟩ := hrel
    obtain ⟨A0, c0, rfl, _⟩ := hO.out.form
    by_cases hkm : k < m
    · have hkt : k < t.length := by rw [HM.out]; exact hkm
      have hLw : LstI wr (.slice A3 m c3) t := HLa.out.below hB.out
      obtain ⟨ad, hA, x0⟩ := hLw.at k hkt
      subst hA
      clear hLw
      have HST := Lib.hid (filt_take hkt (fun v => inS v b))
      have HII := Lib.hid (show (fun v => inS v b) t[k] = inS t[k] b from rfl)
      generalize t[k] = x at *
      have hix := fun W => indexI_at ad m c3 (k : Nat) (by omega) W
      simp only [Int.toNat_natCast] at hix
      have HX := Lib.hid (HI.out x wr (below_step HB1.out hB.out))
      have HCELL := Lib.hid (fun W (hb : Below wr.heap.size wr W) => (hb.cell (World.block_lt_of_cell? wr _ x0)).trans x0)
      cases hx : inS x b with
      | true =>
        rw [hx] at HX HII
        clear hx
        go_wp2_with fail
        refine HX.out.mono ?_
        rintro e w2 ⟨rfl, hb2⟩
        have hQ1 := Lib.hid (hO.out.below hb2); have hQ2 := Lib.hid (below_step hB.out hb2)
        have x1 := HCELL.out _ hb2
        have hsz2 := hQ2.out.size
        clear hb2 x0
        go_wp2_with ((with_reducible refine gate_dst (N := 27) rfl ?_); refine wpList_append_own _ rfl _ _ 50 rfl w1.heap.size 2 i0 _ 1 8 Tryz.underlying50 hi0 hz0 hz1 hz2 rfl (by decide) _ _ _ rfl ((RowI.own hQ1.out).alloc _) ⟨_, 0, none⟩ 1 1 [.int .i64 x] rfl rfl (cell_one_at _ _ (by simp) _ _) (by simp [Value.oneCell']) (by simp only [maxLen]; omega) (by omega) (by first | omega | (simp; omega)) ?_; intro v' w4 hown' hgrow _; obtain ⟨q1, q2⟩ := hQ1.out.pushed hown' hgrow (by first | omega | (simp; omega)); have hQ3 := Lib.hid q1; have hQ4 := Lib.hid (hQ2.out.trans q2); clear hown' hgrow q1 q2)
        refine ⟨⟨k + 1, out ++ [x], by rw [Int.natCast_add]; rfl, by omega, by rw [List.length_append, List.length_singleton]; omega, Lib.hid (by rw [HST.out, if_pos (show inS x b = true from HII.out), hF.out]), hQ3, hQ4⟩, by simp [intOf]; omega⟩
      | false =>
        rw [hx] at HX HII
        clear hx
        go_wp2_with fail
        refine HX.out.mono ?_
        rintro e w2 ⟨rfl, hb2⟩
        have hQ1 := Lib.hid (hO.out.below hb2); have hQ2 := Lib.hid (below_step hB.out hb2)
        clear hb2 x0
        go_wp2_with fail
        refine ⟨⟨k + 1, out, by rw [Int.natCast_add]; rfl, by omega, by omega, Lib.hid (by rw [HST.out, if_neg (by rw [HII.out]; decide), hF.out, List.append_nil]), hQ1, hQ2⟩, by simp [intOf]; omega⟩
    · obtain rfl : k = m := by omega
      have HE : Hid (out = R) := Lib.hid (by rw [← hF.out, List.take_of_length_le (by rw [HM.out]; exact Nat.le_refl _), HR.out])
      go_wp2_with fail
      go_ret
      refine ⟨_, rfl, ?_, below_step HB1.out hB.out⟩
      rw [← HE.out]
      exact hO.out.lower HB1.out.size
set_option maxRecDepth 100000 in
set_option maxHeartbeats 8000000 in
theorem Less_ref {v1 v2 : Value} (a b : List Int) (w : World) (h1 : LstI w v1 a) (h2 : LstI w v2 b) :
    Calls Tryz.prog 56 #[v1, v2] w fun e w' => ∃ v', e = .returned v' ∧ RowI w' w.heap.size v' (lessI a b) ∧ Below w.heap.size w w' := by
  obtain ⟨i0, hi0, hz0, hz1, hz2⟩ := info_parts infoI
  have HT := Lib.hid (Taken4_ref a w h1)
  have HI := Lib.hid (fun x W (hb : Below w.heap.size w W) => In_ref x b W (h2.below hb))
  have hl := set_len (asL_set a)
  have HR : Hid ((asL a).filter (fun v => !inS v b) = lessI a b) := Lib.hid (less_filter a b)
  obtain ⟨A1, c1, hv1⟩ := h1.form
  obtain ⟨A2, c2, hv2⟩ := h2.form
  subst hv1 hv2
  clear h1 h2
  generalize lessI a b = R at *
  generalize asL a = t at *
  go_enter Tryz.func56, Tryz.ntmps56
  go_wp2_with fail
  refine HT.out.mono ?_
  rintro e w1 ⟨va, rfl, hLa, hb1⟩
  have HB1 := Lib.hid hb1; have HLa := Lib.hid hLa
  obtain ⟨A3, c3, hv3⟩ := hLa.form
  subst hv3
  clear hb1 hLa
  generalize hm : t.length = m at *
  have HM := Lib.hid hm
  clear hm
  go_wp2_with fail
  go_loopw [5, 6] (fun o i wr => ∃ (k : Nat) (out : List Int), i = .int .i64 k ∧ k ≤ m ∧ out.length ≤ k ∧ Hid ((t.take k).filter (fun v => !inS v b) = out) ∧ Hid (RowI wr w1.heap.size o out) ∧ Hid (Below w1.heap.size w1 wr))
    (fun _ i _ => m - (intOf i).toNat)
  case atStart => exact ⟨0, [], rfl, Nat.zero_le _, Nat.zero_le _, Lib.hid rfl, Lib.hid (RowI.nil _ _), Lib.hid (Below.refl _ _)⟩
  case round =>
    obtain ⟨k, out, rfl, hk, hol, hF, hO, hB⟩ := hrel
    obtain ⟨A0, c0, rfl, _⟩ := hO.out.form
    by_cases hkm : k < m
    · have hkt : k < t.length := by rw [HM.out]; exact hkm
      have hLw : LstI wr (.slice A3 m c3) t := HLa.out.below hB.out
      obtain ⟨ad, hA, x0⟩ := hLw.at k hkt
      subst hA
      clear hLw
      have HST := Lib.hid (filt_take hkt (fun v => !inS v b))
      have HII := Lib.hid (show (fun v => !inS v b) t[k] = !inS t[k] b from rfl)
      generalize t[k] = x at *
      have hix := fun W => indexI_at ad m c3 (k : Nat) (by omega) W
      simp only [Int.toNat_natCast] at hix
      have HX := Lib.hid (HI.out x wr (below_step HB1.out hB.out))
      have HCELL := Lib.hid (fun W (hb : Below wr.heap.size wr W) => (hb.cell (World.block_lt_of_cell? wr _ x0)).trans x0)
      cases hx : inS x b with
      | false =>
        rw [hx] at HX HII
        clear hx
        go_wp2_with fail
        refine HX.out.mono ?_
        rintro e w2 ⟨rfl, hb2⟩
        have hQ1 := Lib.hid (hO.out.below hb2); have hQ2 := Lib.hid (below_step hB.out hb2)
        have x1 := HCELL.out _ hb2
        have hsz2 := hQ2.out.size
        clear hb2 x0
        go_wp2_with ((with_reducible refine gate_dst (N := 28) rfl ?_); refine wpList_append_own _ rfl _ _ 50 rfl w1.heap.size 2 i0 _ 1 8 Tryz.underlying50 hi0 hz0 hz1 hz2 rfl (by decide) _ _ _ rfl ((RowI.own hQ1.out).alloc _) ⟨_, 0, none⟩ 1 1 [.int .i64 x] rfl rfl (cell_one_at _ _ (by simp) _ _) (by simp [Value.oneCell']) (by simp only [maxLen]; omega) (by omega) (by first | omega | (simp; omega)) ?_; intro v' w4 hown' hgrow _; obtain ⟨q1, q2⟩ := hQ1.out.pushed hown' hgrow (by first | omega | (simp; omega)); have hQ3 := Lib.hid q1; have hQ4 := Lib.hid (hQ2.out.trans q2); clear hown' hgrow q1 q2)
        refine ⟨⟨k + 1, out ++ [x], by rw [Int.natCast_add]; rfl, by omega, by rw [List.length_append, List.length_singleton]; omega, Lib.hid (by rw [HST.out, if_pos (show (!inS x b) = true from HII.out), hF.out]), hQ3, hQ4⟩, by simp [intOf]; omega⟩
      | true =>
        rw [hx] at HX HII
        clear hx
        go_wp2_with fail
        refine HX.out.mono ?_
        rintro e w2 ⟨rfl, hb2⟩
        have hQ1 := Lib.hid (hO.out.below hb2); have hQ2 := Lib.hid (below_step hB.out hb2)
        clear hb2 x0
        go_wp2_with fail
        refine ⟨⟨k + 1, out, by rw [Int.natCast_add]; rfl, by omega, by omega, Lib.hid (by rw [HST.out, if_neg (by rw [HII.out]; decide), hF.out, List.append_nil]), hQ1, hQ2⟩, by simp [intOf]; omega⟩
    · obtain rfl : k = m := by omega
      have HE : Hid (out = R) := Lib.hid (by rw [← hF.out, List.take_of_length_le (by rw [HM.out]; exact Nat.le_refl _), HR.out])
      go_wp2_with fail
      go_ret
      refine ⟨_, rfl, ?_, below_step HB1.out hB.out⟩
      rw [← HE.out]
      exact hO.out.lower HB1.out.size

end Go.Proofs.YtjeomiooheoegaaGreatDoor.PD

namespace Go.Proofs.YtjeomiooheoegaaGreatDoor.PD
open Go.RowKit Go.Proofs.YtjeomiooheoegaaGreatDoorW.PrintWords Go.Proofs.YtjeomiooheoegaaGreatDoorW.PrintLast Go.Proofs.YtjeomiooheoegaaGreatDoorW.PrintMore
set_option linter.unusedVariables false
set_option linter.unusedSimpArgs false
/-! ### the reference: put, Join, Sym, Cmp -/
theorem put_at {l : List Int} {x : Int} {k : Nat} (hs : Ris l) (hk : k ≤ l.length) (h1 : ∀ j (h : j < l.length), k ≤ j → x < l[j]) (h2 : ∀ h : k - 1 < l.length, 0 < k → l[k - 1] ≤ x) : l.take k ++ [x] ++ l.drop k = putI l x := by
  have e : l = l.take k ++ l.drop k := (List.take_append_drop k l).symm
  have t1 : ∀ y ∈ l.take k, y ≤ x := by
    intro y hy
    obtain ⟨j, hj, rfl⟩ := List.mem_take_iff_getElem.1 hy
    by_cases q : j = k - 1
    · subst q
      exact h2 (by omega) (by omega)
    · have := List.pairwise_iff_getElem.1 hs j (k - 1) (by omega) (by omega) (by omega)
      have := h2 (by omega) (by omega)
      omega
  have t2 : (l.drop k).takeWhile (fun y => decide (y ≤ x)) = [] ∧ (l.drop k).dropWhile (fun y => decide (y ≤ x)) = l.drop k := by
    rcases hd : l.drop k with _ | ⟨y, t⟩
    · exact ⟨rfl, rfl⟩
    · have hkl : k < l.length := by
        refine Classical.byContradiction fun q => ?_
        rw [List.drop_eq_nil_of_le (by omega)] at hd
        cases hd
      rw [List.drop_eq_getElem_cons hkl] at hd
      injection hd with hy _
      have := h1 k hkl (Nat.le_refl _)
      rw [List.takeWhile_cons_of_neg (by simp; omega), List.dropWhile_cons_of_neg (by simp; omega)]
      exact ⟨rfl, rfl⟩
  unfold putI
  have e1 : l.takeWhile (fun y => decide (y ≤ x)) = l.take k := by
    rw [e, List.takeWhile_append_of_pos (fun y hy => by simpa using t1 y hy), t2.1, List.append_nil]
    simp
  have e2 : l.dropWhile (fun y => decide (y ≤ x)) = l.drop k := by
    rw [e, List.dropWhile_append_of_pos (fun y hy => by simpa using t1 y hy), t2.2]
    simp
  rw [e1, e2]
theorem C_reads {w : World} {A : Option Addr} {n : Nat} {l : List Int} (h : Kd.C (Kd.int .i64) w A n l) : ReadsOf (Value.int .i64) 0 w A n l := Kd.reads_of_C h
set_option maxRecDepth 100000 in
set_option maxHeartbeats 8000000 in
theorem put_ref {v : Value} (l : List Int) (x : Int) (w : World) (h : LstI w v l) (hs : Ris l) (hl : l.length ≤ 1000000) :
    Calls Tryz.prog 130 #[v, .int .i64 x] w fun e w' => ∃ v', e = .returned v' ∧ RowI w' w.heap.size v' (putI l x) ∧ Below w.heap.size w w' := by
  obtain ⟨i0, hi0, hz0, hz1, hz2⟩ := info_parts infoI
  have HL := Lib.hid h
  obtain ⟨A, c, rfl, hC, hc⟩ := h
  have HC := Lib.hid hC
  have HS := Lib.hid hs
  obtain ⟨R, hR⟩ : ∃ R, putI l x = R := ⟨_, rfl⟩
  rw [hR]
  have HR := Lib.hid hR
  clear hC hR hs
  generalize hm : l.length = m at *
  have HM := Lib.hid hm
  clear hm
  go_enter Tryz.func130, Tryz.ntmps130
  go_wp2_with fail
  go_loopw [5] (fun i wr => ∃ k : Nat, i = .int .i64 k ∧ k ≤ m ∧ Hid (∀ j (h : j < l.length), k ≤ j → x < l[j]) ∧ wr = w)
    (fun i _ => (intOf i).toNat)
  case atStart => exact ⟨m, rfl, Nat.le_refl _, Lib.hid (fun j h1 h2 => by have := HM.out; omega), rfl⟩
  case round =>
    obtain ⟨k, rfl, hk, hX, rfl⟩ := hrel
    have hfin : ∀ (_ : ∀ h : k - 1 < l.length, 0 < k → l[k - 1] ≤ x), l.take k ++ [x] ++ l.drop k = R := fun h2 => (put_at HS.out (by rw [HM.out]; exact hk) hX.out h2).trans HR.out
    have HFIN := Lib.hid hfin
    clear hfin
    by_cases hgo : 0 < k ∧ ∃ h : k - 1 < l.length, x < l[k - 1]
    · obtain ⟨h0, hkl, hgt⟩ := hgo
      obtain ⟨ad, hA, x0⟩ := HL.out.at (k - 1) hkl
      subst hA
      have HNX : Hid (∀ j (h : j < l.length), k - 1 ≤ j → x < l[j]) := Lib.hid (fun j h hj => by
        by_cases q : j = k - 1
        · subst q; exact hgt
        · exact hX.out j h (by omega))
      generalize l[k - 1] = y at *
      have hix := fun W => indexI_at ad m c ((k : Int) - 1) (by omega) W
      rw [show ((k : Int) - 1).toNat = k - 1 by omega] at hix
      have hw : IntKind.i64.wrap ((k : Int) - 1) = (k : Int) - 1 := IntWalk.i64_in _ (by omega)
      have hg1 : decide ((k : Int) > 0) = true := decide_eq_true (by omega)
      have hg2 : decide (0 < k) = true := decide_eq_true h0
      have hgy : decide (x < y) = true := decide_eq_true hgt
      go_wp2_with fail
      refine ⟨⟨k - 1, by congr 1; omega, by omega, HNX, by first | rfl | trivial⟩, by simp [intOf]; omega⟩
    · have hle : ∀ h : k - 1 < l.length, 0 < k → l[k - 1] ≤ x := fun h h0 => by
        refine Classical.byContradiction fun q => hgo ⟨h0, h, by omega⟩
      have HF := Lib.hid (HFIN.out hle)
      have hkl : k ≤ l.length := by rw [HM.out]; exact hk
      obtain ⟨hcut, hTA, hTC⟩ := print_take_of (P := Tryz.prog) (Value.int .i64) 0 50 2 .i64 Tryz.underlying50 hi0 hz1 A c l (k : Int) (by omega) (by omega) (by rw [HM.out]; exact hc)
      obtain ⟨A', hdrop, hDA, hDC⟩ := print_drop_of (P := Tryz.prog) (Value.int .i64) 0 50 2 .i64 Tryz.underlying50 hi0 hz1 A c l (k : Int) (by omega) (by omega) (by rw [HM.out]; exact hc)
      simp only [Int.toNat_natCast] at hcut hdrop hTA hDA hTC hDC
      have HT1 : Hid (Kd.C (Kd.int .i64) wr A (l.take k).length (l.take k)) := Lib.hid (Kd.C_of_reads (h1 := fun _ => rfl) (hTA _ (by have := HC.out; rw [← HM.out] at this; exact C_reads this)))
      have HD1 : Hid (Kd.C (Kd.int .i64) wr A' (l.drop k).length (l.drop k)) := Lib.hid (Kd.C_of_reads (h1 := fun _ => rfl) (hDA _ (by have := HC.out; rw [← HM.out] at this; exact C_reads this)))
      have ek : (l.take k).length = k := by rw [List.length_take]; omega
      have em : (l.drop k).length = m - k := by rw [List.length_drop, HM.out]
      rw [ek] at hcut HT1
      rw [em] at hdrop HD1
      clear hTA hDA hTC hDC
      rw [HM.out] at hcut hdrop
      obtain ⟨t1, e1⟩ : ∃ t, l.take k = t := ⟨_, rfl⟩
      obtain ⟨t2, e2⟩ : ∃ t, l.drop k = t := ⟨_, rfl⟩
      rw [e1] at HT1 HF ek
      rw [e2] at HD1 HF em
      have HEK := Lib.hid ek
      have HE2 := Lib.hid e2
      clear e1 e2 ek em
      by_cases h0 : 0 < k
      · have hk1 : k - 1 < l.length := by omega
        obtain ⟨ad, hA, x0⟩ := HL.out.at (k - 1) hk1
        have hly := hle hk1 h0
        subst hA
        clear hle hgo HFIN
        generalize l[k - 1] = y at *
        have hix := fun W => indexI_at ad m c ((k : Int) - 1) (by omega) W
        rw [show ((k : Int) - 1).toNat = k - 1 by omega] at hix
        have hw : IntKind.i64.wrap ((k : Int) - 1) = (k : Int) - 1 := IntWalk.i64_in _ (by omega)
        have hg1 : decide ((k : Int) > 0) = true := decide_eq_true (by omega)
        have hg2 : decide (0 < k) = true := decide_eq_true h0
        have hgy : decide (x < y) = false := decide_eq_false (by omega)
        go_wp2_with (first
          | ((with_reducible refine gate_builtin (b := .append) (xs := #[.tmp 22, .tmp 25]) rfl ?_); at_builtin; refine appendI_lst (w0 := wr) wr.heap.size rfl (.tmp 22) (.tmp 25) rfl _ [] t1 _ _ _ rfl rfl (RowI.nil _ _) HT1.out (Below.refl _ _) (Nat.le_refl _) (by simp only [List.length_nil]; omega) ?_; intro v6 w6 hO6 hb6; rw [List.nil_append] at hO6; obtain ⟨A6, c6, hv6, _⟩ := hO6.form; subst hv6; have HO6 := Lib.hid hO6; have HB6 := Lib.hid hb6; clear hO6 hb6)
          | ((with_reducible refine gate_dst (N := 30) rfl ?_); refine wpList_append_own _ rfl _ _ 50 rfl wr.heap.size 2 i0 _ 1 8 Tryz.underlying50 hi0 hz0 hz1 hz2 rfl (by decide) _ _ _ rfl ((RowI.own HO6.out).alloc _) ⟨_, 0, none⟩ 1 1 [.int .i64 x] rfl rfl (cell_one_at _ _ (by simp) _ _) (by simp [Value.oneCell']) (by have := HEK.out; simp only [maxLen]; omega) (by have := HEK.out; omega) (by have := HB6.out.size; simp; omega) ?_; intro v7 w7 hown' hgrow _; obtain ⟨q1, q2⟩ := HO6.out.pushed hown' hgrow HB6.out.size; obtain ⟨A7, c7, hv7, _⟩ := q1.form; rw [List.length_append, List.length_singleton] at hv7; subst hv7; have HO7 := Lib.hid q1; have HB7 := Lib.hid (HB6.out.trans q2); clear hown' hgrow q1 q2)
          | ((with_reducible refine gate_builtin (b := .append) (xs := #[.tmp 31, .tmp 34]) rfl ?_); at_builtin; refine appendI_lst (w0 := wr) wr.heap.size rfl (.tmp 31) (.tmp 34) rfl _ (t1 ++ [x]) t2 _ _ _ rfl rfl HO7.out (Kd.C_below HD1.out HB7.out) HB7.out HB7.out.size (by have := HEK.out; simp only [List.length_append, List.length_singleton]; omega) ?_; intro v8 w8 hO8 hb8; have HO8 := Lib.hid hO8; have HB8 := Lib.hid hb8; clear hO8 hb8))
        go_ret
        exact ⟨_, rfl, (by rw [← HF.out]; exact HO8.out), HB8.out⟩
      · obtain rfl : k = 0 := by omega
        clear hle hgo HFIN
        have HD0 : Hid (Kd.C (Kd.int .i64) wr A m t2) := Lib.hid (by have h2 := HE2.out; rw [List.drop_zero] at h2; rw [← h2]; exact HC.out)
        go_wp2_with (first
          | ((with_reducible refine gate_builtin (b := .append) (xs := #[.tmp 22, .tmp 25]) rfl ?_); at_builtin; refine appendI_lst (w0 := wr) wr.heap.size rfl (.tmp 22) (.tmp 25) rfl _ [] t1 _ _ _ rfl rfl (RowI.nil _ _) HT1.out (Below.refl _ _) (Nat.le_refl _) (by simp only [List.length_nil]; omega) ?_; intro v6 w6 hO6 hb6; rw [List.nil_append] at hO6; obtain ⟨A6, c6, hv6, _⟩ := hO6.form; subst hv6; have HO6 := Lib.hid hO6; have HB6 := Lib.hid hb6; clear hO6 hb6)
          | ((with_reducible refine gate_dst (N := 30) rfl ?_); refine wpList_append_own _ rfl _ _ 50 rfl wr.heap.size 2 i0 _ 1 8 Tryz.underlying50 hi0 hz0 hz1 hz2 rfl (by decide) _ _ _ rfl ((RowI.own HO6.out).alloc _) ⟨_, 0, none⟩ 1 1 [.int .i64 x] rfl rfl (cell_one_at _ _ (by simp) _ _) (by simp [Value.oneCell']) (by have := HEK.out; simp only [maxLen]; omega) (by have := HEK.out; omega) (by have := HB6.out.size; simp; omega) ?_; intro v7 w7 hown' hgrow _; obtain ⟨q1, q2⟩ := HO6.out.pushed hown' hgrow HB6.out.size; obtain ⟨A7, c7, hv7, _⟩ := q1.form; rw [List.length_append, List.length_singleton] at hv7; subst hv7; have HO7 := Lib.hid q1; have HB7 := Lib.hid (HB6.out.trans q2); clear hown' hgrow q1 q2)
          | ((with_reducible refine gate_builtin (b := .append) (xs := #[.tmp 31, .tmp 34]) rfl ?_); at_builtin; refine appendI_lst (w0 := wr) wr.heap.size rfl (.tmp 31) (.tmp 34) rfl _ (t1 ++ [x]) t2 _ _ _ rfl rfl HO7.out (Kd.C_below HD0.out HB7.out) HB7.out HB7.out.size (by have := HEK.out; simp only [List.length_append, List.length_singleton]; omega) ?_; intro v8 w8 hO8 hb8; have HO8 := Lib.hid hO8; have HB8 := Lib.hid hb8; clear hO8 hb8))
        go_ret
        exact ⟨_, rfl, (by rw [← HF.out]; exact HO8.out), HB8.out⟩

end Go.Proofs.YtjeomiooheoegaaGreatDoor.PD

namespace Go.Proofs.YtjeomiooheoegaaGreatDoor.PD
open Go.RowKit Go.Proofs.YtjeomiooheoegaaGreatDoorW.PrintWords Go.Proofs.YtjeomiooheoegaaGreatDoorW.PrintLast Go.Proofs.YtjeomiooheoegaaGreatDoorW.PrintMore
set_option linter.unusedVariables false
set_option linter.unusedSimpArgs false
/-! ### the reference: Join, Sym, Cmp -/
theorem putI_len (l : List Int) (v : Int) : (putI l v).length = l.length + 1 := by
  unfold putI
  have h := congrArg List.length (List.takeWhile_append_dropWhile (p := fun x => decide (x ≤ v)) (l := l))
  rw [List.length_append] at h
  rw [List.length_append, List.length_append, List.length_singleton]
  omega
theorem puts_len : ∀ (l a : List Int), (l.foldl putI a).length = a.length + l.length
  | [], a => rfl
  | v :: t, a => by
    rw [List.foldl_cons, puts_len t, putI_len, List.length_cons]
    omega
theorem puts_take {l : List Int} {k : Nat} (h : k < l.length) (a : List Int) : (l.take (k + 1)).foldl putI a = putI ((l.take k).foldl putI a) l[k] := by
  rw [List.take_succ_eq_append_getElem h, List.foldl_append]
  rfl
/-- lists put together one by one -/
structure Puts (a l R : List Int) : Prop where
  rs : Ris a
  nd : l.Nodup
  dj : ∀ x ∈ l, x ∉ a
  al : a.length ≤ 128
  ll : l.length ≤ 128
  eq : l.foldl putI a = R
theorem Puts.ris {a l R : List Int} (h : Puts a l R) (k : Nat) : Ris ((l.take k).foldl putI a) := puts_ris _ _ h.rs (h.nd.sublist (List.take_sublist _ _)) (fun x hx => h.dj x (List.mem_of_mem_take hx))
theorem Puts.step {a l R out : List Int} (h : Puts a l R) {k : Nat} (hk : k < l.length) (hF : (l.take k).foldl putI a = out) : Ris out ∧ out.length ≤ 1000000 ∧ (l.take (k + 1)).foldl putI a = putI out l[k] := by
  subst hF
  refine ⟨h.ris k, ?_, puts_take hk a⟩
  rw [puts_len, List.length_take]
  have := h.al
  have := h.ll
  omega
theorem Puts.done {a l R out : List Int} (h : Puts a l R) {k : Nat} (hk : l.length = k) (hF : (l.take k).foldl putI a = out) : out = R := by
  rw [← hF, List.take_of_length_le (by omega)]
  exact h.eq
def Upto (a l : List Int) (k : Nat) (out : List Int) : Prop := (l.take k).foldl putI a = out
theorem puts_join (a b : List Int) : Puts (asL a) (lessI b a) (joinS a b) where
  rs := set_ris (asL_set a)
  nd := ris_nodup (pickS_ris _ _ _)
  dj := fun x hx => ((lessI_mem b a x).1 hx).2
  al := by have := set_len (asL_set a); omega
  ll := pickS_len _ _ _
  eq := join_puts a b
theorem puts_sym (a b : List Int) : Puts (lessI a b) (lessI b a) (symS a b) where
  rs := pickS_ris _ _ _
  nd := ris_nodup (pickS_ris _ _ _)
  dj := fun x hx hm => ((lessI_mem b a x).1 hx).2 ((lessI_mem a b x).1 hm).1
  al := pickS_len _ _ _
  ll := pickS_len _ _ _
  eq := sym_puts a b
set_option maxRecDepth 100000 in
set_option maxHeartbeats 8000000 in
theorem Join_ref {v1 v2 : Value} (a b : List Int) (w : World) (h1 : LstI w v1 a) (h2 : LstI w v2 b) :
    Calls Tryz.prog 54 #[v1, v2] w fun e w' => ∃ v', e = .returned v' ∧ RowI w' w.heap.size v' (joinS a b) ∧ Below w.heap.size w w' := by
  have HT := Lib.hid (Taken4_ref a w h1)
  have HL := Lib.hid (fun W (hb : Below w.heap.size w W) => Less_ref b a W (h2.below hb) (h1.below hb))
  have HP := Lib.hid (puts_join a b)
  have hl := set_len (asL_set a)
  obtain ⟨A1, c1, hv1⟩ := h1.form
  obtain ⟨A2, c2, hv2⟩ := h2.form
  subst hv1 hv2
  clear h1 h2
  generalize joinS a b = R at *
  generalize asL a = t at *
  generalize lessI b a = l at *
  go_enter Tryz.func54, Tryz.ntmps54
  go_wp2_with fail
  refine HT.out.mono ?_
  rintro e w1 ⟨va, rfl, hLa, hb1⟩
  obtain ⟨Aa, ca, hva⟩ := hLa.form
  subst hva
  obtain ⟨Ax, cx, ex, hCx, _⟩ := hLa
  injection ex with ex1 ex2 ex3
  subst ex1 ex3
  clear ex2
  have HCa := Lib.hid hCx
  have HB1 := Lib.hid hb1
  clear hCx hb1
  go_wp2_with ((with_reducible refine gate_builtin (b := .append) (xs := #[.tmp 8, .tmp 10]) rfl ?_); at_builtin; refine appendI_lst (w0 := w) w.heap.size rfl (.tmp 8) (.tmp 10) rfl _ [] t _ _ _ rfl rfl (RowI.nil _ _) HCa.out HB1.out HB1.out.size (by simp only [List.length_nil]; omega) ?_; intro v2 w2 hO2 hb2; rw [List.nil_append] at hO2; obtain ⟨A2', c2', hv2, _⟩ := hO2.form; subst hv2; have HO2 := Lib.hid hO2; have HB2 := Lib.hid hb2; clear hO2 hb2)
  refine (HL.out _ HB2.out).mono ?_
  rintro e w3 ⟨v3, rfl, hO3, hb3⟩
  have HO := Lib.hid (HO2.out.below hb3)
  have HB3 := Lib.hid (HB2.out.trans (hb3.mono HB2.out.size))
  have HZ := Lib.hid HB3.out.size
  have HLb := Lib.hid hO3.lst
  obtain ⟨A3, c3, hv3, _⟩ := hO3.form
  subst hv3
  clear hO3 hb3 HO2 HB2
  have hml : l.length ≤ 128 := HP.out.ll
  generalize hm : l.length = m at *
  have HM := Lib.hid hm
  clear hm
  go_wp2_with fail
  go_loopw [5, 7] (fun o i wr => ∃ (k : Nat) (out : List Int), i = .int .i64 k ∧ k ≤ m ∧ Hid (Upto t l k out) ∧ Hid (RowI wr w.heap.size o out) ∧ Hid (Below w3.heap.size w3 wr))
    (fun _ i _ => m - (intOf i).toNat)
  case atStart => exact ⟨0, t, rfl, Nat.zero_le _, Lib.hid rfl, HO, Lib.hid (Below.refl _ _)⟩
  case round =>
    obtain ⟨k, out, rfl, hk, hF, hO, hB⟩ := hrel
    obtain ⟨A0, c0, rfl, _⟩ := hO.out.form
    by_cases hkm : k < m
    · have hkt : k < l.length := by rw [HM.out]; exact hkm
      have hLw : LstI wr (.slice A3 m c3) l := HLb.out.below hB.out
      obtain ⟨ad, hA, x0⟩ := hLw.at k hkt
      subst hA
      clear hLw
      obtain ⟨hris, hlen, hst⟩ := HP.out.step hkt hF.out
      have HF5 : Hid (Upto t l (k + 1) (putI out l[k])) := Lib.hid hst
      clear hst
      generalize l[k] = x at *
      have hix := fun W => indexI_at ad m c3 (k : Nat) (by omega) W
      simp only [Int.toNat_natCast] at hix
      have HX := Lib.hid (put_ref out x wr hO.out.lst hris hlen)
      clear hris hlen
      go_wp2_with fail
      refine HX.out.mono ?_
      rintro e w5 ⟨v5, rfl, hO5, hb5⟩
      have HO5 := Lib.hid (hO5.lower (Nat.le_trans HZ.out hB.out.size)); have HB5 := Lib.hid (below_step hB.out hb5)
      clear hO5 hb5 x0 HX
      generalize putI out x = out5 at *
      go_wp2_with fail
      refine ⟨⟨k + 1, out5, by rw [Int.natCast_add]; rfl, by omega, HF5, HO5, HB5⟩, by simp [intOf]; omega⟩
    · obtain rfl : k = m := by omega
      have HE : Hid (out = R) := Lib.hid (HP.out.done HM.out hF.out)
      go_wp2_with fail
      go_ret
      refine ⟨_, rfl, ?_, below_step HB3.out hB.out⟩
      rw [← HE.out]
      exact hO.out
set_option maxRecDepth 100000 in
set_option maxHeartbeats 8000000 in
theorem Sym_ref {v1 v2 : Value} (a b : List Int) (w : World) (h1 : LstI w v1 a) (h2 : LstI w v2 b) :
    Calls Tryz.prog 57 #[v1, v2] w fun e w' => ∃ v', e = .returned v' ∧ RowI w' w.heap.size v' (symS a b) ∧ Below w.heap.size w w' := by
  have HT := Lib.hid (Less_ref a b w h1 h2)
  have HL := Lib.hid (fun W (hb : Below w.heap.size w W) => Less_ref b a W (h2.below hb) (h1.below hb))
  have HP := Lib.hid (puts_sym a b)
  obtain ⟨A1, c1, hv1⟩ := h1.form
  obtain ⟨A2, c2, hv2⟩ := h2.form
  subst hv1 hv2
  clear h1 h2
  generalize symS a b = R at *
  generalize lessI a b = t at *
  generalize lessI b a = l at *
  go_enter Tryz.func57, Tryz.ntmps57
  go_wp2_with fail
  refine HT.out.mono ?_
  rintro e w2 ⟨va, rfl, hO2, hb2⟩
  obtain ⟨Aa, ca, hva, _⟩ := hO2.form
  subst hva
  have HO2 := Lib.hid hO2
  have HB2 := Lib.hid hb2
  clear hO2 hb2
  go_wp2_with fail
  refine (HL.out _ HB2.out).mono ?_
  rintro e w3 ⟨v3, rfl, hO3, hb3⟩
  have HO := Lib.hid (HO2.out.below hb3)
  have HB3 := Lib.hid (below_step HB2.out hb3)
  have HZ := Lib.hid HB3.out.size
  have HLb := Lib.hid hO3.lst
  obtain ⟨A3, c3, hv3, _⟩ := hO3.form
  subst hv3
  clear hO3 hb3 HO2 HB2
  have hml : l.length ≤ 128 := HP.out.ll
  generalize hm : l.length = m at *
  have HM := Lib.hid hm
  clear hm
  go_wp2_with fail
  go_loopw [5, 7] (fun o i wr => ∃ (k : Nat) (out : List Int), i = .int .i64 k ∧ k ≤ m ∧ Hid (Upto t l k out) ∧ Hid (RowI wr w.heap.size o out) ∧ Hid (Below w3.heap.size w3 wr))
    (fun _ i _ => m - (intOf i).toNat)
  case atStart => exact ⟨0, t, rfl, Nat.zero_le _, Lib.hid rfl, HO, Lib.hid (Below.refl _ _)⟩
  case round =>
    obtain ⟨k, out, rfl, hk, hF, hO, hB⟩ := hrel
    obtain ⟨A0, c0, rfl, _⟩ := hO.out.form
    by_cases hkm : k < m
    · have hkt : k < l.length := by rw [HM.out]; exact hkm
      have hLw : LstI wr (.slice A3 m c3) l := HLb.out.below hB.out
      obtain ⟨ad, hA, x0⟩ := hLw.at k hkt
      subst hA
      clear hLw
      obtain ⟨hris, hlen, hst⟩ := HP.out.step hkt hF.out
      have HF5 : Hid (Upto t l (k + 1) (putI out l[k])) := Lib.hid hst
      clear hst
      generalize l[k] = x at *
      have hix := fun W => indexI_at ad m c3 (k : Nat) (by omega) W
      simp only [Int.toNat_natCast] at hix
      have HX := Lib.hid (put_ref out x wr hO.out.lst hris hlen)
      clear hris hlen
      go_wp2_with fail
      refine HX.out.mono ?_
      rintro e w5 ⟨v5, rfl, hO5, hb5⟩
      have HO5 := Lib.hid (hO5.lower (Nat.le_trans HZ.out hB.out.size)); have HB5 := Lib.hid (below_step hB.out hb5)
      clear hO5 hb5 x0 HX
      generalize putI out x = out5 at *
      go_wp2_with fail
      refine ⟨⟨k + 1, out5, by rw [Int.natCast_add]; rfl, by omega, HF5, HO5, HB5⟩, by simp [intOf]; omega⟩
    · obtain rfl : k = m := by omega
      have HE : Hid (out = R) := Lib.hid (HP.out.done HM.out hF.out)
      go_wp2_with fail
      go_ret
      refine ⟨_, rfl, ?_, below_step HB3.out hB.out⟩
      rw [← HE.out]
      exact hO.out

end Go.Proofs.YtjeomiooheoegaaGreatDoor.PD

namespace Go.Proofs.YtjeomiooheoegaaGreatDoor.PD
open Go.RowKit Go.Proofs.YtjeomiooheoegaaGreatDoorW.PrintWords Go.Proofs.YtjeomiooheoegaaGreatDoorW.PrintLast Go.Proofs.YtjeomiooheoegaaGreatDoorW.PrintMore
set_option linter.unusedVariables false
set_option linter.unusedSimpArgs false
theorem cmpL_at {a b : List Int} {k : Nat} (ha : k < a.length) (hb : k < b.length) : cmpL (a.drop k) (b.drop k) = if a[k] < b[k] then -1 else if b[k] < a[k] then 1 else cmpL (a.drop (k + 1)) (b.drop (k + 1)) := by
  rw [List.drop_eq_getElem_cons ha, List.drop_eq_getElem_cons hb, cmpL]
theorem cmpL_end {a b : List Int} {k : Nat} (h : a.length ≤ k ∨ b.length ≤ k) (h1 : k ≤ a.length) (h2 : k ≤ b.length) : cmpL (a.drop k) (b.drop k) = if a.length < b.length then -1 else if b.length < a.length then 1 else 0 := by
  rcases h with h | h
  · rw [List.drop_eq_nil_of_le h]
    by_cases q : k < b.length
    · rw [List.drop_eq_getElem_cons q, if_pos (by omega)]
      rfl
    · rw [List.drop_eq_nil_of_le (by omega), if_neg (by omega), if_neg (by omega)]
      rfl
  · rw [List.drop_eq_nil_of_le h]
    by_cases q : k < a.length
    · rw [List.drop_eq_getElem_cons q, if_neg (by omega), if_pos (by omega)]
      rfl
    · rw [List.drop_eq_nil_of_le (by omega), if_neg (by omega), if_neg (by omega)]
      rfl
set_option maxRecDepth 100000 in
set_option maxHeartbeats 8000000 in
theorem Cmp_ref {v1 v2 : Value} (a b : List Int) (w : World) (h1 : LstI w v1 a) (h2 : LstI w v2 b) :
    Calls Tryz.prog 63 #[v1, v2] w fun e w' => e = .returned (.int .i64 (cmpS a b)) ∧ Below w.heap.size w w' := by
  have HA := Lib.hid (Taken4_ref a w h1)
  have HB2 := Lib.hid (fun W (hb : Below w.heap.size w W) => Taken4_ref b W (h2.below hb))
  have hl1 := set_len (asL_set a); have hl2 := set_len (asL_set b)
  obtain ⟨res, hres⟩ : ∃ r, cmpS a b = r := ⟨_, rfl⟩
  have HR : Hid (cmpL (asL a) (asL b) = res) := Lib.hid hres
  rw [hres]
  obtain ⟨A1, c1, hv1⟩ := h1.form
  obtain ⟨A2, c2, hv2⟩ := h2.form
  subst hv1 hv2
  clear h1 h2 hres
  generalize asL a = ta at *
  generalize asL b = tb at *
  go_enter Tryz.func63, Tryz.ntmps63
  go_wp2_with fail
  refine HA.out.mono ?_
  rintro e w1 ⟨va, rfl, hLa, hb1⟩
  have HB1 := Lib.hid hb1; have HLa := Lib.hid hLa
  obtain ⟨A3, c3, hv3⟩ := hLa.form
  subst hv3
  clear hb1 hLa
  go_wp2_with fail
  refine (HB2.out _ HB1.out).mono ?_
  rintro e w2 ⟨vb, rfl, hLb, hb2⟩
  have HLa2 := Lib.hid (HLa.out.below hb2)
  have HLb := Lib.hid hLb
  have HB3 := Lib.hid (below_step HB1.out hb2)
  obtain ⟨A4, c4, hv4⟩ := hLb.form
  subst hv4
  clear hb2 hLb HLa
  generalize hm : ta.length = m at *
  generalize hn : tb.length = n at *
  have HM := Lib.hid hm; have HN := Lib.hid hn
  clear hm hn
  go_wp2_with fail
  go_loopw [5] (fun i wr => ∃ k : Nat, i = .int .i64 k ∧ k ≤ m ∧ k ≤ n ∧ Hid (cmpL (ta.drop k) (tb.drop k) = res) ∧ Hid (Below w2.heap.size w2 wr))
    (fun i _ => m - (intOf i).toNat)
  case atStart => exact ⟨0, rfl, Nat.zero_le _, Nat.zero_le _, Lib.hid HR.out, Lib.hid (Below.refl _ _)⟩
  case round =>
    obtain ⟨k, rfl, hk, hk2, hR, hB⟩ := hrel
    by_cases hlt : k < m ∧ k < n
    · obtain ⟨hkm, hkn⟩ := hlt
      have hkt : k < ta.length := by rw [HM.out]; exact hkm
      have hku : k < tb.length := by rw [HN.out]; exact hkn
      have hL1 : LstI wr (.slice A3 m c3) ta := HLa2.out.below hB.out
      have hL2 : LstI wr (.slice A4 n c4) tb := HLb.out.below hB.out
      obtain ⟨ad, hA, x0⟩ := hL1.at k hkt
      obtain ⟨bd, hAb, y0⟩ := hL2.at k hku
      subst hA hAb
      have HST := Lib.hid ((cmpL_at hkt hku).symm.trans hR.out)
      have HCE := Lib.hid (fun W (hb : Below wr.heap.size wr W) => And.intro ((hb.cell (World.block_lt_of_cell? wr _ x0)).trans x0) ((hb.cell (World.block_lt_of_cell? wr _ y0)).trans y0))
      clear hL1 hL2
      generalize ta[k] = x at *
      generalize tb[k] = y at *
      have hix := fun W => indexI_at ad m c3 (k : Nat) (by omega) W
      have hiy := fun W => indexI_at bd n c4 (k : Nat) (by omega) W
      simp only [Int.toNat_natCast] at hix hiy
      have hg1 : decide ((k : Int) < (m : Int)) = true := decide_eq_true (by omega)
      have hg2 : decide ((k : Int) < (n : Int)) = true := decide_eq_true (by omega)
      by_cases h1 : x < y
      · have h1b : decide (x < y) = true := decide_eq_true h1
        have HH1 := Lib.hid h1
        clear h1
        go_wp2_with fail
        go_quiet (fail)
        go_wp2_with fail
        go_ret
        refine ⟨?_, below_step HB3.out (below_step hB.out (Drawn0.below (w' := World.drewN _ nq) ⟨⟨_, rfl⟩⟩))⟩
        rw [← HST.out, if_pos (by have := HH1.out; omega)]
        rfl
      · have h1b : decide (x < y) = false := decide_eq_false h1
        have HH1 := Lib.hid h1
        clear h1
        by_cases h2 : y < x
        · have h2b : decide (y < x) = true := decide_eq_true h2
          have HH2 := Lib.hid h2
          clear h2
          go_wp2_with fail
          go_quiet (fail)
          obtain ⟨z1, z2⟩ := HCE.out (World.drewN wr nq) (Drawn0.below (w' := World.drewN wr nq) ⟨⟨_, rfl⟩⟩)
          have HBQ := Lib.hid (below_step hB.out (Drawn0.below (w' := World.drewN wr nq) ⟨⟨_, rfl⟩⟩))
          generalize World.drewN wr nq = W2 at *
          clear x0 y0
          go_wp2_with fail
          go_quiet (fail)
          go_wp2_with fail
          go_ret
          refine ⟨?_, below_step HB3.out (below_step HBQ.out (Drawn0.below (w' := World.drewN _ _) ⟨⟨_, rfl⟩⟩))⟩
          rw [← HST.out, if_neg (by have := HH1.out; omega), if_pos (by have := HH2.out; omega)]
          rfl
        · have h2b : decide (y < x) = false := decide_eq_false h2
          have HH2 := Lib.hid h2
          clear h2
          have hw : IntKind.i64.wrap ((k : Int) + 1) = (k : Int) + 1 := IntWalk.i64_in _ (by omega)
          go_wp2_with fail
          go_quiet (fail)
          obtain ⟨z1, z2⟩ := HCE.out (World.drewN wr nq) (Drawn0.below (w' := World.drewN wr nq) ⟨⟨_, rfl⟩⟩)
          have HBQ := Lib.hid (below_step hB.out (Drawn0.below (w' := World.drewN wr nq) ⟨⟨_, rfl⟩⟩))
          generalize World.drewN wr nq = W2 at *
          clear x0 y0
          go_wp2_with fail
          go_quiet (fail)
          have HBR := Lib.hid (below_step HBQ.out (Drawn0.below (w' := World.drewN _ nq) ⟨⟨_, rfl⟩⟩))
          go_wp2_with fail
          refine ⟨⟨k + 1, by rw [Int.natCast_add]; rfl, by omega, by omega, Lib.hid (by have := HST.out; rw [if_neg (by have := HH1.out; omega), if_neg (by have := HH2.out; omega)] at this; exact this), HBR⟩, by simp [intOf]; omega⟩
    · have HE := Lib.hid ((cmpL_end (a := ta) (b := tb) (k := k) (by rw [HM.out, HN.out]; omega) (by rw [HM.out]; exact hk) (by rw [HN.out]; exact hk2)).symm.trans hR.out)
      rw [HM.out, HN.out] at HE
      by_cases c1 : m < n
      · have hr : -1 = res := by have := HE.out; rw [if_pos c1] at this; exact this
        have hg : decide ((m : Int) < n) = true := decide_eq_true (by omega)
        have hk3 : k = m := by omega
        subst hk3
        go_wp2_with fail
        go_ret
        rw [← hr]
        exact ⟨rfl, below_step HB3.out hB.out⟩
      · by_cases c2 : n < m
        · have hr : 1 = res := by have := HE.out; rw [if_neg c1, if_pos c2] at this; exact this
          have hg : decide ((n : Int) < m) = true := decide_eq_true (by omega)
          have hk3 : k = n := by omega
          subst hk3
          go_wp2_with fail
          go_ret
          rw [← hr]
          exact ⟨rfl, below_step HB3.out hB.out⟩
        · have hr : 0 = res := by have := HE.out; rw [if_neg c1, if_neg c2] at this; exact this
          have hk3 : m = n := by omega
          subst hk3
          have hk4 : k = m := by omega
          subst hk4
          go_wp2_with fail
          go_ret
          rw [← hr]
          exact ⟨rfl, below_step HB3.out hB.out⟩

end Go.Proofs.YtjeomiooheoegaaGreatDoor.PD

namespace Go.Proofs.YtjeomiooheoegaaGreatDoor.PD
open Go.RowKit Go.Proofs.YtjeomiooheoegaaGreatDoorW.PrintWords Go.Proofs.YtjeomiooheoegaaGreatDoorW.PrintLast Go.Proofs.YtjeomiooheoegaaGreatDoorW.PrintMore
set_option linter.unusedVariables false
set_option linter.unusedSimpArgs false
/-! ### domains as values -/
/-- a value that reads as a domain -/
def DomV (w : World) (v : Value) (d : DomD) : Prop := ∃ r lo up, v = .agg #[.bool d.set, r, lo, up, .int .i64 d.least, .int .i64 d.most] ∧ Lst w r d.r ∧ LstI w lo d.lo ∧ LstI w up d.up
theorem DomV.below {w w' : World} {v : Value} {d : DomD} (h : DomV w v d) (hb : Below w.heap.size w w') : DomV w' v d := by
  obtain ⟨r, lo, up, e, h1, h2, h3⟩ := h
  exact ⟨r, lo, up, e, h1.below hb, h2.below hb, h3.below hb⟩
/-- one of the call's own -/
def OwnD (w : World) (base : Nat) (v : Value) (d : DomD) : Prop := ∃ r lo up, v = .agg #[.bool d.set, r, lo, up, .int .i64 d.least, .int .i64 d.most] ∧ Row w base r d.r ∧ RowI w base lo d.lo ∧ RowI w base up d.up ∧ ∀ k, lo.ownBlock = some k → up.ownBlock ≠ some k
theorem OwnD.dom {w : World} {base : Nat} {v : Value} {d : DomD} (h : OwnD w base v d) : DomV w v d := by
  obtain ⟨r, lo, up, e, h1, h2, h3, _⟩ := h
  exact ⟨r, lo, up, e, h1.lst, h2.lst, h3.lst⟩
theorem OwnD.below {w w' : World} {base : Nat} {v : Value} {d : DomD} (h : OwnD w base v d) (hb : Below w.heap.size w w') : OwnD w' base v d := by
  obtain ⟨r, lo, up, e, h1, h2, h3, h4⟩ := h
  exact ⟨r, lo, up, e, h1.below hb, h2.below hb, h3.below hb, h4⟩
theorem OwnD.lower {w : World} {base base' : Nat} {v : Value} {d : DomD} (h : OwnD w base v d) (hb : base' ≤ base) : OwnD w base' v d := by
  obtain ⟨r, lo, up, e, h1, h2, h3, h4⟩ := h
  exact ⟨r, lo, up, e, h1.lower hb, h2.lower hb, h3.lower hb, h4⟩
theorem six_cases (cs : Array Value) (h : cs.size = 6) : ∃ a b c d e f, cs = #[a, b, c, d, e, f] := by
  obtain ⟨l⟩ := cs
  have hl : l.length = 6 := by simpa using h
  match l, hl with
  | [a, b, c, d, e, f], _ => exact ⟨a, b, c, d, e, f, rfl⟩
theorem six_blk {W : World} {g t : Nat} {cs : Array Value} (h : W.heap[g]? = some (.cells cs t (0, 0))) (hs : cs.size = 6) (a b c d e f : Value) :
    ((((((W.setCell ⟨g, 0, none⟩ a).setCell ⟨g, 1, none⟩ b).setCell ⟨g, 2, none⟩ c).setCell ⟨g, 3, none⟩ d).setCell ⟨g, 4, none⟩ e).setCell ⟨g, 5, none⟩ f).heap[g]? = some (.cells #[a, b, c, d, e, f] t (0, 0)) := by
  obtain ⟨x0, x1, x2, x3, x4, x5, rfl⟩ := six_cases cs hs
  exact blk_put (blk_put (blk_put (blk_put (blk_put (blk_put h 0 a rfl) 1 b rfl) 2 c rfl) 3 d rfl) 4 e rfl) 5 f rfl
theorem six_below {W : World} {base g : Nat} (hg : base ≤ g) (a b c d e f : Value) :
    Below base W ((((((W.setCell ⟨g, 0, none⟩ a).setCell ⟨g, 1, none⟩ b).setCell ⟨g, 2, none⟩ c).setCell ⟨g, 3, none⟩ d).setCell ⟨g, 4, none⟩ e).setCell ⟨g, 5, none⟩ f) :=
  ((((((Below.refl base W).setCell (p := ⟨g, 0, none⟩) hg a).setCell (p := ⟨g, 1, none⟩) hg b).setCell (p := ⟨g, 2, none⟩) hg c).setCell (p := ⟨g, 3, none⟩) hg d).setCell (p := ⟨g, 4, none⟩) hg e).setCell (p := ⟨g, 5, none⟩) hg f
theorem RowI.six {W : World} {base g t : Nat} {cs : Array Value} {v : Value} {l : List Int} (hv : RowI W base v l) (h : W.heap[g]? = some (.cells cs t (0, 0))) (ht : 2 ≠ t) (a b c d e f : Value) :
    RowI ((((((W.setCell ⟨g, 0, none⟩ a).setCell ⟨g, 1, none⟩ b).setCell ⟨g, 2, none⟩ c).setCell ⟨g, 3, none⟩ d).setCell ⟨g, 4, none⟩ e).setCell ⟨g, 5, none⟩ f) base v l :=
  (((((hv.far h ht 0 a).far (blk_set h 0 a) ht 1 b).far (blk_set (blk_set h 0 a) 1 b) ht 2 c).far (blk_set (blk_set (blk_set h 0 a) 1 b) 2 c) ht 3 d).far (blk_set (blk_set (blk_set (blk_set h 0 a) 1 b) 2 c) 3 d) ht 4 e).far (blk_set (blk_set (blk_set (blk_set (blk_set h 0 a) 1 b) 2 c) 3 d) 4 e) ht 5 f
/-- the six cells of a domain's box -/
def BoxD (W : World) (g : Nat) (b : Bool) (r lo up : Value) (n m : Int) : Prop := W.heap[g]? = some (.cells #[.bool b, r, lo, up, .int .i64 n, .int .i64 m] 52 (0, 0))
theorem BoxD.below {W W' : World} {g : Nat} {b : Bool} {r lo up : Value} {n m : Int} (h : BoxD W g b r lo up n m) (hb : Below W.heap.size W W') : BoxD W' g b r lo up n m := (hb.block g (blk_lt h)).trans h
theorem BoxD.cells {W : World} {g : Nat} {b : Bool} {r lo up : Value} {n m : Int} (h : BoxD W g b r lo up n m) :
    W.cell? ⟨g, 0, none⟩ = some (.bool b) ∧ W.cell? ⟨g, 1, none⟩ = some r ∧ W.cell? ⟨g, 2, none⟩ = some lo ∧ W.cell? ⟨g, 3, none⟩ = some up ∧ W.cell? ⟨g, 4, none⟩ = some (.int .i64 n) ∧ W.cell? ⟨g, 5, none⟩ = some (.int .i64 m) :=
  ⟨blk_cell h 0, blk_cell h 1, blk_cell h 2, blk_cell h 3, blk_cell h 4, blk_cell h 5⟩
theorem BoxD.new (W : World) (b : Bool) (r lo up : Value) (n m : Int) : BoxD (W.alloc (.cells #[.bool b, r, lo, up, .int .i64 n, .int .i64 m] 52)) W.heap.size b r lo up n m := World.alloc_heap_new W _
theorem apart_rows {w1 w2 : World} {b1 : Nat} {va vb : Value} {l1 l2 : List Int} (h1 : RowI w1 b1 va l1) (h2 : RowI w2 w1.heap.size vb l2) : ∀ k, va.ownBlock = some k → vb.ownBlock ≠ some k := fun k h h' => by
  have := own_lt h1.own k h
  have := h2.base k h'
  omega
theorem agg6 {b : Bool} {r l u l' u' : Value} {n m n' m' : Int} (hl : l = l') (hu : u = u') (hn : n = n') (hm : m = m') : Value.agg #[.bool b, r, l, u, .int .i64 n, .int .i64 m] = Value.agg #[.bool b, r, l', u', .int .i64 n', .int .i64 m'] := by rw [hl, hu, hn, hm]
theorem own_none (w : World) (base : Nat) : OwnD w base (.agg #[.bool true, .slice none 0 0, .slice none 0 0, .slice none 0 0, .int .i64 1, .int .i64 0]) noneD :=
  ⟨_, _, _, rfl, Row.nil _ _, RowI.nil _ _, RowI.nil _ _, fun k h => by simp [Value.ownBlock] at h⟩
set_option maxHeartbeats 4000000 in
theorem none_calls (w : World) : Calls Tryz.prog 140 #[] w fun e w' => ∃ v', e = .returned v' ∧ OwnD w' w.heap.size v' noneD ∧ v' = .agg #[.bool true, .slice none 0 0, .slice none 0 0, .slice none 0 0, .int .i64 1, .int .i64 0] ∧ Below w.heap.size w w' := by
  go_enter Tryz.func140, Tryz.ntmps140
  go_wp2_with fail
  refine bodyPost_ret (results_cell_row rfl _ _ w.heap.size 52 #[.bool true, .slice none 0 0, .slice none 0 0, .slice none 0 0, .int .i64 1, .int .i64 0] (0, 0) _ rfl (World.alloc_heap_new _ _) Tryz.underlying52 rfl (by kernel_rfl)) rfl ?_
  exact ⟨_, rfl, own_none _ _, rfl, (Below.refl _ _).alloc (Nat.le_refl _) _⟩
set_option maxRecDepth 100000 in
set_option maxHeartbeats 8000000 in
theorem tight_calls {v1 v2 : Value} (lo up : List Int) (least most : Int) (w : World) (h1 : LstI w v1 lo) (h2 : LstI w v2 up) (hl1 : lo.length ≤ 1000000) (hl2 : up.length ≤ 1000000) :
    Calls Tryz.prog 141 #[v1, v2, .int .i64 least, .int .i64 most] w fun e w' => ∃ v', e = .returned v' ∧ OwnD w' w.heap.size v' (tightD lo up least most) ∧ Below w.heap.size w w' := by
  have HN := Lib.hid (fun W => none_calls W)
  have H1 := Lib.hid h1; have H2 := Lib.hid h2
  obtain ⟨A1, c1, hv1⟩ := h1.form
  obtain ⟨A2, c2, hv2⟩ := h2.form
  subst hv1 hv2
  obtain ⟨D, hD⟩ : ∃ D, tightD lo up least most = D := ⟨_, rfl⟩
  rw [hD]
  unfold tightD at hD
  have HD := Lib.hid hD
  clear h1 h2 hD
  generalize hn1 : lo.length = n1 at *
  generalize hn2 : up.length = n2 at *
  have HN1 := Lib.hid hn1; have HN2 := Lib.hid hn2
  clear hn1 hn2
  by_cases c0 : min most (n2 : Int) < max least (n1 : Int)
  · have hDD : Hid (noneD = D) := Lib.hid (by have := HD.out; rw [if_pos c0] at this; exact this)
    have hb0 : decide (min most (n2 : Int) < max least (n1 : Int)) = true := decide_eq_true c0
    go_enter Tryz.func141, Tryz.ntmps141
    go_wp2_with fail
    refine (HN.out _).mono ?_
    rintro e w1 ⟨v1, rfl, _, rfl, hb1⟩
    have hk := (hb1.block w.heap.size (by simp)).trans (World.alloc_heap_new w _)
    have x0 := blk_cell hk 0; have x1 := blk_cell hk 1; have x2 := blk_cell hk 2; have x3 := blk_cell hk 3; have x4 := blk_cell hk 4; have x5 := blk_cell hk 5
    have f0 := blk_frozen hk 0; have f1 := blk_frozen hk 1; have f2 := blk_frozen hk 2; have f3 := blk_frozen hk 3; have f4 := blk_frozen hk 4; have f5 := blk_frozen hk 5
    have HK := Lib.hid hk
    have HB1 := Lib.hid (((Below.refl w.heap.size w).alloc (Nat.le_refl _) (.cells #[.bool false, .slice none 0 0, .slice none 0 0, .slice none 0 0, .int .i64 0, .int .i64 0] 52)).trans (hb1.mono (by simp)))
    clear hk hb1
    go_wp2_with fail
    have hk := HK.out
    refine bodyPost_ret (results_cell_row rfl _ _ w.heap.size 52 #[.bool true, _, _, _, _, _] (0, 0) _ rfl (six_blk hk rfl _ _ _ _ _ _) Tryz.underlying52 rfl (by kernel_rfl)) rfl ?_
    rw [← hDD.out]
    exact ⟨_, rfl, own_none _ _, HB1.out.trans (six_below (Nat.le_refl _) _ _ _ _ _ _)⟩
  · have hb0 : decide (min most (n2 : Int) < max least (n1 : Int)) = false := decide_eq_false c0
    by_cases c1 : max least (n1 : Int) = n2
    · have hq1 : ((max least (n1 : Int)) == (n2 : Int)) = true := by simpa using c1
      have hDD : Hid ((⟨true, [], up, up, max (max least (n1 : Int)) n2, min (min most (n2 : Int)) n2⟩ : DomD) = D) := Lib.hid (by have := HD.out; rw [if_neg c0, if_pos c1] at this; exact this)
      clear c1
      go_enter Tryz.func141, Tryz.ntmps141
      go_wp2_with fail
      refine (cloneI_calls up _ ((H2.out).below ((Below.refl _ _).alloc (Nat.le_refl _) _)) (by first | (rw [HN1.out]; assumption) | (rw [HN2.out]; assumption))).mono ?_
      rintro e w1 ⟨va, rfl, hO1, hb1⟩
      have HB1 := Lib.hid (((Below.refl w.heap.size w).alloc (Nat.le_refl _) (.cells #[.bool false, .slice none 0 0, .slice none 0 0, .slice none 0 0, .int .i64 0, .int .i64 0] 52)).trans (hb1.mono (by simp)))
      have hk1 := (hb1.block w.heap.size (by simp)).trans (World.alloc_heap_new w _)
      have HK1 := Lib.hid hk1
      have HO1 := Lib.hid (hO1.lower (by simp) : RowI w1 w.heap.size va _)
      obtain ⟨Aa, ca, hva, _⟩ := hO1.form
      subst hva
      clear hk1 hO1 hb1
      try rw [HN1.out]
      try rw [HN2.out]
      go_wp2_with fail
      refine (cloneI_calls up _ ((H2.out).below HB1.out) (by first | (rw [HN1.out]; assumption) | (rw [HN2.out]; assumption))).mono ?_
      rintro e w2 ⟨vb, rfl, hO2, hb2⟩
      have HB2 := Lib.hid (below_step HB1.out hb2)
      have hk := (hb2.block w.heap.size (blk_lt HK1.out)).trans HK1.out
      have HDJ := Lib.hid (apart_rows HO1.out hO2)
      have HO1b := Lib.hid (HO1.out.below hb2)
      have HO2 := Lib.hid (hO2.lower HB1.out.size)
      obtain ⟨Ab, cb, hvb, _⟩ := hO2.form
      subst hvb
      have x0 := blk_cell hk 0; have x1 := blk_cell hk 1; have x2 := blk_cell hk 2; have x3 := blk_cell hk 3; have x4 := blk_cell hk 4; have x5 := blk_cell hk 5
      have f0 := blk_frozen hk 0; have f1 := blk_frozen hk 1; have f2 := blk_frozen hk 2; have f3 := blk_frozen hk 3; have f4 := blk_frozen hk 4; have f5 := blk_frozen hk 5
      have HK := Lib.hid hk
      clear hO2 hb2 hk HK1
      try rw [HN1.out]
      try rw [HN2.out]
      go_wp2_with fail
      have hk := HK.out
      refine bodyPost_ret (results_cell_row rfl _ _ w.heap.size 52 #[.bool true, _, _, _, _, _] (0, 0) _ rfl (six_blk hk rfl _ _ _ _ _ _) Tryz.underlying52 rfl (by kernel_rfl)) rfl ?_
      rw [← hDD.out]
      refine ⟨_, rfl, ⟨_, _, _, agg6 (by first | rfl | rw [HN1.out] | rw [HN2.out]) (by first | rfl | rw [HN1.out] | rw [HN2.out]) (by dsimp only; omega) (by dsimp only; omega), Row.nil _ _, HO1b.out.six hk (by decide) _ _ _ _ _ _, HO2.out.six hk (by decide) _ _ _ _ _ _, HDJ.out⟩, HB2.out.trans (six_below (Nat.le_refl _) _ _ _ _ _ _)⟩
    · have hq1 : ((max least (n1 : Int)) == (n2 : Int)) = false := by simpa using c1
      have HC1 := Lib.hid c1
      clear c1
      by_cases c2 : min most (n2 : Int) = n1
      · have hq2 : ((min most (n2 : Int)) == (n1 : Int)) = true := by simpa using c2
        have hDD : Hid ((⟨true, [], lo, lo, max (max least (n1 : Int)) n1, min (min most (n2 : Int)) n1⟩ : DomD) = D) := Lib.hid (by have := HD.out; rw [if_neg c0, if_neg HC1.out, if_pos c2] at this; exact this)
        clear c2
        go_enter Tryz.func141, Tryz.ntmps141
        go_wp2_with fail
        refine (cloneI_calls lo _ ((H1.out).below ((Below.refl _ _).alloc (Nat.le_refl _) _)) (by first | (rw [HN1.out]; assumption) | (rw [HN2.out]; assumption))).mono ?_
        rintro e w1 ⟨va, rfl, hO1, hb1⟩
        have HB1 := Lib.hid (((Below.refl w.heap.size w).alloc (Nat.le_refl _) (.cells #[.bool false, .slice none 0 0, .slice none 0 0, .slice none 0 0, .int .i64 0, .int .i64 0] 52)).trans (hb1.mono (by simp)))
        have hk1 := (hb1.block w.heap.size (by simp)).trans (World.alloc_heap_new w _)
        have HK1 := Lib.hid hk1
        have HO1 := Lib.hid (hO1.lower (by simp) : RowI w1 w.heap.size va _)
        obtain ⟨Aa, ca, hva, _⟩ := hO1.form
        subst hva
        clear hk1 hO1 hb1
        try rw [HN1.out]
        try rw [HN2.out]
        go_wp2_with fail
        refine (cloneI_calls lo _ ((H1.out).below HB1.out) (by first | (rw [HN1.out]; assumption) | (rw [HN2.out]; assumption))).mono ?_
        rintro e w2 ⟨vb, rfl, hO2, hb2⟩
        have HB2 := Lib.hid (below_step HB1.out hb2)
        have hk := (hb2.block w.heap.size (blk_lt HK1.out)).trans HK1.out
        have HDJ := Lib.hid (apart_rows HO1.out hO2)
        have HO1b := Lib.hid (HO1.out.below hb2)
        have HO2 := Lib.hid (hO2.lower HB1.out.size)
        obtain ⟨Ab, cb, hvb, _⟩ := hO2.form
        subst hvb
        have x0 := blk_cell hk 0; have x1 := blk_cell hk 1; have x2 := blk_cell hk 2; have x3 := blk_cell hk 3; have x4 := blk_cell hk 4; have x5 := blk_cell hk 5
        have f0 := blk_frozen hk 0; have f1 := blk_frozen hk 1; have f2 := blk_frozen hk 2; have f3 := blk_frozen hk 3; have f4 := blk_frozen hk 4; have f5 := blk_frozen hk 5
        have HK := Lib.hid hk
        clear hO2 hb2 hk HK1
        try rw [HN1.out]
        try rw [HN2.out]
        go_wp2_with fail
        have hk := HK.out
        refine bodyPost_ret (results_cell_row rfl _ _ w.heap.size 52 #[.bool true, _, _, _, _, _] (0, 0) _ rfl (six_blk hk rfl _ _ _ _ _ _) Tryz.underlying52 rfl (by kernel_rfl)) rfl ?_
        rw [← hDD.out]
        refine ⟨_, rfl, ⟨_, _, _, agg6 (by first | rfl | rw [HN1.out] | rw [HN2.out]) (by first | rfl | rw [HN1.out] | rw [HN2.out]) (by dsimp only; omega) (by dsimp only; omega), Row.nil _ _, HO1b.out.six hk (by decide) _ _ _ _ _ _, HO2.out.six hk (by decide) _ _ _ _ _ _, HDJ.out⟩, HB2.out.trans (six_below (Nat.le_refl _) _ _ _ _ _ _)⟩
      · have hq2 : ((min most (n2 : Int)) == (n1 : Int)) = false := by simpa using c2
        have hDD : Hid ((⟨true, [], lo, up, max (max least (n1 : Int)) n1, min (min most (n2 : Int)) n2⟩ : DomD) = D) := Lib.hid (by have := HD.out; rw [if_neg c0, if_neg HC1.out, if_neg c2] at this; exact this)
        clear c2
        go_enter Tryz.func141, Tryz.ntmps141
        go_wp2_with fail
        refine (cloneI_calls lo _ ((H1.out).below ((Below.refl _ _).alloc (Nat.le_refl _) _)) (by first | (rw [HN1.out]; assumption) | (rw [HN2.out]; assumption))).mono ?_
        rintro e w1 ⟨va, rfl, hO1, hb1⟩
        have HB1 := Lib.hid (((Below.refl w.heap.size w).alloc (Nat.le_refl _) (.cells #[.bool false, .slice none 0 0, .slice none 0 0, .slice none 0 0, .int .i64 0, .int .i64 0] 52)).trans (hb1.mono (by simp)))
        have hk1 := (hb1.block w.heap.size (by simp)).trans (World.alloc_heap_new w _)
        have HK1 := Lib.hid hk1
        have HO1 := Lib.hid (hO1.lower (by simp) : RowI w1 w.heap.size va _)
        obtain ⟨Aa, ca, hva, _⟩ := hO1.form
        subst hva
        clear hk1 hO1 hb1
        try rw [HN1.out]
        try rw [HN2.out]
        go_wp2_with fail
        refine (cloneI_calls up _ ((H2.out).below HB1.out) (by first | (rw [HN1.out]; assumption) | (rw [HN2.out]; assumption))).mono ?_
        rintro e w2 ⟨vb, rfl, hO2, hb2⟩
        have HB2 := Lib.hid (below_step HB1.out hb2)
        have hk := (hb2.block w.heap.size (blk_lt HK1.out)).trans HK1.out
        have HDJ := Lib.hid (apart_rows HO1.out hO2)
        have HO1b := Lib.hid (HO1.out.below hb2)
        have HO2 := Lib.hid (hO2.lower HB1.out.size)
        obtain ⟨Ab, cb, hvb, _⟩ := hO2.form
        subst hvb
        have x0 := blk_cell hk 0; have x1 := blk_cell hk 1; have x2 := blk_cell hk 2; have x3 := blk_cell hk 3; have x4 := blk_cell hk 4; have x5 := blk_cell hk 5
        have f0 := blk_frozen hk 0; have f1 := blk_frozen hk 1; have f2 := blk_frozen hk 2; have f3 := blk_frozen hk 3; have f4 := blk_frozen hk 4; have f5 := blk_frozen hk 5
        have HK := Lib.hid hk
        clear hO2 hb2 hk HK1
        try rw [HN1.out]
        try rw [HN2.out]
        go_wp2_with fail
        have hk := HK.out
        refine bodyPost_ret (results_cell_row rfl _ _ w.heap.size 52 #[.bool true, _, _, _, _, _] (0, 0) _ rfl (six_blk hk rfl _ _ _ _ _ _) Tryz.underlying52 rfl (by kernel_rfl)) rfl ?_
        rw [← hDD.out]
        refine ⟨_, rfl, ⟨_, _, _, agg6 (by first | rfl | rw [HN1.out] | rw [HN2.out]) (by first | rfl | rw [HN1.out] | rw [HN2.out]) (by dsimp only; omega) (by dsimp only; omega), Row.nil _ _, HO1b.out.six hk (by decide) _ _ _ _ _ _, HO2.out.six hk (by decide) _ _ _ _ _ _, HDJ.out⟩, HB2.out.trans (six_below (Nat.le_refl _) _ _ _ _ _ _)⟩

end Go.Proofs.YtjeomiooheoegaaGreatDoor.PD

namespace Go.Proofs.YtjeomiooheoegaaGreatDoor.PD
open Go.RowKit Go.Proofs.YtjeomiooheoegaaGreatDoorW.PrintWords Go.Proofs.YtjeomiooheoegaaGreatDoorW.PrintLast Go.Proofs.YtjeomiooheoegaaGreatDoorW.PrintMore
attribute [local go_sem] max2_int min2_int max_two min_two max_three min_three max_four min_four   -- for this text's walks alone
set_option linter.unusedVariables false
set_option linter.unusedSimpArgs false

attribute [local go_sem high] eqA119
/-! ### slices_Equal_int64_int64: function 188 -/
def slices_Equal_int64_int64.l0 : Nat → List Int → List Int → Int → Int → Option (Bool)
  | 0, _, _, _, _ => none
  | k + 1, x0, x1, x12, x13 => if x13 < x12 then (if 0 ≤ x13 then (if x13 < (x0.length : Int) then (if x13 < (x1.length : Int) then (if (rd x0 x13) = (rd x1 x13) then (slices_Equal_int64_int64.l0 k x0 x1 x12 (wrap64 (x13 + 1))) else (some false)) else (none)) else (none)) else (none)) else (some true)
def slices_Equal_int64_int64.f (k : Nat) (l0 : List Int) (l1 : List Int) : Option (Bool) := if (l0.length : Int) = (l1.length : Int) then (slices_Equal_int64_int64.l0 k l0 l1 (l0.length : Int) 0) else (some false)
theorem slices_Equal_int64_int64.mono_l : ∀ k, (∀ y0 y1 y2 y3, LeO (slices_Equal_int64_int64.l0 k y0 y1 y2 y3) (slices_Equal_int64_int64.l0 (k + 1) y0 y1 y2 y3))
  | 0 => fun _ _ _ _ r h => by simp [slices_Equal_int64_int64.l0] at h
  | k + 1 => by
    have ih0 := slices_Equal_int64_int64.mono_l k
    · intro y0 y1 y2 y3
      unfold slices_Equal_int64_int64.l0
      repeat' first
      | (with_reducible exact ih0 _ _ _ _)
      | (with_reducible exact LeO.refl _)
      | (with_reducible exact LeO.none _)
      | (with_reducible refine LeO.ite ?_ ?_)
      | (with_reducible refine LeO.bind ?_ (fun _ => ?_))
      | exact ih0 _ _ _ _
      | exact LeO.none _
      | refine LeO.ite ?_ ?_
      | refine LeO.bind ?_ (fun _ => ?_)
theorem slices_Equal_int64_int64.mono : ∀ a0 a1 k, LeO (slices_Equal_int64_int64.f k a0 a1) (slices_Equal_int64_int64.f (k + 1) a0 a1) := by
  intro a0 a1 k
  have ih0 := slices_Equal_int64_int64.mono_l k
  unfold slices_Equal_int64_int64.f
  repeat' first
      | (with_reducible exact ih0 _ _ _ _)
      | (with_reducible exact LeO.refl _)
      | (with_reducible exact LeO.none _)
      | (with_reducible refine LeO.ite ?_ ?_)
      | (with_reducible refine LeO.bind ?_ (fun _ => ?_))
      | exact ih0 _ _ _ _
      | exact LeO.none _
      | refine LeO.ite ?_ ?_
      | refine LeO.bind ?_ (fun _ => ?_)
set_option maxHeartbeats 8000000 in
set_option maxRecDepth 100000 in
theorem slices_Equal_int64_int64.calls (k : Nat) (A0 : Option Addr) (c0 : Nat) (l0 : List Int) (A1 : Option Addr) (c1 : Nat) (l1 : List Int) (r : Bool) (w : World) (hr0 : Kd.C (Kd.int .i64) w A0 l0.length l0) (hc0 : l0.length ≤ c0) (hr1 : Kd.C (Kd.int .i64) w A1 l1.length l1) (hc1 : l1.length ≤ c1) (h : slices_Equal_int64_int64.f k l0 l1 = some r) :
    Calls Tryz.prog 188 #[.slice A0 l0.length c0, .slice A1 l1.length c1] w fun e w' => e = .returned (.bool r) ∧ Drawn0 w w' := by
  have HR0 := Aside0.mk hr0
  have HC0 := Aside0.mk hc0
  clear hr0 hc0
  have HR1 := Aside0.mk hr1
  have HC1 := Aside0.mk hc1
  clear hr1 hc1
  have H : (if (l0.length : Int) = (l1.length : Int) then (slices_Equal_int64_int64.l0 k l0 l1 (l0.length : Int) 0) else (some false)) = some r := h
  clear h
  by_cases c3 : (l0.length : Int) = (l1.length : Int)
  · rw [if_pos c3] at H
    have c3b0 : ((l0.length : Int) == (l1.length : Int)) = true := beq_iff_eq.mpr c3
    have c3b1 : ((l0.length : Int) != (l1.length : Int)) = false := bne_eq_false_iff_eq.mpr c3
    have c3b2 : (l0.length == l1.length) = true := by first | simpa using c3 | (simp at c3 ⊢; omega)
    clear c3
    have H' := Aside0.mk H
    clear H
    go_enter Tryz.func188, Tryz.ntmps188
    go_wp2
    repeat (go_quiet (fail); try go_wp2)
    go_loopg [13] k (fun kq v13 w' => ∃ (x13_1 : Int), v13 = .int .i64 x13_1 ∧ Aside0 (slices_Equal_int64_int64.l0 kq l0 l1 (l0.length : Int) x13_1 = some r) ∧ Aside0 (kq ≤ k) ∧ Drawn0 w w')
    case atStart => exact ⟨(0), (by first | rfl | (simp; done) | (simp [*]; done)), H', ⟨Nat.le_refl _⟩, by repeat (first | exact Drawn0.refl _ | apply Drawn0.step)⟩
    case round =>
      clear H'
      try clear c1
      try clear p2
      try clear c3
      try clear c3b0
      try clear c3b1
      try clear c3b2
      obtain ⟨x13_1, rfl, HA, HK1, ⟨m1, rfl⟩⟩ := hrel
      cases gk with
      | zero => exact absurd HA.out (by simp [slices_Equal_int64_int64.l0])
      | succ k1 =>
        have H := HA.out
        clear HA
        simp only [slices_Equal_int64_int64.l0] at H
        by_cases c4 : x13_1 < (l0.length : Int)
        · rw [if_pos c4] at H
          have c4b0 : decide (x13_1 < (l0.length : Int)) = true := decide_eq_true c4
          clear c4
          by_cases c5 : 0 ≤ x13_1
          · rw [if_pos c5] at H
            have c5b0 : decide (0 ≤ x13_1) = true := decide_eq_true c5
            clear c5
            by_cases c6 : x13_1 < (l0.length : Int)
            · rw [if_pos c6] at H
              have c6b0 : decide (x13_1 < (l0.length : Int)) = true := decide_eq_true c6
              clear c6
              by_cases c7 : x13_1 < (l1.length : Int)
              · rw [if_pos c7] at H
                have c7b0 : decide (x13_1 < (l1.length : Int)) = true := decide_eq_true c7
                clear c7
                by_cases c8 : (rd l0 x13_1) = (rd l1 x13_1)
                · rw [if_pos c8] at H
                  have c8b0 : ((rd l0 x13_1) == (rd l1 x13_1)) = true := beq_iff_eq.mpr c8
                  have c8b1 : ((rd l0 x13_1) != (rd l1 x13_1)) = false := bne_eq_false_iff_eq.mpr c8
                  clear c8
                  have H' := Aside0.mk H
                  clear H
                  have p260 : 0 ≤ (x13_1 : Int) := of_decide_eq_true (by first | (with_reducible assumption) | assumption)
                  have q260 : x13_1 < (l0.length : Int) := of_decide_eq_true (by first | (with_reducible assumption) | assumption)
                  obtain ⟨ad260, e260, hx260_0⟩ := Kd.at_int HR0.out x13_1 p260 q260
                  cases e260
                  replace p260 := eq_true p260
                  replace q260 := eq_true q260
                  have p261 : 0 ≤ (x13_1 : Int) := of_decide_eq_true (by first | (with_reducible assumption) | assumption)
                  have q261 : x13_1 < (l1.length : Int) := of_decide_eq_true (by first | (with_reducible assumption) | assumption)
                  obtain ⟨ad261, e261, hx261_0⟩ := Kd.at_int HR1.out x13_1 p261 q261
                  cases e261
                  replace p261 := eq_true p261
                  replace q261 := eq_true q261
                  go_wp2
                  repeat (go_quiet (fail); try go_wp2)
                  go_roundg k1
                  case measure => have := HK1.out; omega
                  case rel => exact ⟨(wrap64 (x13_1 + 1)), (by first | rfl | (simp; done) | (simp [*]; done)), H', ⟨by have := HK1.out; omega⟩, by repeat (first | exact Drawn0.refl _ | apply Drawn0.step)⟩
                · rw [if_neg c8] at H
                  have c8b0 : ((rd l0 x13_1) == (rd l1 x13_1)) = false := beq_eq_false_iff_ne.mpr c8
                  have c8b1 : ((rd l0 x13_1) != (rd l1 x13_1)) = true := bne_iff_ne.mpr c8
                  obtain rfl := Option.some.inj H
                  have p260 : 0 ≤ (x13_1 : Int) := of_decide_eq_true (by first | (with_reducible assumption) | assumption)
                  have q260 : x13_1 < (l0.length : Int) := of_decide_eq_true (by first | (with_reducible assumption) | assumption)
                  obtain ⟨ad260, e260, hx260_0⟩ := Kd.at_int HR0.out x13_1 p260 q260
                  cases e260
                  replace p260 := eq_true p260
                  replace q260 := eq_true q260
                  have p261 : 0 ≤ (x13_1 : Int) := of_decide_eq_true (by first | (with_reducible assumption) | assumption)
                  have q261 : x13_1 < (l1.length : Int) := of_decide_eq_true (by first | (with_reducible assumption) | assumption)
                  obtain ⟨ad261, e261, hx261_0⟩ := Kd.at_int HR1.out x13_1 p261 q261
                  cases e261
                  replace p261 := eq_true p261
                  replace q261 := eq_true q261
                  go_wp2
                  repeat (go_quiet (fail); try go_wp2)
                  go_ret
                  exact ⟨by first | rfl | (simp; done) | (simp [*]; done), by repeat (first | exact Drawn0.refl _ | apply Drawn0.step)⟩
              · rw [if_neg c7] at H
                exact absurd H (by simp)
            · rw [if_neg c6] at H
              exact absurd H (by simp)
          · rw [if_neg c5] at H
            exact absurd H (by simp)
        · rw [if_neg c4] at H
          have c4b0 : decide (x13_1 < (l0.length : Int)) = false := decide_eq_false c4
          clear c4
          obtain rfl := Option.some.inj H
          go_wp2
          repeat (go_quiet (fail); try go_wp2)
          go_ret
          exact ⟨by first | rfl | (simp; done) | (simp [*]; done), by repeat (first | exact Drawn0.refl _ | apply Drawn0.step)⟩
  · rw [if_neg c3] at H
    have c3b0 : ((l0.length : Int) == (l1.length : Int)) = false := beq_eq_false_iff_ne.mpr c3
    have c3b1 : ((l0.length : Int) != (l1.length : Int)) = true := bne_iff_ne.mpr c3
    have c3b2 : (l0.length == l1.length) = false := by first | simpa using c3 | (simp at c3 ⊢; omega)
    obtain rfl := Option.some.inj H
    go_enter Tryz.func188, Tryz.ntmps188
    go_wp2
    repeat (go_quiet (fail); try go_wp2)
    go_ret
    exact ⟨by first | rfl | (simp; done) | (simp [*]; done), by repeat (first | exact Drawn0.refl _ | apply Drawn0.step)⟩
end Go.Proofs.YtjeomiooheoegaaGreatDoor.PD

namespace Go.Proofs.YtjeomiooheoegaaGreatDoor.PD
open Go.RowKit Go.Proofs.YtjeomiooheoegaaGreatDoorW.PrintWords Go.Proofs.YtjeomiooheoegaaGreatDoorW.PrintLast Go.Proofs.YtjeomiooheoegaaGreatDoorW.PrintMore
set_option linter.unusedVariables false
set_option linter.unusedSimpArgs false
/-! ### Equal of whole numbers; alike -/
theorem equalI_l0 (a b : List Int) (hl : a.length = b.length) (hm : a.length ≤ 9000000000000000) : ∀ (d i : Nat), a.length = i + d →
    slices_Equal_int64_int64.l0 (d + 1) a b (a.length : Int) (i : Int) = some (decide (a.drop i = b.drop i))
  | 0, i, hd => by
    rw [slices_Equal_int64_int64.l0, if_neg (by omega), List.drop_eq_nil_of_le (by omega), List.drop_eq_nil_of_le (by omega)]
    simp
  | d + 1, i, hd => by
    have hi : i < a.length := by omega
    have hi2 : i < b.length := by omega
    have hr := equalI_l0 a b hl hm d (i + 1) (by omega)
    have HW : Hid (wrap64 ((i : Int) + 1) = ((i + 1 : Nat) : Int)) := Lib.hid (IntWalk.wrap64_in _ (by omega))
    rw [List.drop_eq_getElem_cons hi, List.drop_eq_getElem_cons hi2, slices_Equal_int64_int64.l0]
    rw [if_pos (by omega), if_pos (by omega), if_pos (by omega), if_pos (by omega), rdI a i hi, rdI b i hi2, HW.out, hr]
    by_cases h0 : a[i] = b[i]
    · rw [if_pos h0]
      congr 1
      rw [decide_eq_decide]
      exact ⟨fun h => by rw [h0, h], fun h => by injection h⟩
    · rw [if_neg h0, decide_eq_false]
      intro h
      injection h with h1 _
      exact h0 h1
theorem equalI_f (a b : List Int) (hm : a.length ≤ 9000000000000000) : slices_Equal_int64_int64.f (a.length + 1) a b = some (decide (a = b)) := by
  unfold slices_Equal_int64_int64.f
  by_cases h : a.length = b.length
  · rw [if_pos (by omega)]
    have := equalI_l0 a b h hm a.length 0 (by omega)
    rw [List.drop_zero, List.drop_zero] at this
    exact this
  · rw [if_neg (by omega), decide_eq_false (fun e => h (by rw [e]))]
theorem equalI_calls {v1 v2 : Value} (a b : List Int) (w : World) (h1 : LstI w v1 a) (h2 : LstI w v2 b) (hm : a.length ≤ 9000000000000000) :
    Calls Tryz.prog 188 #[v1, v2] w fun e w' => e = .returned (.bool (decide (a = b))) ∧ Below w.heap.size w w' := by
  obtain ⟨A, c, rfl, hC, hc⟩ := h1
  obtain ⟨A', c', rfl, hC', hc'⟩ := h2
  exact (slices_Equal_int64_int64.calls _ A c a A' c' b _ w hC hc hC' hc' (equalI_f a b hm)).mono fun e w' ⟨he, hd⟩ => ⟨he, hd.below⟩
def alikeB (a b : DomD) : Bool := decide (a.lo = b.lo) && (decide (a.up = b.up) && (decide (a.least = b.least) && decide (a.most = b.most)))
theorem alike_none (d : DomD) : alikeB d noneD = bareD d := by
  unfold alikeB bareD noneD
  have h : ∀ l : List Int, decide (l = []) = l.isEmpty := fun l => by cases l <;> rfl
  rw [h, h]
/-- what it takes to go on: two boxes, in a later world -/
theorem two_boxes {w W : World} {b1 b2 : Bool} {r1 lo1 up1 r2 lo2 up2 : Value} {n1 m1 n2 m2 : Int}
    (hb : Below ((w.alloc (.cells #[.bool b1, r1, lo1, up1, .int .i64 n1, .int .i64 m1] 52)).alloc (.cells #[.bool b2, r2, lo2, up2, .int .i64 n2, .int .i64 m2] 52)).heap.size ((w.alloc (.cells #[.bool b1, r1, lo1, up1, .int .i64 n1, .int .i64 m1] 52)).alloc (.cells #[.bool b2, r2, lo2, up2, .int .i64 n2, .int .i64 m2] 52)) W) :
    BoxD W w.heap.size b1 r1 lo1 up1 n1 m1 ∧ BoxD W (w.heap.size + 1) b2 r2 lo2 up2 n2 m2 ∧ Below w.heap.size w W := by
  have e1 := BoxD.new w b1 r1 lo1 up1 n1 m1
  have e2 := BoxD.new (w.alloc (.cells #[.bool b1, r1, lo1, up1, .int .i64 n1, .int .i64 m1] 52)) b2 r2 lo2 up2 n2 m2
  rw [World.size_alloc] at e2
  refine ⟨(e1.below ((Below.refl _ _).alloc (Nat.le_refl _) _)).below hb, e2.below hb, ?_⟩
  exact ((((Below.refl w.heap.size w).alloc (Nat.le_refl _) _).alloc (by simp) _)).trans (hb.mono (by simp; omega))
theorem two_lstR {w : World} {v : Value} {l : List S119} (o p : Obj) (h : Lst w v l) : Lst ((w.alloc o).alloc p) v l := (h.below ((Below.refl _ _).alloc (Nat.le_refl _) _)).below ((Below.refl _ _).alloc (Nat.le_refl _) _)
theorem Lst.form {w : World} {v : Value} {l : List S119} (h : Lst w v l) : ∃ A c, v = .slice A l.length c := by
  obtain ⟨A, c, h1, _, _⟩ := h
  exact ⟨A, c, h1⟩
set_option maxRecDepth 100000 in
set_option maxHeartbeats 8000000 in
theorem alike_calls {v1 v2 : Value} (a b : DomD) (w : World) (h1 : DomV w v1 a) (h2 : DomV w v2 b) (ha : a.set = true) (hb : b.set = true) (hra : a.r = []) (hrb : b.r = []) (hl1 : a.lo.length ≤ 9000000000000000) (hl2 : a.up.length ≤ 9000000000000000) :
    Calls Tryz.prog 143 #[v1, v2] w fun e w' => e = .returned (.bool (alikeB a b)) ∧ Below w.heap.size w w' := by
  obtain ⟨r1, lo1, up1, rfl, q1, q2, q3⟩ := h1
  obtain ⟨r2, lo2, up2, rfl, p1, p2, p3⟩ := h2
  rw [ha, hb]
  rw [hra] at q1
  rw [hrb] at p1
  have Q1 := Lib.hid q1; have Q2 := Lib.hid q2; have Q3 := Lib.hid q3; have P1 := Lib.hid p1; have P2 := Lib.hid p2; have P3 := Lib.hid p3
  obtain ⟨A1, k1, hv1⟩ := q1.form
  obtain ⟨A2, k2, hv2⟩ := q2.form
  obtain ⟨A3, k3, hv3⟩ := q3.form
  obtain ⟨B1, j1, hw1⟩ := p1.form
  obtain ⟨B2, j2, hw2⟩ := p2.form
  obtain ⟨B3, j3, hw3⟩ := p3.form
  subst hv1 hv2 hv3 hw1 hw2 hw3
  simp only [List.length_nil] at *
  have HE1 := Lib.hid (fun W h1 h2 => equalI_calls (v1 := .slice A2 a.lo.length k2) (v2 := .slice B2 b.lo.length j2) a.lo b.lo W h1 h2 hl1)
  have HE2 := Lib.hid (fun W h1 h2 => equalI_calls (v1 := .slice A3 a.up.length k3) (v2 := .slice B3 b.up.length j3) a.up b.up W h1 h2 hl2)
  have HAL : Hid (alikeB a b = (decide (a.lo = b.lo) && (decide (a.up = b.up) && (decide (a.least = b.least) && decide (a.most = b.most))))) := Lib.hid rfl
  rw [HAL.out]
  clear q1 q2 q3 p1 p2 p3 ha hb hra hrb hl1 hl2
  generalize a.lo.length = n2 at *
  generalize a.up.length = n3 at *
  generalize b.lo.length = m2 at *
  generalize b.up.length = m3 at *
  generalize a.least = la at *
  generalize a.most = ma at *
  generalize b.least = lb at *
  generalize b.most = mb at *
  generalize decide (a.lo = b.lo) = x1 at *
  generalize decide (a.up = b.up) = x2 at *
  clear HAL
  generalize hd4 : decide (la = lb) = x3
  generalize hd5 : decide (ma = mb) = x4
  go_enter Tryz.func143, Tryz.ntmps143
  go_wp2_with fail
  refine (Same_calls [] [] _ (two_lstR _ _ Q1.out) (two_lstR _ _ P1.out)).mono ?_
  rintro e w1 ⟨r, rfl, hr, hb1⟩
  obtain rfl : r = true := hr.2 rfl
  obtain ⟨hx, hy, hbw⟩ := two_boxes hb1
  have HX := Lib.hid hx; have HY := Lib.hid hy; have HB := Lib.hid hbw
  obtain ⟨x_0, x_1, x_2, x_3, x_4, x_5⟩ := hx.cells
  obtain ⟨y_0, y_1, y_2, y_3, y_4, y_5⟩ := hy.cells
  clear hx hy hbw hr hb1
  go_wp2_with fail
  refine (HE1.out _ (Q2.out.below HB.out) (P2.out.below HB.out)).mono ?_
  rintro e w2 ⟨rfl, hb2⟩
  replace HX := Lib.hid (HX.out.below hb2); replace HY := Lib.hid (HY.out.below hb2); replace HB := Lib.hid (below_step HB.out hb2)
  clear x_0 x_1 x_2 x_3 x_4 x_5 y_0 y_1 y_2 y_3 y_4 y_5 hb2
  obtain ⟨x_0, x_1, x_2, x_3, x_4, x_5⟩ := HX.out.cells
  obtain ⟨y_0, y_1, y_2, y_3, y_4, y_5⟩ := HY.out.cells
  cases x1 with
  | false =>
    go_wp2_with fail
    go_ret
    exact ⟨rfl, HB.out⟩
  | true =>
    go_wp2_with fail
    refine (HE2.out _ (Q3.out.below HB.out) (P3.out.below HB.out)).mono ?_
    rintro e w3 ⟨rfl, hb3⟩
    replace HX := Lib.hid (HX.out.below hb3); replace HY := Lib.hid (HY.out.below hb3); replace HB := Lib.hid (below_step HB.out hb3)
    clear x_0 x_1 x_2 x_3 x_4 x_5 y_0 y_1 y_2 y_3 y_4 y_5 hb3
    obtain ⟨x_0, x_1, x_2, x_3, x_4, x_5⟩ := HX.out.cells
    obtain ⟨y_0, y_1, y_2, y_3, y_4, y_5⟩ := HY.out.cells
    cases x2 with
    | false =>
      go_wp2_with fail
      go_ret
      exact ⟨rfl, HB.out⟩
    | true =>
      cases x3 with
      | false =>
        have hq4 : (la == lb) = false := by rw [beq_eq_false_iff_ne]; exact of_decide_eq_false hd4
        clear hd4 hd5
        go_wp2_with fail
        go_ret
        exact ⟨rfl, HB.out⟩
      | true =>
        have hq4 : (la == lb) = true := by rw [beq_iff_eq]; exact of_decide_eq_true hd4
        cases x4 with
        | false =>
          have hq5 : (ma == mb) = false := by rw [beq_eq_false_iff_ne]; exact of_decide_eq_false hd5
          clear hd4 hd5
          go_wp2_with fail
          go_ret
          exact ⟨rfl, HB.out⟩
        | true =>
          have hq5 : (ma == mb) = true := by rw [beq_iff_eq]; exact of_decide_eq_true hd5
          clear hd4 hd5
          go_wp2_with fail
          go_ret
          exact ⟨rfl, HB.out⟩

end Go.Proofs.YtjeomiooheoegaaGreatDoor.PD

namespace Go.Proofs.YtjeomiooheoegaaGreatDoor.PD
open Go.RowKit Go.Proofs.YtjeomiooheoegaaGreatDoorW.PrintWords Go.Proofs.YtjeomiooheoegaaGreatDoorW.PrintLast Go.Proofs.YtjeomiooheoegaaGreatDoorW.PrintMore
set_option linter.unusedVariables false
set_option linter.unusedSimpArgs false
/-! ### Right, Empty, Has, Card, Must, Not of the program -/
theorem one_box {w W : World} {b : Bool} {r lo up : Value} {n m : Int}
    (hb : Below (w.alloc (.cells #[.bool b, r, lo, up, .int .i64 n, .int .i64 m] 52)).heap.size (w.alloc (.cells #[.bool b, r, lo, up, .int .i64 n, .int .i64 m] 52)) W) :
    BoxD W w.heap.size b r lo up n m ∧ Below w.heap.size w W :=
  ⟨(BoxD.new w b r lo up n m).below hb, ((Below.refl w.heap.size w).alloc (Nat.le_refl _) _).trans (hb.mono (by simp))⟩
theorem one_lst {w : World} {v : Value} {l : List Int} (o : Obj) (h : LstI w v l) : LstI (w.alloc o) v l := h.below ((Below.refl _ _).alloc (Nat.le_refl _) _)
set_option maxRecDepth 100000 in
set_option maxHeartbeats 8000000 in
theorem Right_calls {v : Value} (d : DomD) (w : World) (h : DomV w v d) (hl1 : d.lo.length ≤ 9000000000000000) (hl2 : d.up.length ≤ 9000000000000000) :
    Calls Tryz.prog 76 #[v] w fun e w' => e = .returned (.bool (rightD d)) ∧ Below w.heap.size w w' := by
  obtain ⟨r, lo, up, rfl, q1, q2, q3⟩ := h
  obtain ⟨s0, r0, lo0, up0, n, m⟩ := d
  dsimp only at *
  cases s0 with
  | false =>
    obtain ⟨A1, k1, hv1⟩ := q1.form
    subst hv1
    show Calls _ _ _ _ fun e w' => e = .returned (.bool false) ∧ Below w.heap.size w w'
    clear q1 q2 q3
    go_enter Tryz.func76, Tryz.ntmps76
    go_wp2_with fail
    go_ret
    exact ⟨rfl, (Below.refl _ _).alloc (Nat.le_refl _) _⟩
  | true =>
    cases r0 with
    | cons r1 rs =>
      obtain ⟨A1, k1, hv1⟩ := q1.form
      subst hv1
      show Calls _ _ _ _ fun e w' => e = .returned (.bool false) ∧ Below w.heap.size w w'
      rw [List.length_cons]
      have hg : decide ((0 : Int) < ((rs.length + 1 : Nat) : Int)) = true := decide_eq_true (by omega)
      have hg2 : decide ((0 : Int) < ((rs.length : Nat) : Int) + 1) = true := decide_eq_true (by omega)
      clear q1 q2 q3
      go_enter Tryz.func76, Tryz.ntmps76
      go_wp2_with fail
      go_ret
      exact ⟨rfl, (Below.refl _ _).alloc (Nat.le_refl _) _⟩
    | nil =>
      have Q1 := Lib.hid q1; have Q2 := Lib.hid q2; have Q3 := Lib.hid q3
      obtain ⟨A1, k1, hv1⟩ := q1.form
      obtain ⟨A2, k2, hv2⟩ := q2.form
      obtain ⟨A3, k3, hv3⟩ := q3.form
      subst hv1 hv2 hv3
      simp only [List.length_nil] at *
      have HA := Lib.hid (fun W (g1 : Lst W (.slice A1 0 k1) []) (g2 : LstI W (.slice A2 lo0.length k2) lo0) (g3 : LstI W (.slice A3 up0.length k3) up0) => alike_calls (v1 := .agg #[.bool true, .slice A1 0 k1, .slice A2 lo0.length k2, .slice A3 up0.length k3, .int .i64 n, .int .i64 m]) (v2 := .agg #[.bool true, .slice none 0 0, .slice none 0 0, .slice none 0 0, .int .i64 1, .int .i64 0]) ⟨true, [], lo0, up0, n, m⟩ noneD W ⟨_, _, _, rfl, g1, g2, g3⟩ (own_none W 0).dom rfl rfl rfl rfl hl1 hl2)
      have HS1 := Lib.hid (fun W (g : LstI W (.slice A2 lo0.length k2) lo0) => Set_calls lo0 W g)
      have HS2 := Lib.hid (fun W (g : LstI W (.slice A3 up0.length k3) up0) => Set_calls up0 W g)
      have HS3 := Lib.hid (fun W (g : LstI W (.slice A2 lo0.length k2) lo0) (g2 : LstI W (.slice A3 up0.length k3) up0) => Sub_calls lo0 up0 W g g2)
      rw [alike_none] at HA
      have HR : rightD ⟨true, [], lo0, up0, n, m⟩ = (bareD ⟨true, [], lo0, up0, n, m⟩ || (setS lo0 && (setS up0 && (subS lo0 up0 && (decide ((lo0.length : Int) ≤ n) && (decide (n ≤ m) && decide (m ≤ (up0.length : Int)))))))) := rfl
      rw [HR]
      clear HR q1 q2 q3 hl1 hl2
      generalize bareD ⟨true, [], lo0, up0, n, m⟩ = b1 at *
      generalize setS lo0 = b2 at *
      generalize setS up0 = b3 at *
      generalize subS lo0 up0 = b4 at *
      generalize lo0.length = n1 at *
      generalize up0.length = n2 at *
      generalize hb5 : decide ((n1 : Int) ≤ n) = b5
      generalize hb6 : decide (n ≤ m) = b6
      generalize hb7 : decide (m ≤ (n2 : Int)) = b7
      go_enter Tryz.func76, Tryz.ntmps76
      go_wp2_with fail
      go_region_with (first
        | (go_at_call 140; refine (none_calls _).mono ?_; rintro e w1 ⟨vn, rfl, _, rfl, hb1⟩; have hb1 := below_step ((Below.refl _ _).drew) hb1; obtain ⟨hx, hbw⟩ := one_box hb1; have HX := Lib.hid hx; have HB := Lib.hid hbw; obtain ⟨x_0, x_1, x_2, x_3, x_4, x_5⟩ := hx.cells; clear hx hbw hb1)
        | (go_at_call 143; refine (HA.out _ (Q1.out.below HB.out) (Q2.out.below HB.out) (Q3.out.below HB.out)).mono ?_; rintro e w2 ⟨rfl, hb2⟩))
      all_goals
        replace HX := Lib.hid (HX.out.below hb2); replace HB := Lib.hid (below_step HB.out hb2)
        clear x_0 x_1 x_2 x_3 x_4 x_5 hb2
        obtain ⟨x_0, x_1, x_2, x_3, x_4, x_5⟩ := HX.out.cells
        cases b1 with
        | false =>
          go_wp2_with fail
          refine (HS1.out _ (Q2.out.below HB.out)).mono ?_
          rintro e w3 ⟨rfl, hb3⟩
          replace HX := Lib.hid (HX.out.below hb3); replace HB := Lib.hid (below_step HB.out hb3)
          clear x_0 x_1 x_2 x_3 x_4 x_5 hb3
          obtain ⟨x_0, x_1, x_2, x_3, x_4, x_5⟩ := HX.out.cells
          cases b2 with
          | false =>
            go_wp2_with fail
            go_ret
            exact ⟨rfl, HB.out⟩
          | true =>
            go_wp2_with fail
            refine (HS2.out _ (Q3.out.below HB.out)).mono ?_
            rintro e w4 ⟨rfl, hb4⟩
            replace HX := Lib.hid (HX.out.below hb4); replace HB := Lib.hid (below_step HB.out hb4)
            clear x_0 x_1 x_2 x_3 x_4 x_5 hb4
            obtain ⟨x_0, x_1, x_2, x_3, x_4, x_5⟩ := HX.out.cells
            cases b3 with
            | false =>
              go_wp2_with fail
              go_ret
              exact ⟨rfl, HB.out⟩
            | true =>
              go_wp2_with fail
              refine (HS3.out _ (Q2.out.below HB.out) (Q3.out.below HB.out)).mono ?_
              rintro e w5 ⟨rfl, hb5'⟩
              replace HX := Lib.hid (HX.out.below hb5'); replace HB := Lib.hid (below_step HB.out hb5')
              clear x_0 x_1 x_2 x_3 x_4 x_5 hb5'
              obtain ⟨x_0, x_1, x_2, x_3, x_4, x_5⟩ := HX.out.cells
              cases b4 with
              | false =>
                go_wp2_with fail
                go_ret
                exact ⟨rfl, HB.out⟩
              | true =>
                cases b5 with
                | false =>
                  go_wp2_with fail
                  go_ret
                  exact ⟨rfl, HB.out⟩
                | true =>
                  cases b6 with
                  | false =>
                    go_wp2_with fail
                    go_ret
                    exact ⟨rfl, HB.out⟩
                  | true =>
                    go_wp2_with fail
                    go_ret
                    exact ⟨rfl, HB.out⟩
        | true =>
          go_wp2_with fail
          go_ret
          exact ⟨rfl, HB.out⟩
set_option maxRecDepth 100000 in
set_option maxHeartbeats 8000000 in
theorem Empty_calls {v : Value} (d : DomD) (w : World) (h : DomV w v d) (hl1 : d.lo.length ≤ 9000000000000000) (hl2 : d.up.length ≤ 9000000000000000) :
    Calls Tryz.prog 78 #[v] w fun e w' => e = .returned (.bool (emptyD d)) ∧ Below w.heap.size w w' := by
  have HR := Lib.hid (fun W (g : DomV W v d) => Right_calls d W g hl1 hl2)
  have H := Lib.hid h
  obtain ⟨r, lo, up, rfl, q1, q2, q3⟩ := h
  clear q1 q2 q3 hl1 hl2
  unfold emptyD
  generalize rightD d = b1 at *
  generalize hb2 : decide (d.most < d.least) = b2
  generalize d.least = n at *
  generalize d.most = m at *
  generalize d.set = s0 at *
  go_enter Tryz.func78, Tryz.ntmps78
  go_wp2_with fail
  refine (HR.out _ (H.out.below ((Below.refl _ _).alloc (Nat.le_refl _) _))).mono ?_
  rintro e w1 ⟨rfl, hb1⟩
  obtain ⟨hx, hbw⟩ := one_box hb1
  have HX := Lib.hid hx; have HB := Lib.hid hbw
  obtain ⟨x_0, x_1, x_2, x_3, x_4, x_5⟩ := hx.cells
  clear hx hbw hb1
  cases b1 with
  | false =>
    go_wp2_with fail
    go_ret
    exact ⟨rfl, HB.out⟩
  | true =>
    go_wp2_with fail
    go_ret
    exact ⟨rfl, HB.out⟩

end Go.Proofs.YtjeomiooheoegaaGreatDoor.PD

namespace Go.Proofs.YtjeomiooheoegaaGreatDoor.PD
open Go.RowKit Go.Proofs.YtjeomiooheoegaaGreatDoorW.PrintWords Go.Proofs.YtjeomiooheoegaaGreatDoorW.PrintLast Go.Proofs.YtjeomiooheoegaaGreatDoorW.PrintMore
set_option linter.unusedVariables false
set_option linter.unusedSimpArgs false
/-! ### Card, Must, Not of the program -/
theorem Row.far {w : World} {base : Nat} {v : Value} {l : List S119} (h : Row w base v l) {g t : Nat} {cells : Array Value} (hb : w.heap[g]? = some (.cells cells t (0, 0))) (ht : 119 ≠ t) (j : Nat) (u : Value) : Row (w.setCell ⟨g, j, none⟩ u) base v l :=
  own_setCell h (own_ne h hb ht) u
theorem Row.six {W : World} {base g t : Nat} {cs : Array Value} {v : Value} {l : List S119} (hv : Row W base v l) (h : W.heap[g]? = some (.cells cs t (0, 0))) (ht : 119 ≠ t) (a b c d e f : Value) :
    Row ((((((W.setCell ⟨g, 0, none⟩ a).setCell ⟨g, 1, none⟩ b).setCell ⟨g, 2, none⟩ c).setCell ⟨g, 3, none⟩ d).setCell ⟨g, 4, none⟩ e).setCell ⟨g, 5, none⟩ f) base v l :=
  (((((hv.far h ht 0 a).far (blk_set h 0 a) ht 1 b).far (blk_set (blk_set h 0 a) 1 b) ht 2 c).far (blk_set (blk_set (blk_set h 0 a) 1 b) 2 c) ht 3 d).far (blk_set (blk_set (blk_set (blk_set h 0 a) 1 b) 2 c) 3 d) ht 4 e).far (blk_set (blk_set (blk_set (blk_set (blk_set h 0 a) 1 b) 2 c) 3 d) 4 e) ht 5 f
theorem OwnD.six {W : World} {base g : Nat} {cs : Array Value} {v : Value} {D : DomD} (hv : OwnD W base v D) (h : W.heap[g]? = some (.cells cs 52 (0, 0))) (a b c d e f : Value) :
    OwnD ((((((W.setCell ⟨g, 0, none⟩ a).setCell ⟨g, 1, none⟩ b).setCell ⟨g, 2, none⟩ c).setCell ⟨g, 3, none⟩ d).setCell ⟨g, 4, none⟩ e).setCell ⟨g, 5, none⟩ f) base v D := by
  obtain ⟨r, lo, up, e, h1, h2, h3, h4⟩ := hv
  exact ⟨r, lo, up, e, h1.six h (by decide) _ _ _ _ _ _, h2.six h (by decide) _ _ _ _ _ _, h3.six h (by decide) _ _ _ _ _ _, h4⟩
theorem BoxD.frozen {W : World} {g : Nat} {b : Bool} {r lo up : Value} {n m : Int} (h : BoxD W g b r lo up n m) :
    W.frozen? ⟨g, 0, none⟩ = false ∧ W.frozen? ⟨g, 1, none⟩ = false ∧ W.frozen? ⟨g, 2, none⟩ = false ∧ W.frozen? ⟨g, 3, none⟩ = false ∧ W.frozen? ⟨g, 4, none⟩ = false ∧ W.frozen? ⟨g, 5, none⟩ = false :=
  ⟨blk_frozen h 0, blk_frozen h 1, blk_frozen h 2, blk_frozen h 3, blk_frozen h 4, blk_frozen h 5⟩
theorem BoxD.other {W : World} {g g' : Nat} {b : Bool} {r lo up : Value} {n m : Int} (h : BoxD W g b r lo up n m) (hne : g' ≠ g) (c d e f i j : Value) :
    BoxD ((((((W.setCell ⟨g', 0, none⟩ c).setCell ⟨g', 1, none⟩ d).setCell ⟨g', 2, none⟩ e).setCell ⟨g', 3, none⟩ f).setCell ⟨g', 4, none⟩ i).setCell ⟨g', 5, none⟩ j) g b r lo up n m := by
  have k : ∀ (W : World) (o : Nat) (u : Value), (W.setCell ⟨g', o, none⟩ u).heap[g]? = W.heap[g]? := fun W o u => Below.heap_setCell W ⟨g', o, none⟩ u g (Ne.symm hne)
  unfold BoxD
  rw [k, k, k, k, k, k]
  exact h
theorem RowI.one (W : World) (base : Nat) (hb : base ≤ W.heap.size) (x : Int) : RowI (W.alloc (.cells #[.int .i64 x] 2)) base (.slice (some ⟨W.heap.size, 0, none⟩) 1 1) [x] :=
  RowI.mk (own_lit W base 2 .i64 [x] hb (by simp))
theorem OwnD.forms {w : World} {base : Nat} {v : Value} {d : DomD} (h : OwnD w base v d) : ∃ A1 n1 c1 A2 n2 c2 A3 n3 c3, v = .agg #[.bool d.set, .slice A1 n1 c1, .slice A2 n2 c2, .slice A3 n3 c3, .int .i64 d.least, .int .i64 d.most] := by
  obtain ⟨r, lo, up, e, h1, h2, h3, _⟩ := h
  obtain ⟨A1, c1, e1⟩ := h1.lst.form
  obtain ⟨A2, c2, e2⟩ := h2.lst.form
  obtain ⟨A3, c3, e3⟩ := h3.lst.form
  subst e1 e2 e3
  exact ⟨_, _, _, _, _, _, _, _, _, e⟩
end Go.Proofs.YtjeomiooheoegaaGreatDoor.PD

namespace Go.Proofs.YtjeomiooheoegaaGreatDoor.PD
open Go.RowKit Go.Proofs.YtjeomiooheoegaaGreatDoorW.PrintWords Go.Proofs.YtjeomiooheoegaaGreatDoorW.PrintLast Go.Proofs.YtjeomiooheoegaaGreatDoorW.PrintMore
set_option linter.unusedVariables false
set_option linter.unusedSimpArgs false
/-! ### Of of the program -/
theorem results_two {P : Program} {fn : Func} {p u : Tmp} {ty : TypeId} (h : fn.results = #[.cell p ty, .tmp u]) (tmps : Array Value) (w : World) (g : Nat) (t : TypeId) (cs : Array Value) (fr : Nat × Nat) (d : TypeDesc)
    (hp : tmps.getD p undef = .pointer (some ⟨g, 0, none⟩)) (hg : w.heap[g]? = some (.cells cs t fr))
    (hu : P.underlying ty = some d) (hd : (match d with | .struct _ | .array _ _ => true | _ => false) = true) (hi : (P.info? ty).map (·.size) = some cs.size) :
    (results fn tmps).run P w = .ok (.tuple #[.agg cs, tmps.getD u undef]) w := by
  have hp' : tmps[p]?.getD undef = .pointer (some ⟨g, 0, none⟩) := by simpa using hp
  simp [results, h, Sem.run_bind, hp', asAddr, run_loadVar_row w g t ty cs fr d hg hu hd hi]
def zeroD : DomD := ⟨false, [], [], [], 0, 0⟩
def ofD (lo up : List Int) (least most : Int) : DomD × Int := if (setS lo && (setS up && (subS lo up && !decide (least < 0)))) = true then (tightD lo up least most, 0) else (zeroD, 20)
theorem own_zero (w : World) (base : Nat) : OwnD w base (.agg #[.bool false, .slice none 0 0, .slice none 0 0, .slice none 0 0, .int .i64 0, .int .i64 0]) zeroD :=
  ⟨_, _, _, rfl, Row.nil _ _, RowI.nil _ _, RowI.nil _ _, fun k h => by simp [Value.ownBlock] at h⟩
theorem box_six {W : World} {g t : Nat} {b : Bool} {r lo up : Value} {n m : Int} (h : BoxD W g b r lo up n m) (c d e f i j : Value) :
    ((((((W.setCell ⟨g, 0, none⟩ c).setCell ⟨g, 1, none⟩ d).setCell ⟨g, 2, none⟩ e).setCell ⟨g, 3, none⟩ f).setCell ⟨g, 4, none⟩ i).setCell ⟨g, 5, none⟩ j).heap[g]? = some (.cells #[c, d, e, f, i, j] 52 (0, 0)) := six_blk h rfl _ _ _ _ _ _
set_option maxRecDepth 100000 in
set_option maxHeartbeats 8000000 in
theorem Of_calls {v1 v2 : Value} (lo up : List Int) (least most : Int) (w : World) (h1 : LstI w v1 lo) (h2 : LstI w v2 up) :
    Calls Tryz.prog 72 #[v1, v2, .int .i64 least, .int .i64 most] w fun e w' => ∃ v', e = .returned (.tuple #[v', .int .i64 (ofD lo up least most).2]) ∧ OwnD w' w.heap.size v' (ofD lo up least most).1 ∧ Below w.heap.size w w' := by
  have HS1 := Lib.hid (fun W (g : LstI W v1 lo) => Set_calls lo W g)
  have HS2 := Lib.hid (fun W (g : LstI W v2 up) => Set_calls up W g)
  have HS3 := Lib.hid (fun W (g : LstI W v1 lo) (g2 : LstI W v2 up) => Sub_calls lo up W g g2)
  have HT := Lib.hid (fun (q1 : setS lo = true) (q2 : setS up = true) W (g1 : LstI W v1 lo) (g2 : LstI W v2 up) => tight_calls lo up least most W g1 g2 (by have := set_len q1; omega) (by have := set_len q2; omega))
  have Q1 := Lib.hid h1; have Q2 := Lib.hid h2
  clear h1 h2
  unfold ofD
  generalize tightD lo up least most = R at *
  generalize setS lo = b1 at *
  generalize setS up = b2 at *
  generalize subS lo up = b3 at *
  generalize hb4 : decide (least < 0) = b4
  go_enter Tryz.func72, Tryz.ntmps72
  go_wp2_with fail
  refine (HS1.out _ (one_lst _ Q1.out)).mono ?_
  rintro e w1 ⟨rfl, hb1⟩
  obtain ⟨hx, hbw⟩ := one_box hb1
  have HY := Lib.hid hx; have HB := Lib.hid hbw
  obtain ⟨y_0, y_1, y_2, y_3, y_4, y_5⟩ := HY.out.cells
  obtain ⟨f_0, f_1, f_2, f_3, f_4, f_5⟩ := HY.out.frozen
  clear hx hbw hb1
  cases b1 with
  | false =>
    go_wp2_with fail
    have hk := HY.out
    refine bodyPost_ret (results_two rfl _ _ w.heap.size 52 #[_, _, _, _, _, _] (0, 0) _ rfl (six_blk hk rfl _ _ _ _ _ _) Tryz.underlying52 rfl (by kernel_rfl)) rfl ?_
    exact ⟨_, rfl, own_zero _ _, HB.out.trans (six_below (Nat.le_refl _) _ _ _ _ _ _)⟩
  | true =>
    go_wp2_with fail
    refine (HS2.out _ (Q2.out.below HB.out)).mono ?_
    rintro e w2 ⟨rfl, hb2⟩
    replace HY := Lib.hid (HY.out.below hb2); replace HB := Lib.hid (below_step HB.out hb2)
    clear y_0 y_1 y_2 y_3 y_4 y_5 f_0 f_1 f_2 f_3 f_4 f_5
    obtain ⟨y_0, y_1, y_2, y_3, y_4, y_5⟩ := HY.out.cells
    obtain ⟨f_0, f_1, f_2, f_3, f_4, f_5⟩ := HY.out.frozen
    cases b2 with
    | false =>
      go_wp2_with fail
      have hk := HY.out
      refine bodyPost_ret (results_two rfl _ _ w.heap.size 52 #[_, _, _, _, _, _] (0, 0) _ rfl (six_blk hk rfl _ _ _ _ _ _) Tryz.underlying52 rfl (by kernel_rfl)) rfl ?_
      exact ⟨_, rfl, own_zero _ _, HB.out.trans (six_below (Nat.le_refl _) _ _ _ _ _ _)⟩
    | true =>
      go_wp2_with fail
      refine (HS3.out _ (Q1.out.below HB.out) (Q2.out.below HB.out)).mono ?_
      rintro e w3 ⟨rfl, hb3⟩
      replace HY := Lib.hid (HY.out.below hb3); replace HB := Lib.hid (below_step HB.out hb3)
      clear y_0 y_1 y_2 y_3 y_4 y_5 f_0 f_1 f_2 f_3 f_4 f_5
      obtain ⟨y_0, y_1, y_2, y_3, y_4, y_5⟩ := HY.out.cells
      obtain ⟨f_0, f_1, f_2, f_3, f_4, f_5⟩ := HY.out.frozen
      cases b3 with
      | false =>
        go_wp2_with fail
        have hk := HY.out
        refine bodyPost_ret (results_two rfl _ _ w.heap.size 52 #[_, _, _, _, _, _] (0, 0) _ rfl (six_blk hk rfl _ _ _ _ _ _) Tryz.underlying52 rfl (by kernel_rfl)) rfl ?_
        exact ⟨_, rfl, own_zero _ _, HB.out.trans (six_below (Nat.le_refl _) _ _ _ _ _ _)⟩
      | true =>
        cases b4 with
        | false =>
          go_wp2_with fail
          refine (HT.out (by trivial) (by trivial) _ (Q1.out.below HB.out) (Q2.out.below HB.out)).mono ?_
          rintro e w8 ⟨v8, rfl, hO, hb8⟩
          have HO := Lib.hid (hO.lower HB.out.size)
          replace HY := Lib.hid (HY.out.below hb8); replace HB := Lib.hid (below_step HB.out hb8)
          clear y_0 y_1 y_2 y_3 y_4 y_5 f_0 f_1 f_2 f_3 f_4 f_5
          obtain ⟨A1, n1, c1, A2, n2, c2, A3, n3, c3, rfl⟩ := hO.forms
          clear hO hb8
          obtain ⟨y_0, y_1, y_2, y_3, y_4, y_5⟩ := HY.out.cells
          obtain ⟨f_0, f_1, f_2, f_3, f_4, f_5⟩ := HY.out.frozen
          go_wp2_with fail
          have hk := HY.out
          refine bodyPost_ret (results_two rfl _ _ w.heap.size 52 #[_, _, _, _, _, _] (0, 0) _ rfl (six_blk hk rfl _ _ _ _ _ _) Tryz.underlying52 rfl (by kernel_rfl)) rfl ?_
          exact ⟨_, rfl, HO.out.six hk _ _ _ _ _ _, HB.out.trans (six_below (Nat.le_refl _) _ _ _ _ _ _)⟩
        | true =>
          go_wp2_with fail
          have hk := HY.out
          refine bodyPost_ret (results_two rfl _ _ w.heap.size 52 #[_, _, _, _, _, _] (0, 0) _ rfl (six_blk hk rfl _ _ _ _ _ _) Tryz.underlying52 rfl (by kernel_rfl)) rfl ?_
          exact ⟨_, rfl, own_zero _ _, HB.out.trans (six_below (Nat.le_refl _) _ _ _ _ _ _)⟩

end Go.Proofs.YtjeomiooheoegaaGreatDoor.PD

namespace Go.Proofs.YtjeomiooheoegaaGreatDoor.PD
open Go.RowKit Go.Proofs.YtjeomiooheoegaaGreatDoorW.PrintWords Go.Proofs.YtjeomiooheoegaaGreatDoorW.PrintLast Go.Proofs.YtjeomiooheoegaaGreatDoorW.PrintMore
set_option linter.unusedVariables false
set_option linter.unusedSimpArgs false
/-! ### Has of the program -/
theorem one_dom {w : World} {v : Value} {d : DomD} (o : Obj) (h : DomV w v d) : DomV (w.alloc o) v d := h.below ((Below.refl _ _).alloc (Nat.le_refl _) _)
set_option maxRecDepth 100000 in
set_option maxHeartbeats 8000000 in
theorem Has_calls {v v2 : Value} (d : DomD) (l : List Int) (w : World) (h : DomV w v d) (h2 : LstI w v2 l) (hl1 : d.lo.length ≤ 9000000000000000) (hl2 : d.up.length ≤ 9000000000000000) :
    Calls Tryz.prog 46 #[v, v2] w fun e w' => e = .returned (.bool (hasD d l)) ∧ Below w.heap.size w w' := by
  have HE := Lib.hid (fun W (g : DomV W v d) => Empty_calls d W g hl1 hl2)
  have H := Lib.hid h
  have HAS := Lib.hid (fun W (g : LstI W v2 l) => as_calls l W g)
  have Q4 := Lib.hid h2
  obtain ⟨r, lo, up, rfl, q1, q2, q3⟩ := h
  have HS1 := Lib.hid (fun W v (g : LstI W lo d.lo) (g2 : LstI W v (asL l)) => Sub_calls d.lo (asL l) W g g2)
  have HS2 := Lib.hid (fun W v (g2 : LstI W v (asL l)) (g : LstI W up d.up) => Sub_calls (asL l) d.up W g2 g)
  have Q2 := Lib.hid q2; have Q3 := Lib.hid q3
  obtain ⟨A4, c4, e4⟩ := h2.form
  subst e4
  clear q1 q2 q3 hl1 hl2 h2
  unfold hasD
  generalize emptyD d = b1 at *
  generalize subS d.lo (asL l) = b2 at *
  generalize subS (asL l) d.up = b3 at *
  generalize hA : asL l = B at *
  clear hA
  generalize hb4 : decide (d.least ≤ (B.length : Int)) = b4
  generalize hb5 : decide ((B.length : Int) ≤ d.most) = b5
  generalize d.least = n at *
  generalize d.most = m at *
  generalize d.set = s0 at *
  go_enter Tryz.func46, Tryz.ntmps46
  go_wp2_with fail
  refine (HAS.out _ (one_lst _ Q4.out)).mono ?_
  rintro e w1 ⟨v5, rfl, hv5, hb1⟩
  have Q5 := Lib.hid hv5
  obtain ⟨A5, c5, e5⟩ := hv5.form
  subst e5
  clear hv5
  obtain ⟨hx, hbw⟩ := one_box hb1
  have HX := Lib.hid hx; have HB := Lib.hid hbw
  obtain ⟨x_0, x_1, x_2, x_3, x_4, x_5⟩ := hx.cells
  clear hx hbw hb1
  go_wp2_with fail
  refine (HE.out _ (H.out.below HB.out)).mono ?_
  rintro e w2 ⟨rfl, hb2⟩
  replace Q5 := Lib.hid (Q5.out.below hb2); replace HX := Lib.hid (HX.out.below hb2); replace HB := Lib.hid (below_step HB.out hb2)
  clear x_0 x_1 x_2 x_3 x_4 x_5 hb2
  obtain ⟨x_0, x_1, x_2, x_3, x_4, x_5⟩ := HX.out.cells
  cases b1 with
  | false =>
    go_wp2_with fail
    refine (HS1.out _ _ (Q2.out.below HB.out) Q5.out).mono ?_
    rintro e w3 ⟨rfl, hb3⟩
    replace Q5 := Lib.hid (Q5.out.below hb3); replace HX := Lib.hid (HX.out.below hb3); replace HB := Lib.hid (below_step HB.out hb3)
    clear x_0 x_1 x_2 x_3 x_4 x_5 hb3
    obtain ⟨x_0, x_1, x_2, x_3, x_4, x_5⟩ := HX.out.cells
    cases b2 with
    | false =>
      go_wp2_with fail
      go_ret
      exact ⟨rfl, HB.out⟩
    | true =>
      go_wp2_with fail
      refine (HS2.out _ _ Q5.out (Q3.out.below HB.out)).mono ?_
      rintro e w4 ⟨rfl, hb4'⟩
      replace Q5 := Lib.hid (Q5.out.below hb4'); replace HX := Lib.hid (HX.out.below hb4'); replace HB := Lib.hid (below_step HB.out hb4')
      clear x_0 x_1 x_2 x_3 x_4 x_5 hb4'
      obtain ⟨x_0, x_1, x_2, x_3, x_4, x_5⟩ := HX.out.cells
      cases b3 with
      | false =>
        go_wp2_with fail
        go_ret
        exact ⟨rfl, HB.out⟩
      | true =>
        cases b4 with
        | false =>
          go_wp2_with fail
          go_ret
          exact ⟨rfl, HB.out⟩
        | true =>
          cases b5 with
          | false =>
            go_wp2_with fail
            go_ret
            exact ⟨rfl, HB.out⟩
          | true =>
            go_wp2_with fail
            go_ret
            exact ⟨rfl, HB.out⟩
  | true =>
    go_wp2_with fail
    go_ret
    exact ⟨rfl, HB.out⟩

end Go.Proofs.YtjeomiooheoegaaGreatDoor.PD
