/- Parts of the laws of bits: functions of the program, each with the proof of what it answers; the conditions are those of each theorem. -/
import Derived.Test.YtfkbkcdiajjljaaDoorBzci
namespace Go.Proofs.YtfkbkcdiajjljaaDoor.PBitsSteps
open Go.RowKit Go.Proofs.YtfkbkcdiajjljaaDoorW.PrintWords Go.Proofs.YtfkbkcdiajjljaaDoorW.PrintLast Go.Proofs.YtfkbkcdiajjljaaDoorW.PrintMore
set_option linter.unusedVariables false
set_option linter.unusedSimpArgs false
/-! ### BitsPlays -/
set_option maxRecDepth 100000 in
set_option maxHeartbeats 64000000 in
theorem plays_calls (A : Option Addr) (c : Nat) (l : List S71) (A2 : Option Addr) (c2 : Nat) (l2 : List S71) (A3 : Option Addr) (c3 : Nat) (l3 : List Op3) (w : World) (hL : TabLaid w) (hC : Kd.C k71 w A l.length l) (hc : l.length ≤ c) (hC2 : Kd.C k71 w A2 l2.length l2) (hc2 : l2.length ≤ c2) (hO : OpsAt w A3 l3) (hO2 : l3.length < 4611686018427387904) :
    Calls Tryd.prog 5 #[.slice A l.length c, .slice A2 l2.length c2, .slice A3 l3.length c3] w fun e w' => e = .returned (.bool true) ∧ Below w.heap.size w w' := by
  have hz : 0 < w.heap.size := World.block_lt_of_cell? w _ (hL 0 (by decide))
  have HC := Lib.hid hC; have HC2 := Lib.hid hC2; have HL := Lib.hid hL; have HOP := Lib.hid hO
  have HA := of_both2 l
  have HBB := of_both2 l2
  clear hC hC2 hL hO
  obtain ⟨n3, hn3⟩ : ∃ n, n = l3.length := ⟨_, rfl⟩
  rw [← hn3] at hO2 ⊢
  have HN3 := Lib.hid hn3
  clear hn3
  go_enter Tryd.func5, Tryd.ntmps5
  go_wp2_with fail
  rcases HA with ⟨x, HA⟩ | HA
  · have hx2 : (x != 0) = true := by rw [bne_iff_ne]; exact HA.1
    have HA := Lib.hid HA
    rcases HBB with ⟨y, HBB⟩ | HBB
    · have HBB := Lib.hid HBB
      refine ((HA.out.2 A c _ HC.out hc).1).mono ?_
      rintro e w1 ⟨rfl, hb⟩
      have HB1 := Lib.hid hb
      clear hb
      go_wp2_with fail
      refine ((HBB.out.2 A2 c2 _ (Kd.C_below HC2.out HB1.out) hc2).1).mono ?_
      rintro e w2 ⟨rfl, hb⟩
      have HB2 := Lib.hid (below_step HB1.out hb)
      clear hb
      go_wp2_with fail
      refine ((HA.out.2 A c _ (Kd.C_below HC.out HB2.out) hc).2).mono ?_
      rintro e w3 ⟨rfl, hb⟩
      have HB3 := Lib.hid (below_step HB2.out hb)
      clear hb
      go_wp2_with fail
      refine ((HBB.out.2 A2 c2 _ (Kd.C_below HC2.out HB3.out) hc2).2).mono ?_
      rintro e w4 ⟨rfl, hb⟩
      have HB4 := Lib.hid (below_step HB3.out hb)
      clear hb
      go_wp2_with fail
      refine (known_calls _ (tab_keep HL.out (HB4.out.block 0 hz))).mono ?_
      rintro e w9 ⟨rfl, hb9⟩
      have HB9 := Lib.hid (below_step HB4.out hb9)
      clear hb9
      go_wp2_with fail
      go_ret
      exact ⟨rfl, HB9.out⟩
    · have HBB := Lib.hid HBB
      refine ((HA.out.2 A c _ HC.out hc).1).mono ?_
      rintro e w1 ⟨rfl, hb⟩
      have HB1 := Lib.hid hb
      clear hb
      go_wp2_with fail
      refine (of_made A2 c2 l2 _ (Kd.C_below HC2.out HB1.out) hc2 HBB.out.1 HBB.out.2).mono ?_
      rintro e w2 ⟨g2, gp2, rfl, ⟨k3, k4⟩, hs, hb⟩
      have HS2 := Lib.hid hs; have HB12 := Lib.hid hb; have HB2 := Lib.hid (below_step HB1.out hb)
      clear hs hb
      have U2 : setP g2 = .pointer (some ⟨g2, 0, none⟩) := rfl
      rw [U2]
      go_wp2_with fail
      refine ((HA.out.2 A c _ (Kd.C_below HC.out HB2.out) hc).2).mono ?_
      rintro e w3 ⟨rfl, hb⟩
      have HB3 := Lib.hid (below_step HB2.out hb)
      clear hb
      go_wp2_with fail
      refine (refOf_made A2 c2 l2 _ (Kd.C_below HC2.out HB3.out) hc2 HBB.out.1 HBB.out.2).mono ?_
      rintro e w4 ⟨q2, ql2, rfl, ⟨k7, k8⟩, hs, hb⟩
      have HR4 := Lib.hid hs; have HB34 := Lib.hid hb; have HB4 := Lib.hid (below_step HB3.out hb)
      clear hs hb
      have V2 : refP q2 = .pointer (some ⟨q2, 0, none⟩) := rfl
      rw [V2]
      go_wp2_with fail
      refine (known_calls _ (tab_keep HL.out (HB4.out.block 0 hz))).mono ?_
      rintro e w9 ⟨rfl, hb9⟩
      have HB9 := Lib.hid (below_step HB4.out hb9)
      clear hb9
      go_wp2_with fail
      go_ret
      exact ⟨rfl, HB9.out⟩
  · have HA := Lib.hid HA
    rcases HBB with ⟨y, HBB⟩ | HBB
    · have hy2 : (y != 0) = true := by rw [bne_iff_ne]; exact HBB.1
      have HBB := Lib.hid HBB
      refine (of_made A c l _ HC.out hc HA.out.1 HA.out.2).mono ?_
      rintro e w1 ⟨g, gp, rfl, ⟨k1, k2⟩, hs, hb⟩
      have HS1 := Lib.hid hs; have HB1 := Lib.hid hb
      clear hs hb
      have U : setP g = .pointer (some ⟨g, 0, none⟩) := rfl
      rw [U]
      go_wp2_with fail
      refine ((HBB.out.2 A2 c2 _ (Kd.C_below HC2.out HB1.out) hc2).1).mono ?_
      rintro e w2 ⟨rfl, hb⟩
      have HB2 := Lib.hid (below_step HB1.out hb)
      clear hb
      go_wp2_with fail
      refine (refOf_made A c l _ (Kd.C_below HC.out HB2.out) hc HA.out.1 HA.out.2).mono ?_
      rintro e w3 ⟨q, ql, rfl, ⟨k5, k6⟩, hs, hb⟩
      have HR3 := Lib.hid hs; have HB23 := Lib.hid hb; have HB3 := Lib.hid (below_step HB2.out hb)
      clear hs hb
      have V : refP q = .pointer (some ⟨q, 0, none⟩) := rfl
      rw [V]
      go_wp2_with fail
      refine ((HBB.out.2 A2 c2 _ (Kd.C_below HC2.out HB3.out) hc2).2).mono ?_
      rintro e w4 ⟨rfl, hb⟩
      have HB4 := Lib.hid (below_step HB3.out hb)
      clear hb
      go_wp2_with fail
      refine (known_calls _ (tab_keep HL.out (HB4.out.block 0 hz))).mono ?_
      rintro e w9 ⟨rfl, hb9⟩
      have HB9 := Lib.hid (below_step HB4.out hb9)
      clear hb9
      go_wp2_with fail
      go_ret
      exact ⟨rfl, HB9.out⟩
    · have HBB := Lib.hid HBB
      refine (of_made A c l _ HC.out hc HA.out.1 HA.out.2).mono ?_
      rintro e w1 ⟨g, gp, rfl, ⟨k1, k2⟩, hs, hb⟩
      have HS1 := Lib.hid hs; have HB1 := Lib.hid hb
      clear hs hb
      have U : setP g = .pointer (some ⟨g, 0, none⟩) := rfl
      rw [U]
      go_wp2_with fail
      refine (of_made A2 c2 l2 _ (Kd.C_below HC2.out HB1.out) hc2 HBB.out.1 HBB.out.2).mono ?_
      rintro e w2 ⟨g2, gp2, rfl, ⟨k3, k4⟩, hs, hb⟩
      have HS2 := Lib.hid hs; have HB12 := Lib.hid hb; have HB2 := Lib.hid (below_step HB1.out hb)
      clear hs hb
      have U2 : setP g2 = .pointer (some ⟨g2, 0, none⟩) := rfl
      rw [U2]
      go_wp2_with fail
      refine (refOf_made A c l _ (Kd.C_below HC.out HB2.out) hc HA.out.1 HA.out.2).mono ?_
      rintro e w3 ⟨q, ql, rfl, ⟨k5, k6⟩, hs, hb⟩
      have HR3 := Lib.hid hs; have HB23 := Lib.hid hb; have HB3 := Lib.hid (below_step HB2.out hb)
      clear hs hb
      have V : refP q = .pointer (some ⟨q, 0, none⟩) := rfl
      rw [V]
      go_wp2_with fail
      refine (refOf_made A2 c2 l2 _ (Kd.C_below HC2.out HB3.out) hc2 HBB.out.1 HBB.out.2).mono ?_
      rintro e w4 ⟨q2, ql2, rfl, ⟨k7, k8⟩, hs, hb⟩
      have HR4 := Lib.hid hs; have HB34 := Lib.hid hb; have HB4 := Lib.hid (below_step HB3.out hb)
      clear hs hb
      have V2 : refP q2 = .pointer (some ⟨q2, 0, none⟩) := rfl
      rw [V2]
      have hs1' := HB1.out.size
      have hs2' := HB12.out.size
      have hs3' := HB23.out.size
      have hs4' := HB34.out.size
      have hr3 := HR3.out.below HB34.out
      have hl1 := HS1.out.lt; have hl2 := HS2.out.lt; have hl3 := HR3.out.lt; have hl4 := HR4.out.lt
      have HT1 := Lib.hid (show Twin w.heap.size w4 g gp q ql (firstS l) (lastS l - firstS l + 1) (inL (spanAll l)) from ⟨((HS1.out.below HB12.out).below HB23.out).below HB34.out, hr3, by omega, by omega, by omega, by omega⟩)
      have HT2 := Lib.hid (show Twin w.heap.size w4 g2 gp2 q2 ql2 (firstS l2) (lastS l2 - firstS l2 + 1) (inL (spanAll l2)) from ⟨(HS2.out.below HB23.out).below HB34.out, HR4.out, by omega, by omega, by omega, by omega⟩)
      have HAP := Lib.hid (show Apart gp q ql gp2 q2 ql2 from ⟨by omega, by omega, by omega⟩)
      have HTL := Lib.hid (tab_keep HL.out (HB4.out.block 0 hz))
      clear HS1 HS2 HR3 HR4 HB12 HB23 HB34 hr3 hl1 hl2 hl3 hl4 HB1 HB2 HB3 HA HBB U U2 V V2
      generalize firstS l = f at *
      generalize lastS l - f + 1 = r at *
      generalize inL (spanAll l) = M at *
      generalize firstS l2 = f2 at *
      generalize lastS l2 - f2 + 1 = r2 at *
      generalize inL (spanAll l2) = M2 at *
      have c1 : w4.cell? ⟨q, 1, none⟩ = some (.slice (some ⟨ql, 0, none⟩) r.toNat (Classical.choose HT1.out.hr)) := refB_row (Classical.choose_spec (Classical.choose_spec HT1.out.hr)).1
      have c2' : w4.cell? ⟨q2, 1, none⟩ = some (.slice (some ⟨ql2, 0, none⟩) r2.toNat (Classical.choose HT2.out.hr)) := refB_row (Classical.choose_spec (Classical.choose_spec HT2.out.hr)).1
      generalize Classical.choose HT1.out.hr = cc1 at *
      generalize Classical.choose HT2.out.hr = cc2 at *
      by_cases hbig : 3000 < r.toNat
      · have hb1 : decide (3000 < ((r.toNat : Nat) : Int)) = true := decide_eq_true (by omega)
        go_wp2_with fail
        refine (known_calls _ (tab_keep HL.out (HB4.out.block 0 hz))).mono ?_
        rintro e w9 ⟨rfl, hb9⟩
        have HB9 := Lib.hid (below_step HB4.out hb9)
        clear hb9
        go_wp2_with fail
        go_ret
        exact ⟨rfl, HB9.out⟩
      have hb1 : decide (3000 < ((r.toNat : Nat) : Int)) = false := decide_eq_false (by omega)
      by_cases hbig2 : 3000 < r2.toNat
      · have hb2 : decide (3000 < ((r2.toNat : Nat) : Int)) = true := decide_eq_true (by omega)
        go_wp2_with fail
        refine (known_calls _ (tab_keep HL.out (HB4.out.block 0 hz))).mono ?_
        rintro e w9 ⟨rfl, hb9⟩
        have HB9 := Lib.hid (below_step HB4.out hb9)
        clear hb9
        go_wp2_with fail
        go_ret
        exact ⟨rfl, HB9.out⟩
      have hb2 : decide (3000 < ((r2.toNat : Nat) : Int)) = false := decide_eq_false (by omega)
      go_wp2_with fail
      clear c1 c2' hb1 hb2 hbig hbig2 HA HBB k1 k2 k3 k4 k5 k6 k7 k8 hs1' hs2' hs3' hs4' HTL
      go_loopw [7, 9, 11, 13, 15] (fun s t a b i wr => ∃ (k g gp q ql g2 gp2 q2 ql2 : Nat) (f r : Int) (M : Int → Bool) (f2 r2 : Int) (M2 : Int → Bool), s = .pointer (some ⟨g, 0, none⟩) ∧ t = .pointer (some ⟨g2, 0, none⟩) ∧ a = .pointer (some ⟨q, 0, none⟩) ∧ b = .pointer (some ⟨q2, 0, none⟩) ∧ i = .int .i64 k ∧ k ≤ n3 ∧ k ≤ 100 ∧ Hid (Twin w.heap.size wr g gp q ql f r M) ∧ Hid (Twin w.heap.size wr g2 gp2 q2 ql2 f2 r2 M2) ∧ Hid (Apart gp q ql gp2 q2 ql2) ∧ Hid (Below w.heap.size w wr))
        (fun _ _ _ _ i _ => n3 - (intOf i).toNat)
      case atStart => exact ⟨0, g, gp, q, ql, g2, gp2, q2, ql2, f, r, M, f2, r2, M2, rfl, rfl, rfl, rfl, rfl, by omega, by omega, HT1, HT2, HAP, HB4⟩
      case round =>
        clear HT1 HT2 HAP HB4
        obtain ⟨k, g, gp, q, ql, g2, gp2, q2, ql2, f, r, M, f2, r2, M2, rfl, rfl, rfl, rfl, rfl, hk, hk100, hT1, hT2, hAP, hB⟩ := hrel
        have hsz := hB.out.size
        by_cases hkn : k < n3 ∧ k < 100
        · obtain ⟨hkn, hkh⟩ := hkn
          obtain ⟨hv, ad, hA, hlt, d0, d1, d2⟩ := (HOP.out.below hB.out) k (by rw [← HN3.out]; exact hkn)
          obtain ⟨kd, hkd⟩ : ∃ x, x = (l3[k]'(by rw [← HN3.out]; exact hkn)).kind := ⟨_, rfl⟩
          obtain ⟨v, hvd⟩ : ∃ x, x = (l3[k]'(by rw [← HN3.out]; exact hkn)).v := ⟨_, rfl⟩
          obtain ⟨on, hon⟩ : ∃ x, x = (l3[k]'(by rw [← HN3.out]; exact hkn)).on := ⟨_, rfl⟩
          rw [← hkd] at d0
          rw [← hvd] at d1 hv
          rw [← hon] at d2
          subst hA
          clear hkd hvd hon
          have hkind : kd = 0 ∨ kd = 1 ∨ kd = 2 ∨ kd = 3 ∨ kd = 4 ∨ kd = 5 ∨ kd = 6 ∨ ((kd == 0) = false ∧ (kd == 1) = false ∧ (kd == 2) = false ∧ (kd == 3) = false ∧ (kd == 4) = false ∧ (kd == 5) = false ∧ (kd == 6) = false) := by
            simp only [beq_eq_false_iff_ne]
            omega
          cases on with
          | false =>
            rcases hkind with rfl | rfl | rfl | rfl | rfl | rfl | rfl | ⟨e0, e1, e2, e3, e4, e5, e6⟩
            · as_aux_lemma =>
                go_wp2_with fail
                have hbo := World.alloc_heap_new wr (.cells #[.int .i64 0, .int .i64 v, .bool false] 50)
                have hbw : Below wr.heap.size wr (wr.alloc (.cells #[.int .i64 0, .int .i64 v, .bool false] 50)) := (Below.refl _ _).alloc (Nat.le_refl _) _
                generalize wr.alloc (.cells #[.int .i64 0, .int .i64 v, .bool false] 50) = W1 at *
                have HBO := Lib.hid hbo; have HBW := Lib.hid (below_step hB.out hbw)
                have T1 := Lib.hid (hT1.out.below hbw); have T2 := Lib.hid (hT2.out.below hbw); have AP := Lib.hid (hAP.out)
                have hs1 := hbw.size
                have l1 := hT1.out.hs.lt; have l2 := hT1.out.hr.lt
                have HT := Lib.hid (tab_keep HL.out (HBW.out.block 0 hz))
                clear hbo hbw hT1 hT2 hAP hB
                have hset := T1.out.hs; have hlo := T1.out.lo
                have sr := set_ref T1.out.hs T1.out.hr
                refine (hset.addA v w.heap.size hlo.2.1).mono ?_
                rintro e wa ⟨rfl, a1, a2, a3⟩
                have ko := (a2.2 wr.heap.size (blk_lt HBO.out) (by simp; omega)).trans HBO.out
                have cv2 : wa.cell? ⟨wr.heap.size, 1, none⟩ = some (.int .i64 v) := blk_cell ko 1
                have HA1 := Lib.hid a1; have HA2 := Lib.hid a2; have HA3 := Lib.hid a3; have HKO := Lib.hid ko
                have HR1 := Lib.hid (T1.out.hr.keepX a2 (by simp; omega) (by simp; omega))
                have hsa := a2.1
                clear hset a1 a2 a3 ko
                obtain ⟨ab, hab⟩ : ∃ x, x = addB f r M v := ⟨_, rfl⟩
                obtain ⟨ac, hac⟩ : ∃ x, x = addC f r v := ⟨_, rfl⟩
                rw [← hab, ← hac]
                go_wp2_with fail
                refine (HR1.out.addA v w.heap.size hlo.2.2.2).mono ?_
                rintro e wb ⟨rfl, b1, b2, b3⟩
                rw [← hab, ← hac]
                clear hab hac
                have ko := (b2.2 wr.heap.size (blk_lt HKO.out) (by simp; omega)).trans HKO.out
                have cv3 : wb.cell? ⟨wr.heap.size, 1, none⟩ = some (.int .i64 v) := blk_cell ko 1
                have hset2 := HA1.out.keepX b2 (by simp; omega) (by simp; omega)
                have hk : keepX [gp, ql, q] W1 wb := (HA2.out.mono (by simp)).trans (b2.mono (by simp))
                obtain ⟨t1, t2, t3⟩ := T1.out.after T2.out AP.out hset2 b1 (.inl rfl) hk (by have := HBW.out.size; omega)
                have HBn := Lib.hid ((HBW.out.trans HA3.out).trans b3)
                generalize wb = Wn at *
                obtain ⟨qn, Mn, TA, TB, TC⟩ : ∃ qn Mn, Hid (Twin w.heap.size Wn g gp q qn f r Mn) ∧ Hid (Twin w.heap.size Wn g2 gp2 q2 ql2 f2 r2 M2) ∧ Hid (Apart gp q qn gp2 q2 ql2) := ⟨_, _, Lib.hid t1, Lib.hid t2, Lib.hid t3⟩
                clear b1 b2 b3 ko cv2 hset2 hk t1 t2 t3 T1 T2 AP HA1 HA2 HA3 HKO HR1
                have e1 : (ab == ab) = true := beq_self_eq_true _
                have e2 : (ac == ac) = true := beq_self_eq_true _
                have HTn := Lib.hid (tab_keep HL.out (HBn.out.block 0 hz))
                have hsn := HBn.out.size
                go_wp2_with fail
                refine (alike_calls TA.out.hs TA.out.hr HTn.out v hv).mono ?_
                rintro e wc ⟨rfl, hbc⟩
                have HBc := Lib.hid hbc
                clear hbc cv3
                go_wp2_with fail
                refine ((TA.out.hs.below HBc.out).same (tab_keep HTn.out (HBc.out.block 0 (by omega))) (TB.out.hs.below HBc.out)).mono ?_
                rintro e wd ⟨rfl, hbd⟩
                have HBd := Lib.hid (below_step HBc.out hbd)
                clear hbd
                have hin := TA.out.hr.inn.1
                have hin2 := TB.out.hr.inn.1
                have hl5 : (vals Mn f r).length ≤ 65536 := by
                  have h2 := valsTo_len Mn f (r).toNat
                  unfold vals
                  omega
                have hl6 : (vals M2 f2 r2).length ≤ 65536 := by
                  have h2 := valsTo_len M2 f2 (r2).toNat
                  unfold vals
                  omega
                have HVA := Lib.hid (fun W (h : Below Wn.heap.size Wn W) => (TA.out.hr.below h).values)
                have HVB := Lib.hid (fun W (h : Below Wn.heap.size Wn W) => (TB.out.hr.below h).values)
                generalize vals Mn f r = LA at *
                generalize vals M2 f2 r2 = LB at *
                obtain ⟨bs, hbs⟩ : ∃ x, x = decide (LA = LB) := ⟨_, rfl⟩
                rw [← hbs]
                have HBS := Lib.hid hbs
                clear hbs hin hin2
                go_wp2_with fail
                refine (HVA.out _ HBd.out).mono ?_
                rintro e we ⟨v1, rfl, hrow, hbe⟩
                obtain ⟨A5, c5, rfl, hv5⟩ := row_ints hrow rfl
                have HBe := Lib.hid (below_step HBd.out hbe); have HV5 := Lib.hid hv5
                clear hbe hv5 hrow
                go_wp2_with fail
                refine (HVB.out _ HBe.out).mono ?_
                rintro e wf ⟨v2, rfl, hrow, hbf⟩
                obtain ⟨A6, c6, rfl, hv6⟩ := row_ints hrow rfl
                have HBf := Lib.hid (below_step HBe.out hbf); have HV6 := Lib.hid hv6
                have HV5' := Lib.hid (HV5.out.below hbf)
                clear hbf hv6 hrow
                go_wp2_with fail
                refine (ints_same A5 A6 c5 c6 LA LB _ HV5'.out HV6.out hl5 hl6).mono ?_
                rintro e wg ⟨rfl, hdg⟩
                have HBg := Lib.hid (below_step HBn.out (below_step HBf.out hdg.below))
                have HNg := Lib.hid (below_step HBf.out hdg.below)
                rw [← HBS.out]
                clear hdg
                have e7 : (bs != bs) = false := by cases bs <;> rfl
                go_wp2_with fail
                go_roundw
                case rel =>
                  exact ⟨k + 1, g, gp, q, qn, g2, gp2, q2, ql2, f, r, Mn, f2, r2, M2, rfl, rfl, rfl, rfl, by go_num, by omega, by omega, Lib.hid (TA.out.below HNg.out), Lib.hid (TB.out.below HNg.out), TC, HBg⟩
                case measure => simp [intOf]; omega
            · as_aux_lemma =>
                go_wp2_with fail
                have hbo := World.alloc_heap_new wr (.cells #[.int .i64 1, .int .i64 v, .bool false] 50)
                have hbw : Below wr.heap.size wr (wr.alloc (.cells #[.int .i64 1, .int .i64 v, .bool false] 50)) := (Below.refl _ _).alloc (Nat.le_refl _) _
                generalize wr.alloc (.cells #[.int .i64 1, .int .i64 v, .bool false] 50) = W1 at *
                have HBO := Lib.hid hbo; have HBW := Lib.hid (below_step hB.out hbw)
                have T1 := Lib.hid (hT1.out.below hbw); have T2 := Lib.hid (hT2.out.below hbw); have AP := Lib.hid (hAP.out)
                have hs1 := hbw.size
                have l1 := hT1.out.hs.lt; have l2 := hT1.out.hr.lt
                have HT := Lib.hid (tab_keep HL.out (HBW.out.block 0 hz))
                clear hbo hbw hT1 hT2 hAP hB
                have hset := T1.out.hs; have hlo := T1.out.lo
                have sr := set_ref T1.out.hs T1.out.hr
                refine (hset.addA v w.heap.size hlo.2.1).mono ?_
                rintro e wa ⟨rfl, a1, a2, a3⟩
                have ko := (a2.2 wr.heap.size (blk_lt HBO.out) (by simp; omega)).trans HBO.out
                have cv2 : wa.cell? ⟨wr.heap.size, 1, none⟩ = some (.int .i64 v) := blk_cell ko 1
                have HA1 := Lib.hid a1; have HA2 := Lib.hid a2; have HA3 := Lib.hid a3; have HKO := Lib.hid ko
                have HR1 := Lib.hid (T1.out.hr.keepX a2 (by simp; omega) (by simp; omega))
                have hsa := a2.1
                clear hset a1 a2 a3 ko
                obtain ⟨ab, hab⟩ : ∃ x, x = addB f r M v := ⟨_, rfl⟩
                obtain ⟨ac, hac⟩ : ∃ x, x = addC f r v := ⟨_, rfl⟩
                rw [← hab, ← hac]
                go_wp2_with fail
                refine (HR1.out.addA v w.heap.size hlo.2.2.2).mono ?_
                rintro e wb ⟨rfl, b1, b2, b3⟩
                rw [← hab, ← hac]
                clear hab hac
                have ko := (b2.2 wr.heap.size (blk_lt HKO.out) (by simp; omega)).trans HKO.out
                have cv3 : wb.cell? ⟨wr.heap.size, 1, none⟩ = some (.int .i64 v) := blk_cell ko 1
                have hset2 := HA1.out.keepX b2 (by simp; omega) (by simp; omega)
                have hk : keepX [gp, ql, q] W1 wb := (HA2.out.mono (by simp)).trans (b2.mono (by simp))
                obtain ⟨t1, t2, t3⟩ := T1.out.after T2.out AP.out hset2 b1 (.inl rfl) hk (by have := HBW.out.size; omega)
                have HBn := Lib.hid ((HBW.out.trans HA3.out).trans b3)
                generalize wb = Wn at *
                obtain ⟨qn, Mn, TA, TB, TC⟩ : ∃ qn Mn, Hid (Twin w.heap.size Wn g gp q qn f r Mn) ∧ Hid (Twin w.heap.size Wn g2 gp2 q2 ql2 f2 r2 M2) ∧ Hid (Apart gp q qn gp2 q2 ql2) := ⟨_, _, Lib.hid t1, Lib.hid t2, Lib.hid t3⟩
                clear b1 b2 b3 ko cv2 hset2 hk t1 t2 t3 T1 T2 AP HA1 HA2 HA3 HKO HR1
                have e1 : (ab == ab) = true := beq_self_eq_true _
                have e2 : (ac == ac) = true := beq_self_eq_true _
                have HTn := Lib.hid (tab_keep HL.out (HBn.out.block 0 hz))
                have hsn := HBn.out.size
                go_wp2_with fail
                refine (alike_calls TA.out.hs TA.out.hr HTn.out v hv).mono ?_
                rintro e wc ⟨rfl, hbc⟩
                have HBc := Lib.hid hbc
                clear hbc cv3
                go_wp2_with fail
                refine ((TA.out.hs.below HBc.out).same (tab_keep HTn.out (HBc.out.block 0 (by omega))) (TB.out.hs.below HBc.out)).mono ?_
                rintro e wd ⟨rfl, hbd⟩
                have HBd := Lib.hid (below_step HBc.out hbd)
                clear hbd
                have hin := TA.out.hr.inn.1
                have hin2 := TB.out.hr.inn.1
                have hl5 : (vals Mn f r).length ≤ 65536 := by
                  have h2 := valsTo_len Mn f (r).toNat
                  unfold vals
                  omega
                have hl6 : (vals M2 f2 r2).length ≤ 65536 := by
                  have h2 := valsTo_len M2 f2 (r2).toNat
                  unfold vals
                  omega
                have HVA := Lib.hid (fun W (h : Below Wn.heap.size Wn W) => (TA.out.hr.below h).values)
                have HVB := Lib.hid (fun W (h : Below Wn.heap.size Wn W) => (TB.out.hr.below h).values)
                generalize vals Mn f r = LA at *
                generalize vals M2 f2 r2 = LB at *
                obtain ⟨bs, hbs⟩ : ∃ x, x = decide (LA = LB) := ⟨_, rfl⟩
                rw [← hbs]
                have HBS := Lib.hid hbs
                clear hbs hin hin2
                go_wp2_with fail
                refine (HVA.out _ HBd.out).mono ?_
                rintro e we ⟨v1, rfl, hrow, hbe⟩
                obtain ⟨A5, c5, rfl, hv5⟩ := row_ints hrow rfl
                have HBe := Lib.hid (below_step HBd.out hbe); have HV5 := Lib.hid hv5
                clear hbe hv5 hrow
                go_wp2_with fail
                refine (HVB.out _ HBe.out).mono ?_
                rintro e wf ⟨v2, rfl, hrow, hbf⟩
                obtain ⟨A6, c6, rfl, hv6⟩ := row_ints hrow rfl
                have HBf := Lib.hid (below_step HBe.out hbf); have HV6 := Lib.hid hv6
                have HV5' := Lib.hid (HV5.out.below hbf)
                clear hbf hv6 hrow
                go_wp2_with fail
                refine (ints_same A5 A6 c5 c6 LA LB _ HV5'.out HV6.out hl5 hl6).mono ?_
                rintro e wg ⟨rfl, hdg⟩
                have HBg := Lib.hid (below_step HBn.out (below_step HBf.out hdg.below))
                have HNg := Lib.hid (below_step HBf.out hdg.below)
                rw [← HBS.out]
                clear hdg
                have e7 : (bs != bs) = false := by cases bs <;> rfl
                go_wp2_with fail
                go_roundw
                case rel =>
                  exact ⟨k + 1, g, gp, q, qn, g2, gp2, q2, ql2, f, r, Mn, f2, r2, M2, rfl, rfl, rfl, rfl, by go_num, by omega, by omega, Lib.hid (TA.out.below HNg.out), Lib.hid (TB.out.below HNg.out), TC, HBg⟩
                case measure => simp [intOf]; omega
            · as_aux_lemma =>
                go_wp2_with fail
                have hbo := World.alloc_heap_new wr (.cells #[.int .i64 2, .int .i64 v, .bool false] 50)
                have hbw : Below wr.heap.size wr (wr.alloc (.cells #[.int .i64 2, .int .i64 v, .bool false] 50)) := (Below.refl _ _).alloc (Nat.le_refl _) _
                generalize wr.alloc (.cells #[.int .i64 2, .int .i64 v, .bool false] 50) = W1 at *
                have HBO := Lib.hid hbo; have HBW := Lib.hid (below_step hB.out hbw)
                have T1 := Lib.hid (hT1.out.below hbw); have T2 := Lib.hid (hT2.out.below hbw); have AP := Lib.hid (hAP.out)
                have hs1 := hbw.size
                have l1 := hT1.out.hs.lt; have l2 := hT1.out.hr.lt
                have HT := Lib.hid (tab_keep HL.out (HBW.out.block 0 hz))
                clear hbo hbw hT1 hT2 hAP hB
                have hset := T1.out.hs; have hlo := T1.out.lo
                have sr := set_ref T1.out.hs T1.out.hr
                refine (hset.delA v w.heap.size hlo.2.1).mono ?_
                rintro e wa ⟨rfl, a1, a2, a3⟩
                have ko := (a2.2 wr.heap.size (blk_lt HBO.out) (by simp; omega)).trans HBO.out
                have cv2 : wa.cell? ⟨wr.heap.size, 1, none⟩ = some (.int .i64 v) := blk_cell ko 1
                have HA1 := Lib.hid a1; have HA2 := Lib.hid a2; have HA3 := Lib.hid a3; have HKO := Lib.hid ko
                have HR1 := Lib.hid (T1.out.hr.keepX a2 (by simp; omega) (by simp; omega))
                have hsa := a2.1
                clear hset a1 a2 a3 ko
                obtain ⟨ab, hab⟩ : ∃ x, x = M v := ⟨_, rfl⟩
                rw [← hab]
                go_wp2_with fail
                refine (HR1.out.delA v w.heap.size hlo.2.2.2).mono ?_
                rintro e wb ⟨rfl, b1, b2, b3⟩
                rw [← hab]
                clear hab
                have ko := (b2.2 wr.heap.size (blk_lt HKO.out) (by simp; omega)).trans HKO.out
                have cv3 : wb.cell? ⟨wr.heap.size, 1, none⟩ = some (.int .i64 v) := blk_cell ko 1
                have hset2 := HA1.out.keepX b2 (by simp; omega) (by simp; omega)
                have hk : keepX [gp, ql, q] W1 wb := (HA2.out.mono (by simp)).trans (b2.mono (by simp))
                obtain ⟨t1, t2, t3⟩ := T1.out.after T2.out AP.out hset2 b1 (.inl rfl) hk (by have := HBW.out.size; omega)
                have HBn := Lib.hid ((HBW.out.trans HA3.out).trans b3)
                generalize wb = Wn at *
                obtain ⟨qn, Mn, TA, TB, TC⟩ : ∃ qn Mn, Hid (Twin w.heap.size Wn g gp q qn f r Mn) ∧ Hid (Twin w.heap.size Wn g2 gp2 q2 ql2 f2 r2 M2) ∧ Hid (Apart gp q qn gp2 q2 ql2) := ⟨_, _, Lib.hid t1, Lib.hid t2, Lib.hid t3⟩
                clear b1 b2 b3 ko cv2 hset2 hk t1 t2 t3 T1 T2 AP HA1 HA2 HA3 HKO HR1
                have e1 : (ab == ab) = true := beq_self_eq_true _
                have HTn := Lib.hid (tab_keep HL.out (HBn.out.block 0 hz))
                have hsn := HBn.out.size
                go_wp2_with fail
                refine (alike_calls TA.out.hs TA.out.hr HTn.out v hv).mono ?_
                rintro e wc ⟨rfl, hbc⟩
                have HBc := Lib.hid hbc
                clear hbc cv3
                go_wp2_with fail
                refine ((TA.out.hs.below HBc.out).same (tab_keep HTn.out (HBc.out.block 0 (by omega))) (TB.out.hs.below HBc.out)).mono ?_
                rintro e wd ⟨rfl, hbd⟩
                have HBd := Lib.hid (below_step HBc.out hbd)
                clear hbd
                have hin := TA.out.hr.inn.1
                have hin2 := TB.out.hr.inn.1
                have hl5 : (vals Mn f r).length ≤ 65536 := by
                  have h2 := valsTo_len Mn f (r).toNat
                  unfold vals
                  omega
                have hl6 : (vals M2 f2 r2).length ≤ 65536 := by
                  have h2 := valsTo_len M2 f2 (r2).toNat
                  unfold vals
                  omega
                have HVA := Lib.hid (fun W (h : Below Wn.heap.size Wn W) => (TA.out.hr.below h).values)
                have HVB := Lib.hid (fun W (h : Below Wn.heap.size Wn W) => (TB.out.hr.below h).values)
                generalize vals Mn f r = LA at *
                generalize vals M2 f2 r2 = LB at *
                obtain ⟨bs, hbs⟩ : ∃ x, x = decide (LA = LB) := ⟨_, rfl⟩
                rw [← hbs]
                have HBS := Lib.hid hbs
                clear hbs hin hin2
                go_wp2_with fail
                refine (HVA.out _ HBd.out).mono ?_
                rintro e we ⟨v1, rfl, hrow, hbe⟩
                obtain ⟨A5, c5, rfl, hv5⟩ := row_ints hrow rfl
                have HBe := Lib.hid (below_step HBd.out hbe); have HV5 := Lib.hid hv5
                clear hbe hv5 hrow
                go_wp2_with fail
                refine (HVB.out _ HBe.out).mono ?_
                rintro e wf ⟨v2, rfl, hrow, hbf⟩
                obtain ⟨A6, c6, rfl, hv6⟩ := row_ints hrow rfl
                have HBf := Lib.hid (below_step HBe.out hbf); have HV6 := Lib.hid hv6
                have HV5' := Lib.hid (HV5.out.below hbf)
                clear hbf hv6 hrow
                go_wp2_with fail
                refine (ints_same A5 A6 c5 c6 LA LB _ HV5'.out HV6.out hl5 hl6).mono ?_
                rintro e wg ⟨rfl, hdg⟩
                have HBg := Lib.hid (below_step HBn.out (below_step HBf.out hdg.below))
                have HNg := Lib.hid (below_step HBf.out hdg.below)
                rw [← HBS.out]
                clear hdg
                have e7 : (bs != bs) = false := by cases bs <;> rfl
                go_wp2_with fail
                go_roundw
                case rel =>
                  exact ⟨k + 1, g, gp, q, qn, g2, gp2, q2, ql2, f, r, Mn, f2, r2, M2, rfl, rfl, rfl, rfl, by go_num, by omega, by omega, Lib.hid (TA.out.below HNg.out), Lib.hid (TB.out.below HNg.out), TC, HBg⟩
                case measure => simp [intOf]; omega
            · as_aux_lemma =>
                go_wp2_with fail
                have hbo := World.alloc_heap_new wr (.cells #[.int .i64 3, .int .i64 v, .bool false] 50)
                have hbw : Below wr.heap.size wr (wr.alloc (.cells #[.int .i64 3, .int .i64 v, .bool false] 50)) := (Below.refl _ _).alloc (Nat.le_refl _) _
                generalize wr.alloc (.cells #[.int .i64 3, .int .i64 v, .bool false] 50) = W1 at *
                have HBO := Lib.hid hbo; have HBW := Lib.hid (below_step hB.out hbw)
                have T1 := Lib.hid (hT1.out.below hbw); have T2 := Lib.hid (hT2.out.below hbw); have AP := Lib.hid (hAP.out)
                have hs1 := hbw.size
                have l1 := hT1.out.hs.lt; have l2 := hT1.out.hr.lt
                have HT := Lib.hid (tab_keep HL.out (HBW.out.block 0 hz))
                clear hbo hbw hT1 hT2 hAP hB
                have hlo := T1.out.lo
                have hsw := HBW.out.size
                refine (join_calls w.heap.size _ T1.out.hs T1.out.hr (T1.out.other T2.out AP.out) HT.out (by omega) ⟨hlo.1, hlo.2.1, hlo.2.2.1, hlo.2.2.2, hsw⟩).mono ?_
                rintro e wb ⟨ql', M', rfl, b1, b2, b3, b4, b5⟩
                have ko := (b4.2 wr.heap.size (blk_lt HBO.out) (by simp; omega)).trans HBO.out
                have cv3 : wb.cell? ⟨wr.heap.size, 1, none⟩ = some (.int .i64 v) := blk_cell ko 1
                obtain ⟨t1, t2, t3⟩ := T1.out.after T2.out AP.out b1 b2 b3 b4 hsw
                have HBn := Lib.hid (HBW.out.trans b5)
                generalize wb = Wn at *
                obtain ⟨qn, Mn, TA, TB, TC⟩ : ∃ qn Mn, Hid (Twin w.heap.size Wn g gp q qn f r Mn) ∧ Hid (Twin w.heap.size Wn g2 gp2 q2 ql2 f2 r2 M2) ∧ Hid (Apart gp q qn gp2 q2 ql2) := ⟨_, _, Lib.hid t1, Lib.hid t2, Lib.hid t3⟩
                clear b1 b2 b3 b4 b5 ko t1 t2 t3 T1 T2 AP
                go_wp2_with fail
                have HTn := Lib.hid (tab_keep HL.out (HBn.out.block 0 hz))
                have hsn := HBn.out.size
                go_wp2_with fail
                refine (alike_calls TA.out.hs TA.out.hr HTn.out v hv).mono ?_
                rintro e wc ⟨rfl, hbc⟩
                have HBc := Lib.hid hbc
                clear hbc cv3
                go_wp2_with fail
                refine ((TA.out.hs.below HBc.out).same (tab_keep HTn.out (HBc.out.block 0 (by omega))) (TB.out.hs.below HBc.out)).mono ?_
                rintro e wd ⟨rfl, hbd⟩
                have HBd := Lib.hid (below_step HBc.out hbd)
                clear hbd
                have hin := TA.out.hr.inn.1
                have hin2 := TB.out.hr.inn.1
                have hl5 : (vals Mn f r).length ≤ 65536 := by
                  have h2 := valsTo_len Mn f (r).toNat
                  unfold vals
                  omega
                have hl6 : (vals M2 f2 r2).length ≤ 65536 := by
                  have h2 := valsTo_len M2 f2 (r2).toNat
                  unfold vals
                  omega
                have HVA := Lib.hid (fun W (h : Below Wn.heap.size Wn W) => (TA.out.hr.below h).values)
                have HVB := Lib.hid (fun W (h : Below Wn.heap.size Wn W) => (TB.out.hr.below h).values)
                generalize vals Mn f r = LA at *
                generalize vals M2 f2 r2 = LB at *
                obtain ⟨bs, hbs⟩ : ∃ x, x = decide (LA = LB) := ⟨_, rfl⟩
                rw [← hbs]
                have HBS := Lib.hid hbs
                clear hbs hin hin2
                go_wp2_with fail
                refine (HVA.out _ HBd.out).mono ?_
                rintro e we ⟨v1, rfl, hrow, hbe⟩
                obtain ⟨A5, c5, rfl, hv5⟩ := row_ints hrow rfl
                have HBe := Lib.hid (below_step HBd.out hbe); have HV5 := Lib.hid hv5
                clear hbe hv5 hrow
                go_wp2_with fail
                refine (HVB.out _ HBe.out).mono ?_
                rintro e wf ⟨v2, rfl, hrow, hbf⟩
                obtain ⟨A6, c6, rfl, hv6⟩ := row_ints hrow rfl
                have HBf := Lib.hid (below_step HBe.out hbf); have HV6 := Lib.hid hv6
                have HV5' := Lib.hid (HV5.out.below hbf)
                clear hbf hv6 hrow
                go_wp2_with fail
                refine (ints_same A5 A6 c5 c6 LA LB _ HV5'.out HV6.out hl5 hl6).mono ?_
                rintro e wg ⟨rfl, hdg⟩
                have HBg := Lib.hid (below_step HBn.out (below_step HBf.out hdg.below))
                have HNg := Lib.hid (below_step HBf.out hdg.below)
                rw [← HBS.out]
                clear hdg
                have e7 : (bs != bs) = false := by cases bs <;> rfl
                go_wp2_with fail
                go_roundw
                case rel =>
                  exact ⟨k + 1, g, gp, q, qn, g2, gp2, q2, ql2, f, r, Mn, f2, r2, M2, rfl, rfl, rfl, rfl, by go_num, by omega, by omega, Lib.hid (TA.out.below HNg.out), Lib.hid (TB.out.below HNg.out), TC, HBg⟩
                case measure => simp [intOf]; omega
            · as_aux_lemma =>
                go_wp2_with fail
                have hbo := World.alloc_heap_new wr (.cells #[.int .i64 4, .int .i64 v, .bool false] 50)
                have hbw : Below wr.heap.size wr (wr.alloc (.cells #[.int .i64 4, .int .i64 v, .bool false] 50)) := (Below.refl _ _).alloc (Nat.le_refl _) _
                generalize wr.alloc (.cells #[.int .i64 4, .int .i64 v, .bool false] 50) = W1 at *
                have HBO := Lib.hid hbo; have HBW := Lib.hid (below_step hB.out hbw)
                have T1 := Lib.hid (hT1.out.below hbw); have T2 := Lib.hid (hT2.out.below hbw); have AP := Lib.hid (hAP.out)
                have hs1 := hbw.size
                have l1 := hT1.out.hs.lt; have l2 := hT1.out.hr.lt
                have HT := Lib.hid (tab_keep HL.out (HBW.out.block 0 hz))
                clear hbo hbw hT1 hT2 hAP hB
                have hlo := T1.out.lo
                have hsw := HBW.out.size
                refine (join_calls w.heap.size _ T1.out.hs T1.out.hr (T1.out.other T2.out AP.out) HT.out (by omega) ⟨hlo.1, hlo.2.1, hlo.2.2.1, hlo.2.2.2, hsw⟩).mono ?_
                rintro e wb ⟨ql', M', rfl, b1, b2, b3, b4, b5⟩
                have ko := (b4.2 wr.heap.size (blk_lt HBO.out) (by simp; omega)).trans HBO.out
                have cv3 : wb.cell? ⟨wr.heap.size, 1, none⟩ = some (.int .i64 v) := blk_cell ko 1
                obtain ⟨t1, t2, t3⟩ := T1.out.after T2.out AP.out b1 b2 b3 b4 hsw
                have HBn := Lib.hid (HBW.out.trans b5)
                generalize wb = Wn at *
                obtain ⟨qn, Mn, TA, TB, TC⟩ : ∃ qn Mn, Hid (Twin w.heap.size Wn g gp q qn f r Mn) ∧ Hid (Twin w.heap.size Wn g2 gp2 q2 ql2 f2 r2 M2) ∧ Hid (Apart gp q qn gp2 q2 ql2) := ⟨_, _, Lib.hid t1, Lib.hid t2, Lib.hid t3⟩
                clear b1 b2 b3 b4 b5 ko t1 t2 t3 T1 T2 AP
                go_wp2_with fail
                have HTn := Lib.hid (tab_keep HL.out (HBn.out.block 0 hz))
                have hsn := HBn.out.size
                go_wp2_with fail
                refine (alike_calls TA.out.hs TA.out.hr HTn.out v hv).mono ?_
                rintro e wc ⟨rfl, hbc⟩
                have HBc := Lib.hid hbc
                clear hbc cv3
                go_wp2_with fail
                refine ((TA.out.hs.below HBc.out).same (tab_keep HTn.out (HBc.out.block 0 (by omega))) (TB.out.hs.below HBc.out)).mono ?_
                rintro e wd ⟨rfl, hbd⟩
                have HBd := Lib.hid (below_step HBc.out hbd)
                clear hbd
                have hin := TA.out.hr.inn.1
                have hin2 := TB.out.hr.inn.1
                have hl5 : (vals Mn f r).length ≤ 65536 := by
                  have h2 := valsTo_len Mn f (r).toNat
                  unfold vals
                  omega
                have hl6 : (vals M2 f2 r2).length ≤ 65536 := by
                  have h2 := valsTo_len M2 f2 (r2).toNat
                  unfold vals
                  omega
                have HVA := Lib.hid (fun W (h : Below Wn.heap.size Wn W) => (TA.out.hr.below h).values)
                have HVB := Lib.hid (fun W (h : Below Wn.heap.size Wn W) => (TB.out.hr.below h).values)
                generalize vals Mn f r = LA at *
                generalize vals M2 f2 r2 = LB at *
                obtain ⟨bs, hbs⟩ : ∃ x, x = decide (LA = LB) := ⟨_, rfl⟩
                rw [← hbs]
                have HBS := Lib.hid hbs
                clear hbs hin hin2
                go_wp2_with fail
                refine (HVA.out _ HBd.out).mono ?_
                rintro e we ⟨v1, rfl, hrow, hbe⟩
                obtain ⟨A5, c5, rfl, hv5⟩ := row_ints hrow rfl
                have HBe := Lib.hid (below_step HBd.out hbe); have HV5 := Lib.hid hv5
                clear hbe hv5 hrow
                go_wp2_with fail
                refine (HVB.out _ HBe.out).mono ?_
                rintro e wf ⟨v2, rfl, hrow, hbf⟩
                obtain ⟨A6, c6, rfl, hv6⟩ := row_ints hrow rfl
                have HBf := Lib.hid (below_step HBe.out hbf); have HV6 := Lib.hid hv6
                have HV5' := Lib.hid (HV5.out.below hbf)
                clear hbf hv6 hrow
                go_wp2_with fail
                refine (ints_same A5 A6 c5 c6 LA LB _ HV5'.out HV6.out hl5 hl6).mono ?_
                rintro e wg ⟨rfl, hdg⟩
                have HBg := Lib.hid (below_step HBn.out (below_step HBf.out hdg.below))
                have HNg := Lib.hid (below_step HBf.out hdg.below)
                rw [← HBS.out]
                clear hdg
                have e7 : (bs != bs) = false := by cases bs <;> rfl
                go_wp2_with fail
                go_roundw
                case rel =>
                  exact ⟨k + 1, g, gp, q, qn, g2, gp2, q2, ql2, f, r, Mn, f2, r2, M2, rfl, rfl, rfl, rfl, by go_num, by omega, by omega, Lib.hid (TA.out.below HNg.out), Lib.hid (TB.out.below HNg.out), TC, HBg⟩
                case measure => simp [intOf]; omega
            · as_aux_lemma =>
                go_wp2_with fail
                have hbo := World.alloc_heap_new wr (.cells #[.int .i64 5, .int .i64 v, .bool false] 50)
                have hbw : Below wr.heap.size wr (wr.alloc (.cells #[.int .i64 5, .int .i64 v, .bool false] 50)) := (Below.refl _ _).alloc (Nat.le_refl _) _
                generalize wr.alloc (.cells #[.int .i64 5, .int .i64 v, .bool false] 50) = W1 at *
                have HBO := Lib.hid hbo; have HBW := Lib.hid (below_step hB.out hbw)
                have T1 := Lib.hid (hT1.out.below hbw); have T2 := Lib.hid (hT2.out.below hbw); have AP := Lib.hid (hAP.out)
                have hs1 := hbw.size
                have l1 := hT1.out.hs.lt; have l2 := hT1.out.hr.lt
                have HT := Lib.hid (tab_keep HL.out (HBW.out.block 0 hz))
                clear hbo hbw hT1 hT2 hAP hB
                have hlo := T1.out.lo
                have hsw := HBW.out.size
                refine (join_calls w.heap.size _ T1.out.hs T1.out.hr (T1.out.other T2.out AP.out) HT.out (by omega) ⟨hlo.1, hlo.2.1, hlo.2.2.1, hlo.2.2.2, hsw⟩).mono ?_
                rintro e wb ⟨ql', M', rfl, b1, b2, b3, b4, b5⟩
                have ko := (b4.2 wr.heap.size (blk_lt HBO.out) (by simp; omega)).trans HBO.out
                have cv3 : wb.cell? ⟨wr.heap.size, 1, none⟩ = some (.int .i64 v) := blk_cell ko 1
                obtain ⟨t1, t2, t3⟩ := T1.out.after T2.out AP.out b1 b2 b3 b4 hsw
                have HBn := Lib.hid (HBW.out.trans b5)
                generalize wb = Wn at *
                obtain ⟨qn, Mn, TA, TB, TC⟩ : ∃ qn Mn, Hid (Twin w.heap.size Wn g gp q qn f r Mn) ∧ Hid (Twin w.heap.size Wn g2 gp2 q2 ql2 f2 r2 M2) ∧ Hid (Apart gp q qn gp2 q2 ql2) := ⟨_, _, Lib.hid t1, Lib.hid t2, Lib.hid t3⟩
                clear b1 b2 b3 b4 b5 ko t1 t2 t3 T1 T2 AP
                go_wp2_with fail
                have HTn := Lib.hid (tab_keep HL.out (HBn.out.block 0 hz))
                have hsn := HBn.out.size
                go_wp2_with fail
                refine (alike_calls TA.out.hs TA.out.hr HTn.out v hv).mono ?_
                rintro e wc ⟨rfl, hbc⟩
                have HBc := Lib.hid hbc
                clear hbc cv3
                go_wp2_with fail
                refine ((TA.out.hs.below HBc.out).same (tab_keep HTn.out (HBc.out.block 0 (by omega))) (TB.out.hs.below HBc.out)).mono ?_
                rintro e wd ⟨rfl, hbd⟩
                have HBd := Lib.hid (below_step HBc.out hbd)
                clear hbd
                have hin := TA.out.hr.inn.1
                have hin2 := TB.out.hr.inn.1
                have hl5 : (vals Mn f r).length ≤ 65536 := by
                  have h2 := valsTo_len Mn f (r).toNat
                  unfold vals
                  omega
                have hl6 : (vals M2 f2 r2).length ≤ 65536 := by
                  have h2 := valsTo_len M2 f2 (r2).toNat
                  unfold vals
                  omega
                have HVA := Lib.hid (fun W (h : Below Wn.heap.size Wn W) => (TA.out.hr.below h).values)
                have HVB := Lib.hid (fun W (h : Below Wn.heap.size Wn W) => (TB.out.hr.below h).values)
                generalize vals Mn f r = LA at *
                generalize vals M2 f2 r2 = LB at *
                obtain ⟨bs, hbs⟩ : ∃ x, x = decide (LA = LB) := ⟨_, rfl⟩
                rw [← hbs]
                have HBS := Lib.hid hbs
                clear hbs hin hin2
                go_wp2_with fail
                refine (HVA.out _ HBd.out).mono ?_
                rintro e we ⟨v1, rfl, hrow, hbe⟩
                obtain ⟨A5, c5, rfl, hv5⟩ := row_ints hrow rfl
                have HBe := Lib.hid (below_step HBd.out hbe); have HV5 := Lib.hid hv5
                clear hbe hv5 hrow
                go_wp2_with fail
                refine (HVB.out _ HBe.out).mono ?_
                rintro e wf ⟨v2, rfl, hrow, hbf⟩
                obtain ⟨A6, c6, rfl, hv6⟩ := row_ints hrow rfl
                have HBf := Lib.hid (below_step HBe.out hbf); have HV6 := Lib.hid hv6
                have HV5' := Lib.hid (HV5.out.below hbf)
                clear hbf hv6 hrow
                go_wp2_with fail
                refine (ints_same A5 A6 c5 c6 LA LB _ HV5'.out HV6.out hl5 hl6).mono ?_
                rintro e wg ⟨rfl, hdg⟩
                have HBg := Lib.hid (below_step HBn.out (below_step HBf.out hdg.below))
                have HNg := Lib.hid (below_step HBf.out hdg.below)
                rw [← HBS.out]
                clear hdg
                have e7 : (bs != bs) = false := by cases bs <;> rfl
                go_wp2_with fail
                go_roundw
                case rel =>
                  exact ⟨k + 1, g, gp, q, qn, g2, gp2, q2, ql2, f, r, Mn, f2, r2, M2, rfl, rfl, rfl, rfl, by go_num, by omega, by omega, Lib.hid (TA.out.below HNg.out), Lib.hid (TB.out.below HNg.out), TC, HBg⟩
                case measure => simp [intOf]; omega
            · as_aux_lemma =>
                go_wp2_with fail
                have hbo := World.alloc_heap_new wr (.cells #[.int .i64 6, .int .i64 v, .bool false] 50)
                have hbw : Below wr.heap.size wr (wr.alloc (.cells #[.int .i64 6, .int .i64 v, .bool false] 50)) := (Below.refl _ _).alloc (Nat.le_refl _) _
                generalize wr.alloc (.cells #[.int .i64 6, .int .i64 v, .bool false] 50) = W1 at *
                have HBO := Lib.hid hbo; have HBW := Lib.hid (below_step hB.out hbw)
                have T1 := Lib.hid (hT1.out.below hbw); have T2 := Lib.hid (hT2.out.below hbw); have AP := Lib.hid (hAP.out)
                have hs1 := hbw.size
                have l1 := hT1.out.hs.lt; have l2 := hT1.out.hr.lt
                have HT := Lib.hid (tab_keep HL.out (HBW.out.block 0 hz))
                clear hbo hbw hT1 hT2 hAP hB
                have hlo := T1.out.lo
                have hsw := HBW.out.size
                refine (join_calls w.heap.size _ T1.out.hs T1.out.hr T1.out.self HT.out (by omega) ⟨hlo.1, hlo.2.1, hlo.2.2.1, hlo.2.2.2, hsw⟩).mono ?_
                rintro e wb ⟨ql', M', rfl, b1, b2, b3, b4, b5⟩
                have ko := (b4.2 wr.heap.size (blk_lt HBO.out) (by simp; omega)).trans HBO.out
                have cv3 : wb.cell? ⟨wr.heap.size, 1, none⟩ = some (.int .i64 v) := blk_cell ko 1
                obtain ⟨t1, t2, t3⟩ := T1.out.after T2.out AP.out b1 b2 b3 b4 hsw
                have HBn := Lib.hid (HBW.out.trans b5)
                generalize wb = Wn at *
                obtain ⟨qn, Mn, TA, TB, TC⟩ : ∃ qn Mn, Hid (Twin w.heap.size Wn g gp q qn f r Mn) ∧ Hid (Twin w.heap.size Wn g2 gp2 q2 ql2 f2 r2 M2) ∧ Hid (Apart gp q qn gp2 q2 ql2) := ⟨_, _, Lib.hid t1, Lib.hid t2, Lib.hid t3⟩
                clear b1 b2 b3 b4 b5 ko t1 t2 t3 T1 T2 AP
                go_wp2_with fail
                have HTn := Lib.hid (tab_keep HL.out (HBn.out.block 0 hz))
                have hsn := HBn.out.size
                go_wp2_with fail
                refine (alike_calls TA.out.hs TA.out.hr HTn.out v hv).mono ?_
                rintro e wc ⟨rfl, hbc⟩
                have HBc := Lib.hid hbc
                clear hbc cv3
                go_wp2_with fail
                refine ((TA.out.hs.below HBc.out).same (tab_keep HTn.out (HBc.out.block 0 (by omega))) (TB.out.hs.below HBc.out)).mono ?_
                rintro e wd ⟨rfl, hbd⟩
                have HBd := Lib.hid (below_step HBc.out hbd)
                clear hbd
                have hin := TA.out.hr.inn.1
                have hin2 := TB.out.hr.inn.1
                have hl5 : (vals Mn f r).length ≤ 65536 := by
                  have h2 := valsTo_len Mn f (r).toNat
                  unfold vals
                  omega
                have hl6 : (vals M2 f2 r2).length ≤ 65536 := by
                  have h2 := valsTo_len M2 f2 (r2).toNat
                  unfold vals
                  omega
                have HVA := Lib.hid (fun W (h : Below Wn.heap.size Wn W) => (TA.out.hr.below h).values)
                have HVB := Lib.hid (fun W (h : Below Wn.heap.size Wn W) => (TB.out.hr.below h).values)
                generalize vals Mn f r = LA at *
                generalize vals M2 f2 r2 = LB at *
                obtain ⟨bs, hbs⟩ : ∃ x, x = decide (LA = LB) := ⟨_, rfl⟩
                rw [← hbs]
                have HBS := Lib.hid hbs
                clear hbs hin hin2
                go_wp2_with fail
                refine (HVA.out _ HBd.out).mono ?_
                rintro e we ⟨v1, rfl, hrow, hbe⟩
                obtain ⟨A5, c5, rfl, hv5⟩ := row_ints hrow rfl
                have HBe := Lib.hid (below_step HBd.out hbe); have HV5 := Lib.hid hv5
                clear hbe hv5 hrow
                go_wp2_with fail
                refine (HVB.out _ HBe.out).mono ?_
                rintro e wf ⟨v2, rfl, hrow, hbf⟩
                obtain ⟨A6, c6, rfl, hv6⟩ := row_ints hrow rfl
                have HBf := Lib.hid (below_step HBe.out hbf); have HV6 := Lib.hid hv6
                have HV5' := Lib.hid (HV5.out.below hbf)
                clear hbf hv6 hrow
                go_wp2_with fail
                refine (ints_same A5 A6 c5 c6 LA LB _ HV5'.out HV6.out hl5 hl6).mono ?_
                rintro e wg ⟨rfl, hdg⟩
                have HBg := Lib.hid (below_step HBn.out (below_step HBf.out hdg.below))
                have HNg := Lib.hid (below_step HBf.out hdg.below)
                rw [← HBS.out]
                clear hdg
                have e7 : (bs != bs) = false := by cases bs <;> rfl
                go_wp2_with fail
                go_roundw
                case rel =>
                  exact ⟨k + 1, g, gp, q, qn, g2, gp2, q2, ql2, f, r, Mn, f2, r2, M2, rfl, rfl, rfl, rfl, by go_num, by omega, by omega, Lib.hid (TA.out.below HNg.out), Lib.hid (TB.out.below HNg.out), TC, HBg⟩
                case measure => simp [intOf]; omega
            · as_aux_lemma =>
                go_wp2_with fail
                have hbo := World.alloc_heap_new wr (.cells #[.int .i64 kd, .int .i64 v, .bool false] 50)
                have hbw : Below wr.heap.size wr (wr.alloc (.cells #[.int .i64 kd, .int .i64 v, .bool false] 50)) := (Below.refl _ _).alloc (Nat.le_refl _) _
                generalize wr.alloc (.cells #[.int .i64 kd, .int .i64 v, .bool false] 50) = W1 at *
                have HBO := Lib.hid hbo; have HBW := Lib.hid (below_step hB.out hbw)
                have T1 := Lib.hid (hT1.out.below hbw); have T2 := Lib.hid (hT2.out.below hbw); have AP := Lib.hid (hAP.out)
                have hs1 := hbw.size
                have l1 := hT1.out.hs.lt; have l2 := hT1.out.hr.lt
                have HT := Lib.hid (tab_keep HL.out (HBW.out.block 0 hz))
                clear hbo hbw hT1 hT2 hAP hB
                have cv3 : W1.cell? ⟨wr.heap.size, 1, none⟩ = some (.int .i64 v) := blk_cell HBO.out 1
                have HBn := HBW
                generalize W1 = Wn at *
                obtain ⟨qn, Mn, TA, TB, TC⟩ : ∃ qn Mn, Hid (Twin w.heap.size Wn g gp q qn f r Mn) ∧ Hid (Twin w.heap.size Wn g2 gp2 q2 ql2 f2 r2 M2) ∧ Hid (Apart gp q qn gp2 q2 ql2) := ⟨_, _, T1, T2, AP⟩
                clear T1 T2 AP
                have HTn := Lib.hid (tab_keep HL.out (HBn.out.block 0 hz))
                have hsn := HBn.out.size
                go_wp2_with fail
                refine (alike_calls TA.out.hs TA.out.hr HTn.out v hv).mono ?_
                rintro e wc ⟨rfl, hbc⟩
                have HBc := Lib.hid hbc
                clear hbc cv3
                go_wp2_with fail
                refine ((TA.out.hs.below HBc.out).same (tab_keep HTn.out (HBc.out.block 0 (by omega))) (TB.out.hs.below HBc.out)).mono ?_
                rintro e wd ⟨rfl, hbd⟩
                have HBd := Lib.hid (below_step HBc.out hbd)
                clear hbd
                have hin := TA.out.hr.inn.1
                have hin2 := TB.out.hr.inn.1
                have hl5 : (vals Mn f r).length ≤ 65536 := by
                  have h2 := valsTo_len Mn f (r).toNat
                  unfold vals
                  omega
                have hl6 : (vals M2 f2 r2).length ≤ 65536 := by
                  have h2 := valsTo_len M2 f2 (r2).toNat
                  unfold vals
                  omega
                have HVA := Lib.hid (fun W (h : Below Wn.heap.size Wn W) => (TA.out.hr.below h).values)
                have HVB := Lib.hid (fun W (h : Below Wn.heap.size Wn W) => (TB.out.hr.below h).values)
                generalize vals Mn f r = LA at *
                generalize vals M2 f2 r2 = LB at *
                obtain ⟨bs, hbs⟩ : ∃ x, x = decide (LA = LB) := ⟨_, rfl⟩
                rw [← hbs]
                have HBS := Lib.hid hbs
                clear hbs hin hin2
                go_wp2_with fail
                refine (HVA.out _ HBd.out).mono ?_
                rintro e we ⟨v1, rfl, hrow, hbe⟩
                obtain ⟨A5, c5, rfl, hv5⟩ := row_ints hrow rfl
                have HBe := Lib.hid (below_step HBd.out hbe); have HV5 := Lib.hid hv5
                clear hbe hv5 hrow
                go_wp2_with fail
                refine (HVB.out _ HBe.out).mono ?_
                rintro e wf ⟨v2, rfl, hrow, hbf⟩
                obtain ⟨A6, c6, rfl, hv6⟩ := row_ints hrow rfl
                have HBf := Lib.hid (below_step HBe.out hbf); have HV6 := Lib.hid hv6
                have HV5' := Lib.hid (HV5.out.below hbf)
                clear hbf hv6 hrow
                go_wp2_with fail
                refine (ints_same A5 A6 c5 c6 LA LB _ HV5'.out HV6.out hl5 hl6).mono ?_
                rintro e wg ⟨rfl, hdg⟩
                have HBg := Lib.hid (below_step HBn.out (below_step HBf.out hdg.below))
                have HNg := Lib.hid (below_step HBf.out hdg.below)
                rw [← HBS.out]
                clear hdg
                have e7 : (bs != bs) = false := by cases bs <;> rfl
                go_wp2_with fail
                go_roundw
                case rel =>
                  exact ⟨k + 1, g, gp, q, qn, g2, gp2, q2, ql2, f, r, Mn, f2, r2, M2, rfl, rfl, rfl, rfl, by go_num, by omega, by omega, Lib.hid (TA.out.below HNg.out), Lib.hid (TB.out.below HNg.out), TC, HBg⟩
                case measure => simp [intOf]; omega
          | true =>
            rcases hkind with rfl | rfl | rfl | rfl | rfl | rfl | rfl | ⟨e0, e1, e2, e3, e4, e5, e6⟩
            · as_aux_lemma =>
                go_wp2_with fail
                have hbo := World.alloc_heap_new wr (.cells #[.int .i64 0, .int .i64 v, .bool true] 50)
                have hbw : Below wr.heap.size wr (wr.alloc (.cells #[.int .i64 0, .int .i64 v, .bool true] 50)) := (Below.refl _ _).alloc (Nat.le_refl _) _
                generalize wr.alloc (.cells #[.int .i64 0, .int .i64 v, .bool true] 50) = W1 at *
                have HBO := Lib.hid hbo; have HBW := Lib.hid (below_step hB.out hbw)
                have T1 := Lib.hid (hT2.out.below hbw); have T2 := Lib.hid (hT1.out.below hbw); have AP := Lib.hid (hAP.out.swap)
                have hs1 := hbw.size
                have l1 := hT2.out.hs.lt; have l2 := hT2.out.hr.lt
                have HT := Lib.hid (tab_keep HL.out (HBW.out.block 0 hz))
                clear hbo hbw hT1 hT2 hAP hB
                have hset := T1.out.hs; have hlo := T1.out.lo
                have sr := set_ref T1.out.hs T1.out.hr
                refine (hset.addA v w.heap.size hlo.2.1).mono ?_
                rintro e wa ⟨rfl, a1, a2, a3⟩
                have ko := (a2.2 wr.heap.size (blk_lt HBO.out) (by simp; omega)).trans HBO.out
                have cv2 : wa.cell? ⟨wr.heap.size, 1, none⟩ = some (.int .i64 v) := blk_cell ko 1
                have HA1 := Lib.hid a1; have HA2 := Lib.hid a2; have HA3 := Lib.hid a3; have HKO := Lib.hid ko
                have HR1 := Lib.hid (T1.out.hr.keepX a2 (by simp; omega) (by simp; omega))
                have hsa := a2.1
                clear hset a1 a2 a3 ko
                obtain ⟨ab, hab⟩ : ∃ x, x = addB f2 r2 M2 v := ⟨_, rfl⟩
                obtain ⟨ac, hac⟩ : ∃ x, x = addC f2 r2 v := ⟨_, rfl⟩
                rw [← hab, ← hac]
                go_wp2_with fail
                refine (HR1.out.addA v w.heap.size hlo.2.2.2).mono ?_
                rintro e wb ⟨rfl, b1, b2, b3⟩
                rw [← hab, ← hac]
                clear hab hac
                have ko := (b2.2 wr.heap.size (blk_lt HKO.out) (by simp; omega)).trans HKO.out
                have cv3 : wb.cell? ⟨wr.heap.size, 1, none⟩ = some (.int .i64 v) := blk_cell ko 1
                have hset2 := HA1.out.keepX b2 (by simp; omega) (by simp; omega)
                have hk : keepX [gp2, ql2, q2] W1 wb := (HA2.out.mono (by simp)).trans (b2.mono (by simp))
                obtain ⟨t1, t2, t3⟩ := T1.out.after T2.out AP.out hset2 b1 (.inl rfl) hk (by have := HBW.out.size; omega)
                have HBn := Lib.hid ((HBW.out.trans HA3.out).trans b3)
                generalize wb = Wn at *
                obtain ⟨qn, Mn, TA, TB, TC⟩ : ∃ qn Mn, Hid (Twin w.heap.size Wn g2 gp2 q2 qn f2 r2 Mn) ∧ Hid (Twin w.heap.size Wn g gp q ql f r M) ∧ Hid (Apart gp2 q2 qn gp q ql) := ⟨_, _, Lib.hid t1, Lib.hid t2, Lib.hid t3⟩
                clear b1 b2 b3 ko cv2 hset2 hk t1 t2 t3 T1 T2 AP HA1 HA2 HA3 HKO HR1
                have e1 : (ab == ab) = true := beq_self_eq_true _
                have e2 : (ac == ac) = true := beq_self_eq_true _
                have HTn := Lib.hid (tab_keep HL.out (HBn.out.block 0 hz))
                have hsn := HBn.out.size
                go_wp2_with fail
                refine (alike_calls TA.out.hs TA.out.hr HTn.out v hv).mono ?_
                rintro e wc ⟨rfl, hbc⟩
                have HBc := Lib.hid hbc
                clear hbc cv3
                go_wp2_with fail
                refine ((TA.out.hs.below HBc.out).same (tab_keep HTn.out (HBc.out.block 0 (by omega))) (TB.out.hs.below HBc.out)).mono ?_
                rintro e wd ⟨rfl, hbd⟩
                have HBd := Lib.hid (below_step HBc.out hbd)
                clear hbd
                have hin := TA.out.hr.inn.1
                have hin2 := TB.out.hr.inn.1
                have hl5 : (vals Mn f2 r2).length ≤ 65536 := by
                  have h2 := valsTo_len Mn f2 (r2).toNat
                  unfold vals
                  omega
                have hl6 : (vals M f r).length ≤ 65536 := by
                  have h2 := valsTo_len M f (r).toNat
                  unfold vals
                  omega
                have HVA := Lib.hid (fun W (h : Below Wn.heap.size Wn W) => (TA.out.hr.below h).values)
                have HVB := Lib.hid (fun W (h : Below Wn.heap.size Wn W) => (TB.out.hr.below h).values)
                generalize vals Mn f2 r2 = LA at *
                generalize vals M f r = LB at *
                obtain ⟨bs, hbs⟩ : ∃ x, x = decide (LA = LB) := ⟨_, rfl⟩
                rw [← hbs]
                have HBS := Lib.hid hbs
                clear hbs hin hin2
                go_wp2_with fail
                refine (HVA.out _ HBd.out).mono ?_
                rintro e we ⟨v1, rfl, hrow, hbe⟩
                obtain ⟨A5, c5, rfl, hv5⟩ := row_ints hrow rfl
                have HBe := Lib.hid (below_step HBd.out hbe); have HV5 := Lib.hid hv5
                clear hbe hv5 hrow
                go_wp2_with fail
                refine (HVB.out _ HBe.out).mono ?_
                rintro e wf ⟨v2, rfl, hrow, hbf⟩
                obtain ⟨A6, c6, rfl, hv6⟩ := row_ints hrow rfl
                have HBf := Lib.hid (below_step HBe.out hbf); have HV6 := Lib.hid hv6
                have HV5' := Lib.hid (HV5.out.below hbf)
                clear hbf hv6 hrow
                go_wp2_with fail
                refine (ints_same A5 A6 c5 c6 LA LB _ HV5'.out HV6.out hl5 hl6).mono ?_
                rintro e wg ⟨rfl, hdg⟩
                have HBg := Lib.hid (below_step HBn.out (below_step HBf.out hdg.below))
                have HNg := Lib.hid (below_step HBf.out hdg.below)
                rw [← HBS.out]
                clear hdg
                have e7 : (bs != bs) = false := by cases bs <;> rfl
                go_wp2_with fail
                go_roundw
                case rel =>
                  exact ⟨k + 1, g2, gp2, q2, qn, g, gp, q, ql, f2, r2, Mn, f, r, M, rfl, rfl, rfl, rfl, by go_num, by omega, by omega, Lib.hid (TA.out.below HNg.out), Lib.hid (TB.out.below HNg.out), TC, HBg⟩
                case measure => simp [intOf]; omega
            · as_aux_lemma =>
                go_wp2_with fail
                have hbo := World.alloc_heap_new wr (.cells #[.int .i64 1, .int .i64 v, .bool true] 50)
                have hbw : Below wr.heap.size wr (wr.alloc (.cells #[.int .i64 1, .int .i64 v, .bool true] 50)) := (Below.refl _ _).alloc (Nat.le_refl _) _
                generalize wr.alloc (.cells #[.int .i64 1, .int .i64 v, .bool true] 50) = W1 at *
                have HBO := Lib.hid hbo; have HBW := Lib.hid (below_step hB.out hbw)
                have T1 := Lib.hid (hT2.out.below hbw); have T2 := Lib.hid (hT1.out.below hbw); have AP := Lib.hid (hAP.out.swap)
                have hs1 := hbw.size
                have l1 := hT2.out.hs.lt; have l2 := hT2.out.hr.lt
                have HT := Lib.hid (tab_keep HL.out (HBW.out.block 0 hz))
                clear hbo hbw hT1 hT2 hAP hB
                have hset := T1.out.hs; have hlo := T1.out.lo
                have sr := set_ref T1.out.hs T1.out.hr
                refine (hset.addA v w.heap.size hlo.2.1).mono ?_
                rintro e wa ⟨rfl, a1, a2, a3⟩
                have ko := (a2.2 wr.heap.size (blk_lt HBO.out) (by simp; omega)).trans HBO.out
                have cv2 : wa.cell? ⟨wr.heap.size, 1, none⟩ = some (.int .i64 v) := blk_cell ko 1
                have HA1 := Lib.hid a1; have HA2 := Lib.hid a2; have HA3 := Lib.hid a3; have HKO := Lib.hid ko
                have HR1 := Lib.hid (T1.out.hr.keepX a2 (by simp; omega) (by simp; omega))
                have hsa := a2.1
                clear hset a1 a2 a3 ko
                obtain ⟨ab, hab⟩ : ∃ x, x = addB f2 r2 M2 v := ⟨_, rfl⟩
                obtain ⟨ac, hac⟩ : ∃ x, x = addC f2 r2 v := ⟨_, rfl⟩
                rw [← hab, ← hac]
                go_wp2_with fail
                refine (HR1.out.addA v w.heap.size hlo.2.2.2).mono ?_
                rintro e wb ⟨rfl, b1, b2, b3⟩
                rw [← hab, ← hac]
                clear hab hac
                have ko := (b2.2 wr.heap.size (blk_lt HKO.out) (by simp; omega)).trans HKO.out
                have cv3 : wb.cell? ⟨wr.heap.size, 1, none⟩ = some (.int .i64 v) := blk_cell ko 1
                have hset2 := HA1.out.keepX b2 (by simp; omega) (by simp; omega)
                have hk : keepX [gp2, ql2, q2] W1 wb := (HA2.out.mono (by simp)).trans (b2.mono (by simp))
                obtain ⟨t1, t2, t3⟩ := T1.out.after T2.out AP.out hset2 b1 (.inl rfl) hk (by have := HBW.out.size; omega)
                have HBn := Lib.hid ((HBW.out.trans HA3.out).trans b3)
                generalize wb = Wn at *
                obtain ⟨qn, Mn, TA, TB, TC⟩ : ∃ qn Mn, Hid (Twin w.heap.size Wn g2 gp2 q2 qn f2 r2 Mn) ∧ Hid (Twin w.heap.size Wn g gp q ql f r M) ∧ Hid (Apart gp2 q2 qn gp q ql) := ⟨_, _, Lib.hid t1, Lib.hid t2, Lib.hid t3⟩
                clear b1 b2 b3 ko cv2 hset2 hk t1 t2 t3 T1 T2 AP HA1 HA2 HA3 HKO HR1
                have e1 : (ab == ab) = true := beq_self_eq_true _
                have e2 : (ac == ac) = true := beq_self_eq_true _
                have HTn := Lib.hid (tab_keep HL.out (HBn.out.block 0 hz))
                have hsn := HBn.out.size
                go_wp2_with fail
                refine (alike_calls TA.out.hs TA.out.hr HTn.out v hv).mono ?_
                rintro e wc ⟨rfl, hbc⟩
                have HBc := Lib.hid hbc
                clear hbc cv3
                go_wp2_with fail
                refine ((TA.out.hs.below HBc.out).same (tab_keep HTn.out (HBc.out.block 0 (by omega))) (TB.out.hs.below HBc.out)).mono ?_
                rintro e wd ⟨rfl, hbd⟩
                have HBd := Lib.hid (below_step HBc.out hbd)
                clear hbd
                have hin := TA.out.hr.inn.1
                have hin2 := TB.out.hr.inn.1
                have hl5 : (vals Mn f2 r2).length ≤ 65536 := by
                  have h2 := valsTo_len Mn f2 (r2).toNat
                  unfold vals
                  omega
                have hl6 : (vals M f r).length ≤ 65536 := by
                  have h2 := valsTo_len M f (r).toNat
                  unfold vals
                  omega
                have HVA := Lib.hid (fun W (h : Below Wn.heap.size Wn W) => (TA.out.hr.below h).values)
                have HVB := Lib.hid (fun W (h : Below Wn.heap.size Wn W) => (TB.out.hr.below h).values)
                generalize vals Mn f2 r2 = LA at *
                generalize vals M f r = LB at *
                obtain ⟨bs, hbs⟩ : ∃ x, x = decide (LA = LB) := ⟨_, rfl⟩
                rw [← hbs]
                have HBS := Lib.hid hbs
                clear hbs hin hin2
                go_wp2_with fail
                refine (HVA.out _ HBd.out).mono ?_
                rintro e we ⟨v1, rfl, hrow, hbe⟩
                obtain ⟨A5, c5, rfl, hv5⟩ := row_ints hrow rfl
                have HBe := Lib.hid (below_step HBd.out hbe); have HV5 := Lib.hid hv5
                clear hbe hv5 hrow
                go_wp2_with fail
                refine (HVB.out _ HBe.out).mono ?_
                rintro e wf ⟨v2, rfl, hrow, hbf⟩
                obtain ⟨A6, c6, rfl, hv6⟩ := row_ints hrow rfl
                have HBf := Lib.hid (below_step HBe.out hbf); have HV6 := Lib.hid hv6
                have HV5' := Lib.hid (HV5.out.below hbf)
                clear hbf hv6 hrow
                go_wp2_with fail
                refine (ints_same A5 A6 c5 c6 LA LB _ HV5'.out HV6.out hl5 hl6).mono ?_
                rintro e wg ⟨rfl, hdg⟩
                have HBg := Lib.hid (below_step HBn.out (below_step HBf.out hdg.below))
                have HNg := Lib.hid (below_step HBf.out hdg.below)
                rw [← HBS.out]
                clear hdg
                have e7 : (bs != bs) = false := by cases bs <;> rfl
                go_wp2_with fail
                go_roundw
                case rel =>
                  exact ⟨k + 1, g2, gp2, q2, qn, g, gp, q, ql, f2, r2, Mn, f, r, M, rfl, rfl, rfl, rfl, by go_num, by omega, by omega, Lib.hid (TA.out.below HNg.out), Lib.hid (TB.out.below HNg.out), TC, HBg⟩
                case measure => simp [intOf]; omega
            · as_aux_lemma =>
                go_wp2_with fail
                have hbo := World.alloc_heap_new wr (.cells #[.int .i64 2, .int .i64 v, .bool true] 50)
                have hbw : Below wr.heap.size wr (wr.alloc (.cells #[.int .i64 2, .int .i64 v, .bool true] 50)) := (Below.refl _ _).alloc (Nat.le_refl _) _
                generalize wr.alloc (.cells #[.int .i64 2, .int .i64 v, .bool true] 50) = W1 at *
                have HBO := Lib.hid hbo; have HBW := Lib.hid (below_step hB.out hbw)
                have T1 := Lib.hid (hT2.out.below hbw); have T2 := Lib.hid (hT1.out.below hbw); have AP := Lib.hid (hAP.out.swap)
                have hs1 := hbw.size
                have l1 := hT2.out.hs.lt; have l2 := hT2.out.hr.lt
                have HT := Lib.hid (tab_keep HL.out (HBW.out.block 0 hz))
                clear hbo hbw hT1 hT2 hAP hB
                have hset := T1.out.hs; have hlo := T1.out.lo
                have sr := set_ref T1.out.hs T1.out.hr
                refine (hset.delA v w.heap.size hlo.2.1).mono ?_
                rintro e wa ⟨rfl, a1, a2, a3⟩
                have ko := (a2.2 wr.heap.size (blk_lt HBO.out) (by simp; omega)).trans HBO.out
                have cv2 : wa.cell? ⟨wr.heap.size, 1, none⟩ = some (.int .i64 v) := blk_cell ko 1
                have HA1 := Lib.hid a1; have HA2 := Lib.hid a2; have HA3 := Lib.hid a3; have HKO := Lib.hid ko
                have HR1 := Lib.hid (T1.out.hr.keepX a2 (by simp; omega) (by simp; omega))
                have hsa := a2.1
                clear hset a1 a2 a3 ko
                obtain ⟨ab, hab⟩ : ∃ x, x = M2 v := ⟨_, rfl⟩
                rw [← hab]
                go_wp2_with fail
                refine (HR1.out.delA v w.heap.size hlo.2.2.2).mono ?_
                rintro e wb ⟨rfl, b1, b2, b3⟩
                rw [← hab]
                clear hab
                have ko := (b2.2 wr.heap.size (blk_lt HKO.out) (by simp; omega)).trans HKO.out
                have cv3 : wb.cell? ⟨wr.heap.size, 1, none⟩ = some (.int .i64 v) := blk_cell ko 1
                have hset2 := HA1.out.keepX b2 (by simp; omega) (by simp; omega)
                have hk : keepX [gp2, ql2, q2] W1 wb := (HA2.out.mono (by simp)).trans (b2.mono (by simp))
                obtain ⟨t1, t2, t3⟩ := T1.out.after T2.out AP.out hset2 b1 (.inl rfl) hk (by have := HBW.out.size; omega)
                have HBn := Lib.hid ((HBW.out.trans HA3.out).trans b3)
                generalize wb = Wn at *
                obtain ⟨qn, Mn, TA, TB, TC⟩ : ∃ qn Mn, Hid (Twin w.heap.size Wn g2 gp2 q2 qn f2 r2 Mn) ∧ Hid (Twin w.heap.size Wn g gp q ql f r M) ∧ Hid (Apart gp2 q2 qn gp q ql) := ⟨_, _, Lib.hid t1, Lib.hid t2, Lib.hid t3⟩
                clear b1 b2 b3 ko cv2 hset2 hk t1 t2 t3 T1 T2 AP HA1 HA2 HA3 HKO HR1
                have e1 : (ab == ab) = true := beq_self_eq_true _
                have HTn := Lib.hid (tab_keep HL.out (HBn.out.block 0 hz))
                have hsn := HBn.out.size
                go_wp2_with fail
                refine (alike_calls TA.out.hs TA.out.hr HTn.out v hv).mono ?_
                rintro e wc ⟨rfl, hbc⟩
                have HBc := Lib.hid hbc
                clear hbc cv3
                go_wp2_with fail
                refine ((TA.out.hs.below HBc.out).same (tab_keep HTn.out (HBc.out.block 0 (by omega))) (TB.out.hs.below HBc.out)).mono ?_
                rintro e wd ⟨rfl, hbd⟩
                have HBd := Lib.hid (below_step HBc.out hbd)
                clear hbd
                have hin := TA.out.hr.inn.1
                have hin2 := TB.out.hr.inn.1
                have hl5 : (vals Mn f2 r2).length ≤ 65536 := by
                  have h2 := valsTo_len Mn f2 (r2).toNat
                  unfold vals
                  omega
                have hl6 : (vals M f r).length ≤ 65536 := by
                  have h2 := valsTo_len M f (r).toNat
                  unfold vals
                  omega
                have HVA := Lib.hid (fun W (h : Below Wn.heap.size Wn W) => (TA.out.hr.below h).values)
                have HVB := Lib.hid (fun W (h : Below Wn.heap.size Wn W) => (TB.out.hr.below h).values)
                generalize vals Mn f2 r2 = LA at *
                generalize vals M f r = LB at *
                obtain ⟨bs, hbs⟩ : ∃ x, x = decide (LA = LB) := ⟨_, rfl⟩
                rw [← hbs]
                have HBS := Lib.hid hbs
                clear hbs hin hin2
                go_wp2_with fail
                refine (HVA.out _ HBd.out).mono ?_
                rintro e we ⟨v1, rfl, hrow, hbe⟩
                obtain ⟨A5, c5, rfl, hv5⟩ := row_ints hrow rfl
                have HBe := Lib.hid (below_step HBd.out hbe); have HV5 := Lib.hid hv5
                clear hbe hv5 hrow
                go_wp2_with fail
                refine (HVB.out _ HBe.out).mono ?_
                rintro e wf ⟨v2, rfl, hrow, hbf⟩
                obtain ⟨A6, c6, rfl, hv6⟩ := row_ints hrow rfl
                have HBf := Lib.hid (below_step HBe.out hbf); have HV6 := Lib.hid hv6
                have HV5' := Lib.hid (HV5.out.below hbf)
                clear hbf hv6 hrow
                go_wp2_with fail
                refine (ints_same A5 A6 c5 c6 LA LB _ HV5'.out HV6.out hl5 hl6).mono ?_
                rintro e wg ⟨rfl, hdg⟩
                have HBg := Lib.hid (below_step HBn.out (below_step HBf.out hdg.below))
                have HNg := Lib.hid (below_step HBf.out hdg.below)
                rw [← HBS.out]
                clear hdg
                have e7 : (bs != bs) = false := by cases bs <;> rfl
                go_wp2_with fail
                go_roundw
                case rel =>
                  exact ⟨k + 1, g2, gp2, q2, qn, g, gp, q, ql, f2, r2, Mn, f, r, M, rfl, rfl, rfl, rfl, by go_num, by omega, by omega, Lib.hid (TA.out.below HNg.out), Lib.hid (TB.out.below HNg.out), TC, HBg⟩
                case measure => simp [intOf]; omega
            · as_aux_lemma =>
                go_wp2_with fail
                have hbo := World.alloc_heap_new wr (.cells #[.int .i64 3, .int .i64 v, .bool true] 50)
                have hbw : Below wr.heap.size wr (wr.alloc (.cells #[.int .i64 3, .int .i64 v, .bool true] 50)) := (Below.refl _ _).alloc (Nat.le_refl _) _
                generalize wr.alloc (.cells #[.int .i64 3, .int .i64 v, .bool true] 50) = W1 at *
                have HBO := Lib.hid hbo; have HBW := Lib.hid (below_step hB.out hbw)
                have T1 := Lib.hid (hT2.out.below hbw); have T2 := Lib.hid (hT1.out.below hbw); have AP := Lib.hid (hAP.out.swap)
                have hs1 := hbw.size
                have l1 := hT2.out.hs.lt; have l2 := hT2.out.hr.lt
                have HT := Lib.hid (tab_keep HL.out (HBW.out.block 0 hz))
                clear hbo hbw hT1 hT2 hAP hB
                have hlo := T1.out.lo
                have hsw := HBW.out.size
                refine (join_calls w.heap.size _ T1.out.hs T1.out.hr (T1.out.other T2.out AP.out) HT.out (by omega) ⟨hlo.1, hlo.2.1, hlo.2.2.1, hlo.2.2.2, hsw⟩).mono ?_
                rintro e wb ⟨ql', M', rfl, b1, b2, b3, b4, b5⟩
                have ko := (b4.2 wr.heap.size (blk_lt HBO.out) (by simp; omega)).trans HBO.out
                have cv3 : wb.cell? ⟨wr.heap.size, 1, none⟩ = some (.int .i64 v) := blk_cell ko 1
                obtain ⟨t1, t2, t3⟩ := T1.out.after T2.out AP.out b1 b2 b3 b4 hsw
                have HBn := Lib.hid (HBW.out.trans b5)
                generalize wb = Wn at *
                obtain ⟨qn, Mn, TA, TB, TC⟩ : ∃ qn Mn, Hid (Twin w.heap.size Wn g2 gp2 q2 qn f2 r2 Mn) ∧ Hid (Twin w.heap.size Wn g gp q ql f r M) ∧ Hid (Apart gp2 q2 qn gp q ql) := ⟨_, _, Lib.hid t1, Lib.hid t2, Lib.hid t3⟩
                clear b1 b2 b3 b4 b5 ko t1 t2 t3 T1 T2 AP
                go_wp2_with fail
                have HTn := Lib.hid (tab_keep HL.out (HBn.out.block 0 hz))
                have hsn := HBn.out.size
                go_wp2_with fail
                refine (alike_calls TA.out.hs TA.out.hr HTn.out v hv).mono ?_
                rintro e wc ⟨rfl, hbc⟩
                have HBc := Lib.hid hbc
                clear hbc cv3
                go_wp2_with fail
                refine ((TA.out.hs.below HBc.out).same (tab_keep HTn.out (HBc.out.block 0 (by omega))) (TB.out.hs.below HBc.out)).mono ?_
                rintro e wd ⟨rfl, hbd⟩
                have HBd := Lib.hid (below_step HBc.out hbd)
                clear hbd
                have hin := TA.out.hr.inn.1
                have hin2 := TB.out.hr.inn.1
                have hl5 : (vals Mn f2 r2).length ≤ 65536 := by
                  have h2 := valsTo_len Mn f2 (r2).toNat
                  unfold vals
                  omega
                have hl6 : (vals M f r).length ≤ 65536 := by
                  have h2 := valsTo_len M f (r).toNat
                  unfold vals
                  omega
                have HVA := Lib.hid (fun W (h : Below Wn.heap.size Wn W) => (TA.out.hr.below h).values)
                have HVB := Lib.hid (fun W (h : Below Wn.heap.size Wn W) => (TB.out.hr.below h).values)
                generalize vals Mn f2 r2 = LA at *
                generalize vals M f r = LB at *
                obtain ⟨bs, hbs⟩ : ∃ x, x = decide (LA = LB) := ⟨_, rfl⟩
                rw [← hbs]
                have HBS := Lib.hid hbs
                clear hbs hin hin2
                go_wp2_with fail
                refine (HVA.out _ HBd.out).mono ?_
                rintro e we ⟨v1, rfl, hrow, hbe⟩
                obtain ⟨A5, c5, rfl, hv5⟩ := row_ints hrow rfl
                have HBe := Lib.hid (below_step HBd.out hbe); have HV5 := Lib.hid hv5
                clear hbe hv5 hrow
                go_wp2_with fail
                refine (HVB.out _ HBe.out).mono ?_
                rintro e wf ⟨v2, rfl, hrow, hbf⟩
                obtain ⟨A6, c6, rfl, hv6⟩ := row_ints hrow rfl
                have HBf := Lib.hid (below_step HBe.out hbf); have HV6 := Lib.hid hv6
                have HV5' := Lib.hid (HV5.out.below hbf)
                clear hbf hv6 hrow
                go_wp2_with fail
                refine (ints_same A5 A6 c5 c6 LA LB _ HV5'.out HV6.out hl5 hl6).mono ?_
                rintro e wg ⟨rfl, hdg⟩
                have HBg := Lib.hid (below_step HBn.out (below_step HBf.out hdg.below))
                have HNg := Lib.hid (below_step HBf.out hdg.below)
                rw [← HBS.out]
                clear hdg
                have e7 : (bs != bs) = false := by cases bs <;> rfl
                go_wp2_with fail
                go_roundw
                case rel =>
                  exact ⟨k + 1, g2, gp2, q2, qn, g, gp, q, ql, f2, r2, Mn, f, r, M, rfl, rfl, rfl, rfl, by go_num, by omega, by omega, Lib.hid (TA.out.below HNg.out), Lib.hid (TB.out.below HNg.out), TC, HBg⟩
                case measure => simp [intOf]; omega
            · as_aux_lemma =>
                go_wp2_with fail
                have hbo := World.alloc_heap_new wr (.cells #[.int .i64 4, .int .i64 v, .bool true] 50)
                have hbw : Below wr.heap.size wr (wr.alloc (.cells #[.int .i64 4, .int .i64 v, .bool true] 50)) := (Below.refl _ _).alloc (Nat.le_refl _) _
                generalize wr.alloc (.cells #[.int .i64 4, .int .i64 v, .bool true] 50) = W1 at *
                have HBO := Lib.hid hbo; have HBW := Lib.hid (below_step hB.out hbw)
                have T1 := Lib.hid (hT2.out.below hbw); have T2 := Lib.hid (hT1.out.below hbw); have AP := Lib.hid (hAP.out.swap)
                have hs1 := hbw.size
                have l1 := hT2.out.hs.lt; have l2 := hT2.out.hr.lt
                have HT := Lib.hid (tab_keep HL.out (HBW.out.block 0 hz))
                clear hbo hbw hT1 hT2 hAP hB
                have hlo := T1.out.lo
                have hsw := HBW.out.size
                refine (join_calls w.heap.size _ T1.out.hs T1.out.hr (T1.out.other T2.out AP.out) HT.out (by omega) ⟨hlo.1, hlo.2.1, hlo.2.2.1, hlo.2.2.2, hsw⟩).mono ?_
                rintro e wb ⟨ql', M', rfl, b1, b2, b3, b4, b5⟩
                have ko := (b4.2 wr.heap.size (blk_lt HBO.out) (by simp; omega)).trans HBO.out
                have cv3 : wb.cell? ⟨wr.heap.size, 1, none⟩ = some (.int .i64 v) := blk_cell ko 1
                obtain ⟨t1, t2, t3⟩ := T1.out.after T2.out AP.out b1 b2 b3 b4 hsw
                have HBn := Lib.hid (HBW.out.trans b5)
                generalize wb = Wn at *
                obtain ⟨qn, Mn, TA, TB, TC⟩ : ∃ qn Mn, Hid (Twin w.heap.size Wn g2 gp2 q2 qn f2 r2 Mn) ∧ Hid (Twin w.heap.size Wn g gp q ql f r M) ∧ Hid (Apart gp2 q2 qn gp q ql) := ⟨_, _, Lib.hid t1, Lib.hid t2, Lib.hid t3⟩
                clear b1 b2 b3 b4 b5 ko t1 t2 t3 T1 T2 AP
                go_wp2_with fail
                have HTn := Lib.hid (tab_keep HL.out (HBn.out.block 0 hz))
                have hsn := HBn.out.size
                go_wp2_with fail
                refine (alike_calls TA.out.hs TA.out.hr HTn.out v hv).mono ?_
                rintro e wc ⟨rfl, hbc⟩
                have HBc := Lib.hid hbc
                clear hbc cv3
                go_wp2_with fail
                refine ((TA.out.hs.below HBc.out).same (tab_keep HTn.out (HBc.out.block 0 (by omega))) (TB.out.hs.below HBc.out)).mono ?_
                rintro e wd ⟨rfl, hbd⟩
                have HBd := Lib.hid (below_step HBc.out hbd)
                clear hbd
                have hin := TA.out.hr.inn.1
                have hin2 := TB.out.hr.inn.1
                have hl5 : (vals Mn f2 r2).length ≤ 65536 := by
                  have h2 := valsTo_len Mn f2 (r2).toNat
                  unfold vals
                  omega
                have hl6 : (vals M f r).length ≤ 65536 := by
                  have h2 := valsTo_len M f (r).toNat
                  unfold vals
                  omega
                have HVA := Lib.hid (fun W (h : Below Wn.heap.size Wn W) => (TA.out.hr.below h).values)
                have HVB := Lib.hid (fun W (h : Below Wn.heap.size Wn W) => (TB.out.hr.below h).values)
                generalize vals Mn f2 r2 = LA at *
                generalize vals M f r = LB at *
                obtain ⟨bs, hbs⟩ : ∃ x, x = decide (LA = LB) := ⟨_, rfl⟩
                rw [← hbs]
                have HBS := Lib.hid hbs
                clear hbs hin hin2
                go_wp2_with fail
                refine (HVA.out _ HBd.out).mono ?_
                rintro e we ⟨v1, rfl, hrow, hbe⟩
                obtain ⟨A5, c5, rfl, hv5⟩ := row_ints hrow rfl
                have HBe := Lib.hid (below_step HBd.out hbe); have HV5 := Lib.hid hv5
                clear hbe hv5 hrow
                go_wp2_with fail
                refine (HVB.out _ HBe.out).mono ?_
                rintro e wf ⟨v2, rfl, hrow, hbf⟩
                obtain ⟨A6, c6, rfl, hv6⟩ := row_ints hrow rfl
                have HBf := Lib.hid (below_step HBe.out hbf); have HV6 := Lib.hid hv6
                have HV5' := Lib.hid (HV5.out.below hbf)
                clear hbf hv6 hrow
                go_wp2_with fail
                refine (ints_same A5 A6 c5 c6 LA LB _ HV5'.out HV6.out hl5 hl6).mono ?_
                rintro e wg ⟨rfl, hdg⟩
                have HBg := Lib.hid (below_step HBn.out (below_step HBf.out hdg.below))
                have HNg := Lib.hid (below_step HBf.out hdg.below)
                rw [← HBS.out]
                clear hdg
                have e7 : (bs != bs) = false := by cases bs <;> rfl
                go_wp2_with fail
                go_roundw
                case rel =>
                  exact ⟨k + 1, g2, gp2, q2, qn, g, gp, q, ql, f2, r2, Mn, f, r, M, rfl, rfl, rfl, rfl, by go_num, by omega, by omega, Lib.hid (TA.out.below HNg.out), Lib.hid (TB.out.below HNg.out), TC, HBg⟩
                case measure => simp [intOf]; omega
            · as_aux_lemma =>
                go_wp2_with fail
                have hbo := World.alloc_heap_new wr (.cells #[.int .i64 5, .int .i64 v, .bool true] 50)
                have hbw : Below wr.heap.size wr (wr.alloc (.cells #[.int .i64 5, .int .i64 v, .bool true] 50)) := (Below.refl _ _).alloc (Nat.le_refl _) _
                generalize wr.alloc (.cells #[.int .i64 5, .int .i64 v, .bool true] 50) = W1 at *
                have HBO := Lib.hid hbo; have HBW := Lib.hid (below_step hB.out hbw)
                have T1 := Lib.hid (hT2.out.below hbw); have T2 := Lib.hid (hT1.out.below hbw); have AP := Lib.hid (hAP.out.swap)
                have hs1 := hbw.size
                have l1 := hT2.out.hs.lt; have l2 := hT2.out.hr.lt
                have HT := Lib.hid (tab_keep HL.out (HBW.out.block 0 hz))
                clear hbo hbw hT1 hT2 hAP hB
                have hlo := T1.out.lo
                have hsw := HBW.out.size
                refine (join_calls w.heap.size _ T1.out.hs T1.out.hr (T1.out.other T2.out AP.out) HT.out (by omega) ⟨hlo.1, hlo.2.1, hlo.2.2.1, hlo.2.2.2, hsw⟩).mono ?_
                rintro e wb ⟨ql', M', rfl, b1, b2, b3, b4, b5⟩
                have ko := (b4.2 wr.heap.size (blk_lt HBO.out) (by simp; omega)).trans HBO.out
                have cv3 : wb.cell? ⟨wr.heap.size, 1, none⟩ = some (.int .i64 v) := blk_cell ko 1
                obtain ⟨t1, t2, t3⟩ := T1.out.after T2.out AP.out b1 b2 b3 b4 hsw
                have HBn := Lib.hid (HBW.out.trans b5)
                generalize wb = Wn at *
                obtain ⟨qn, Mn, TA, TB, TC⟩ : ∃ qn Mn, Hid (Twin w.heap.size Wn g2 gp2 q2 qn f2 r2 Mn) ∧ Hid (Twin w.heap.size Wn g gp q ql f r M) ∧ Hid (Apart gp2 q2 qn gp q ql) := ⟨_, _, Lib.hid t1, Lib.hid t2, Lib.hid t3⟩
                clear b1 b2 b3 b4 b5 ko t1 t2 t3 T1 T2 AP
                go_wp2_with fail
                have HTn := Lib.hid (tab_keep HL.out (HBn.out.block 0 hz))
                have hsn := HBn.out.size
                go_wp2_with fail
                refine (alike_calls TA.out.hs TA.out.hr HTn.out v hv).mono ?_
                rintro e wc ⟨rfl, hbc⟩
                have HBc := Lib.hid hbc
                clear hbc cv3
                go_wp2_with fail
                refine ((TA.out.hs.below HBc.out).same (tab_keep HTn.out (HBc.out.block 0 (by omega))) (TB.out.hs.below HBc.out)).mono ?_
                rintro e wd ⟨rfl, hbd⟩
                have HBd := Lib.hid (below_step HBc.out hbd)
                clear hbd
                have hin := TA.out.hr.inn.1
                have hin2 := TB.out.hr.inn.1
                have hl5 : (vals Mn f2 r2).length ≤ 65536 := by
                  have h2 := valsTo_len Mn f2 (r2).toNat
                  unfold vals
                  omega
                have hl6 : (vals M f r).length ≤ 65536 := by
                  have h2 := valsTo_len M f (r).toNat
                  unfold vals
                  omega
                have HVA := Lib.hid (fun W (h : Below Wn.heap.size Wn W) => (TA.out.hr.below h).values)
                have HVB := Lib.hid (fun W (h : Below Wn.heap.size Wn W) => (TB.out.hr.below h).values)
                generalize vals Mn f2 r2 = LA at *
                generalize vals M f r = LB at *
                obtain ⟨bs, hbs⟩ : ∃ x, x = decide (LA = LB) := ⟨_, rfl⟩
                rw [← hbs]
                have HBS := Lib.hid hbs
                clear hbs hin hin2
                go_wp2_with fail
                refine (HVA.out _ HBd.out).mono ?_
                rintro e we ⟨v1, rfl, hrow, hbe⟩
                obtain ⟨A5, c5, rfl, hv5⟩ := row_ints hrow rfl
                have HBe := Lib.hid (below_step HBd.out hbe); have HV5 := Lib.hid hv5
                clear hbe hv5 hrow
                go_wp2_with fail
                refine (HVB.out _ HBe.out).mono ?_
                rintro e wf ⟨v2, rfl, hrow, hbf⟩
                obtain ⟨A6, c6, rfl, hv6⟩ := row_ints hrow rfl
                have HBf := Lib.hid (below_step HBe.out hbf); have HV6 := Lib.hid hv6
                have HV5' := Lib.hid (HV5.out.below hbf)
                clear hbf hv6 hrow
                go_wp2_with fail
                refine (ints_same A5 A6 c5 c6 LA LB _ HV5'.out HV6.out hl5 hl6).mono ?_
                rintro e wg ⟨rfl, hdg⟩
                have HBg := Lib.hid (below_step HBn.out (below_step HBf.out hdg.below))
                have HNg := Lib.hid (below_step HBf.out hdg.below)
                rw [← HBS.out]
                clear hdg
                have e7 : (bs != bs) = false := by cases bs <;> rfl
                go_wp2_with fail
                go_roundw
                case rel =>
                  exact ⟨k + 1, g2, gp2, q2, qn, g, gp, q, ql, f2, r2, Mn, f, r, M, rfl, rfl, rfl, rfl, by go_num, by omega, by omega, Lib.hid (TA.out.below HNg.out), Lib.hid (TB.out.below HNg.out), TC, HBg⟩
                case measure => simp [intOf]; omega
            · as_aux_lemma =>
                go_wp2_with fail
                have hbo := World.alloc_heap_new wr (.cells #[.int .i64 6, .int .i64 v, .bool true] 50)
                have hbw : Below wr.heap.size wr (wr.alloc (.cells #[.int .i64 6, .int .i64 v, .bool true] 50)) := (Below.refl _ _).alloc (Nat.le_refl _) _
                generalize wr.alloc (.cells #[.int .i64 6, .int .i64 v, .bool true] 50) = W1 at *
                have HBO := Lib.hid hbo; have HBW := Lib.hid (below_step hB.out hbw)
                have T1 := Lib.hid (hT2.out.below hbw); have T2 := Lib.hid (hT1.out.below hbw); have AP := Lib.hid (hAP.out.swap)
                have hs1 := hbw.size
                have l1 := hT2.out.hs.lt; have l2 := hT2.out.hr.lt
                have HT := Lib.hid (tab_keep HL.out (HBW.out.block 0 hz))
                clear hbo hbw hT1 hT2 hAP hB
                have hlo := T1.out.lo
                have hsw := HBW.out.size
                refine (join_calls w.heap.size _ T1.out.hs T1.out.hr T1.out.self HT.out (by omega) ⟨hlo.1, hlo.2.1, hlo.2.2.1, hlo.2.2.2, hsw⟩).mono ?_
                rintro e wb ⟨ql', M', rfl, b1, b2, b3, b4, b5⟩
                have ko := (b4.2 wr.heap.size (blk_lt HBO.out) (by simp; omega)).trans HBO.out
                have cv3 : wb.cell? ⟨wr.heap.size, 1, none⟩ = some (.int .i64 v) := blk_cell ko 1
                obtain ⟨t1, t2, t3⟩ := T1.out.after T2.out AP.out b1 b2 b3 b4 hsw
                have HBn := Lib.hid (HBW.out.trans b5)
                generalize wb = Wn at *
                obtain ⟨qn, Mn, TA, TB, TC⟩ : ∃ qn Mn, Hid (Twin w.heap.size Wn g2 gp2 q2 qn f2 r2 Mn) ∧ Hid (Twin w.heap.size Wn g gp q ql f r M) ∧ Hid (Apart gp2 q2 qn gp q ql) := ⟨_, _, Lib.hid t1, Lib.hid t2, Lib.hid t3⟩
                clear b1 b2 b3 b4 b5 ko t1 t2 t3 T1 T2 AP
                go_wp2_with fail
                have HTn := Lib.hid (tab_keep HL.out (HBn.out.block 0 hz))
                have hsn := HBn.out.size
                go_wp2_with fail
                refine (alike_calls TA.out.hs TA.out.hr HTn.out v hv).mono ?_
                rintro e wc ⟨rfl, hbc⟩
                have HBc := Lib.hid hbc
                clear hbc cv3
                go_wp2_with fail
                refine ((TA.out.hs.below HBc.out).same (tab_keep HTn.out (HBc.out.block 0 (by omega))) (TB.out.hs.below HBc.out)).mono ?_
                rintro e wd ⟨rfl, hbd⟩
                have HBd := Lib.hid (below_step HBc.out hbd)
                clear hbd
                have hin := TA.out.hr.inn.1
                have hin2 := TB.out.hr.inn.1
                have hl5 : (vals Mn f2 r2).length ≤ 65536 := by
                  have h2 := valsTo_len Mn f2 (r2).toNat
                  unfold vals
                  omega
                have hl6 : (vals M f r).length ≤ 65536 := by
                  have h2 := valsTo_len M f (r).toNat
                  unfold vals
                  omega
                have HVA := Lib.hid (fun W (h : Below Wn.heap.size Wn W) => (TA.out.hr.below h).values)
                have HVB := Lib.hid (fun W (h : Below Wn.heap.size Wn W) => (TB.out.hr.below h).values)
                generalize vals Mn f2 r2 = LA at *
                generalize vals M f r = LB at *
                obtain ⟨bs, hbs⟩ : ∃ x, x = decide (LA = LB) := ⟨_, rfl⟩
                rw [← hbs]
                have HBS := Lib.hid hbs
                clear hbs hin hin2
                go_wp2_with fail
                refine (HVA.out _ HBd.out).mono ?_
                rintro e we ⟨v1, rfl, hrow, hbe⟩
                obtain ⟨A5, c5, rfl, hv5⟩ := row_ints hrow rfl
                have HBe := Lib.hid (below_step HBd.out hbe); have HV5 := Lib.hid hv5
                clear hbe hv5 hrow
                go_wp2_with fail
                refine (HVB.out _ HBe.out).mono ?_
                rintro e wf ⟨v2, rfl, hrow, hbf⟩
                obtain ⟨A6, c6, rfl, hv6⟩ := row_ints hrow rfl
                have HBf := Lib.hid (below_step HBe.out hbf); have HV6 := Lib.hid hv6
                have HV5' := Lib.hid (HV5.out.below hbf)
                clear hbf hv6 hrow
                go_wp2_with fail
                refine (ints_same A5 A6 c5 c6 LA LB _ HV5'.out HV6.out hl5 hl6).mono ?_
                rintro e wg ⟨rfl, hdg⟩
                have HBg := Lib.hid (below_step HBn.out (below_step HBf.out hdg.below))
                have HNg := Lib.hid (below_step HBf.out hdg.below)
                rw [← HBS.out]
                clear hdg
                have e7 : (bs != bs) = false := by cases bs <;> rfl
                go_wp2_with fail
                go_roundw
                case rel =>
                  exact ⟨k + 1, g2, gp2, q2, qn, g, gp, q, ql, f2, r2, Mn, f, r, M, rfl, rfl, rfl, rfl, by go_num, by omega, by omega, Lib.hid (TA.out.below HNg.out), Lib.hid (TB.out.below HNg.out), TC, HBg⟩
                case measure => simp [intOf]; omega
            · as_aux_lemma =>
                go_wp2_with fail
                have hbo := World.alloc_heap_new wr (.cells #[.int .i64 kd, .int .i64 v, .bool true] 50)
                have hbw : Below wr.heap.size wr (wr.alloc (.cells #[.int .i64 kd, .int .i64 v, .bool true] 50)) := (Below.refl _ _).alloc (Nat.le_refl _) _
                generalize wr.alloc (.cells #[.int .i64 kd, .int .i64 v, .bool true] 50) = W1 at *
                have HBO := Lib.hid hbo; have HBW := Lib.hid (below_step hB.out hbw)
                have T1 := Lib.hid (hT2.out.below hbw); have T2 := Lib.hid (hT1.out.below hbw); have AP := Lib.hid (hAP.out.swap)
                have hs1 := hbw.size
                have l1 := hT2.out.hs.lt; have l2 := hT2.out.hr.lt
                have HT := Lib.hid (tab_keep HL.out (HBW.out.block 0 hz))
                clear hbo hbw hT1 hT2 hAP hB
                have cv3 : W1.cell? ⟨wr.heap.size, 1, none⟩ = some (.int .i64 v) := blk_cell HBO.out 1
                have HBn := HBW
                generalize W1 = Wn at *
                obtain ⟨qn, Mn, TA, TB, TC⟩ : ∃ qn Mn, Hid (Twin w.heap.size Wn g2 gp2 q2 qn f2 r2 Mn) ∧ Hid (Twin w.heap.size Wn g gp q ql f r M) ∧ Hid (Apart gp2 q2 qn gp q ql) := ⟨_, _, T1, T2, AP⟩
                clear T1 T2 AP
                have HTn := Lib.hid (tab_keep HL.out (HBn.out.block 0 hz))
                have hsn := HBn.out.size
                go_wp2_with fail
                refine (alike_calls TA.out.hs TA.out.hr HTn.out v hv).mono ?_
                rintro e wc ⟨rfl, hbc⟩
                have HBc := Lib.hid hbc
                clear hbc cv3
                go_wp2_with fail
                refine ((TA.out.hs.below HBc.out).same (tab_keep HTn.out (HBc.out.block 0 (by omega))) (TB.out.hs.below HBc.out)).mono ?_
                rintro e wd ⟨rfl, hbd⟩
                have HBd := Lib.hid (below_step HBc.out hbd)
                clear hbd
                have hin := TA.out.hr.inn.1
                have hin2 := TB.out.hr.inn.1
                have hl5 : (vals Mn f2 r2).length ≤ 65536 := by
                  have h2 := valsTo_len Mn f2 (r2).toNat
                  unfold vals
                  omega
                have hl6 : (vals M f r).length ≤ 65536 := by
                  have h2 := valsTo_len M f (r).toNat
                  unfold vals
                  omega
                have HVA := Lib.hid (fun W (h : Below Wn.heap.size Wn W) => (TA.out.hr.below h).values)
                have HVB := Lib.hid (fun W (h : Below Wn.heap.size Wn W) => (TB.out.hr.below h).values)
                generalize vals Mn f2 r2 = LA at *
                generalize vals M f r = LB at *
                obtain ⟨bs, hbs⟩ : ∃ x, x = decide (LA = LB) := ⟨_, rfl⟩
                rw [← hbs]
                have HBS := Lib.hid hbs
                clear hbs hin hin2
                go_wp2_with fail
                refine (HVA.out _ HBd.out).mono ?_
                rintro e we ⟨v1, rfl, hrow, hbe⟩
                obtain ⟨A5, c5, rfl, hv5⟩ := row_ints hrow rfl
                have HBe := Lib.hid (below_step HBd.out hbe); have HV5 := Lib.hid hv5
                clear hbe hv5 hrow
                go_wp2_with fail
                refine (HVB.out _ HBe.out).mono ?_
                rintro e wf ⟨v2, rfl, hrow, hbf⟩
                obtain ⟨A6, c6, rfl, hv6⟩ := row_ints hrow rfl
                have HBf := Lib.hid (below_step HBe.out hbf); have HV6 := Lib.hid hv6
                have HV5' := Lib.hid (HV5.out.below hbf)
                clear hbf hv6 hrow
                go_wp2_with fail
                refine (ints_same A5 A6 c5 c6 LA LB _ HV5'.out HV6.out hl5 hl6).mono ?_
                rintro e wg ⟨rfl, hdg⟩
                have HBg := Lib.hid (below_step HBn.out (below_step HBf.out hdg.below))
                have HNg := Lib.hid (below_step HBf.out hdg.below)
                rw [← HBS.out]
                clear hdg
                have e7 : (bs != bs) = false := by cases bs <;> rfl
                go_wp2_with fail
                go_roundw
                case rel =>
                  exact ⟨k + 1, g2, gp2, q2, qn, g, gp, q, ql, f2, r2, Mn, f, r, M, rfl, rfl, rfl, rfl, by go_num, by omega, by omega, Lib.hid (TA.out.below HNg.out), Lib.hid (TB.out.below HNg.out), TC, HBg⟩
                case measure => simp [intOf]; omega
        · have hend : ¬ ((k : Int) < n3 ∧ (k : Int) < 100) := by omega
          have T1 := hT1; have T2 := hT2
          have HT := Lib.hid (tab_keep HL.out (hB.out.block 0 hz))
          have HBB := hB
          clear hT1 hT2 hAP hB
          by_cases h1 : k < n3
          · as_aux_lemma =>
            have h2 : ¬ k < 100 := fun h => hkn ⟨h1, h⟩
            have hd1 : decide (k < n3) = true := decide_eq_true h1
            have hd2 : decide ((k : Int) < 100) = false := decide_eq_false (by omega)
            clear hkn hend
            go_wp2_with fail
            refine (alike_calls T1.out.hs T1.out.hr HT.out 0 (by omega)).mono ?_
            rintro e wc ⟨rfl, hbc⟩
            have HBc := Lib.hid hbc
            clear hbc
            go_wp2_with fail
            refine (alike_calls (T2.out.hs.below HBc.out) (T2.out.hr.below HBc.out) (tab_keep HT.out (HBc.out.block 0 (by omega))) 0 (by omega)).mono ?_
            rintro e wd ⟨rfl, hbd⟩
            have HBd := Lib.hid (below_step HBB.out (below_step HBc.out hbd))
            clear hbd
            go_wp2_with fail
            refine (known_calls _ (tab_keep HL.out (HBd.out.block 0 hz))).mono ?_
            rintro e w9 ⟨rfl, hb9⟩
            have HB9 := Lib.hid (below_step HBd.out hb9)
            clear hb9
            go_wp2_with fail
            go_ret
            exact ⟨rfl, HB9.out⟩
          · as_aux_lemma =>
            have hd1 : decide (k < n3) = false := decide_eq_false h1
            clear hkn hend
            go_wp2_with fail
            refine (alike_calls T1.out.hs T1.out.hr HT.out 0 (by omega)).mono ?_
            rintro e wc ⟨rfl, hbc⟩
            have HBc := Lib.hid hbc
            clear hbc
            go_wp2_with fail
            refine (alike_calls (T2.out.hs.below HBc.out) (T2.out.hr.below HBc.out) (tab_keep HT.out (HBc.out.block 0 (by omega))) 0 (by omega)).mono ?_
            rintro e wd ⟨rfl, hbd⟩
            have HBd := Lib.hid (below_step HBB.out (below_step HBc.out hbd))
            clear hbd
            go_wp2_with fail
            refine (known_calls _ (tab_keep HL.out (HBd.out.block 0 hz))).mono ?_
            rintro e w9 ⟨rfl, hb9⟩
            have HB9 := Lib.hid (below_step HBd.out hb9)
            clear hb9
            go_wp2_with fail
            go_ret
            exact ⟨rfl, HB9.out⟩

end Go.Proofs.YtfkbkcdiajjljaaDoor.PBitsSteps
