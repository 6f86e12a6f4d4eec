/- Parts of the laws of bits: functions of the program, each with the proof of what it answers; the conditions are those of each theorem. -/
import Derived.Test.YtfkbkcdiajjljaaDoorBzcb
namespace Go.Proofs.YtfkbkcdiajjljaaDoor.PBitsSteps
open Go.RowKit Go.Proofs.YtfkbkcdiajjljaaDoorW.PrintWords Go.Proofs.YtfkbkcdiajjljaaDoorW.PrintLast Go.Proofs.YtfkbkcdiajjljaaDoorW.PrintMore
set_option linter.unusedVariables false
set_option linter.unusedSimpArgs false
attribute [local go_sem] Oper.semAt_some
open Go.Shelf in
set_option maxRecDepth 100000 in
set_option maxHeartbeats 16000000 in
theorem alike_calls {w : World} {g gp q ql : Nat} {f r : Int} {M : Int → Bool} (hS : SetAt w g gp f r M) (hR : RefAt w q ql f r M) (hL : TabLaid w) (v : Int) (hv : -9223372036854775808 ≤ v ∧ v ≤ 9223372036854775807) :
    Calls Tryd.prog 20 #[setP g, refP q, .int .i64 v] w fun e w' => e = .returned (.bool true) ∧ Below w.heap.size w w' := by
  have hbd : 0 < r ∧ r ≤ 65536 ∧ -1000000 ≤ f ∧ f + r ≤ 1000001 := by obtain ⟨_, _, _, _, _, _, _, h, _⟩ := hR; exact h
  have hin : ∀ v, M v = true → f ≤ v ∧ v < f + r := by obtain ⟨_, _, _, _, _, _, _, _, h⟩ := hR; exact h
  obtain ⟨n, rfl⟩ : ∃ n : Nat, r = (n : Int) := ⟨r.toNat, by omega⟩
  have hmem := mem_vals M f n hin
  have hsrt := vals_sorted M f n
  have hlenL := valsTo_len M f (n : Int).toNat
  have hlenL : (vals M f n).length ≤ 65536 := by unfold vals; omega
  have HS := Lib.hid hS; have HR := Lib.hid hR; have HL := Lib.hid hL; have HIN := Lib.hid hin; have HMEM := Lib.hid hmem; have HSRT := Lib.hid hsrt
  have hltS := hS.lt; have hltR := hR.lt
  have hz : 0 < w.heap.size := by omega
  clear hS hR hL hin hmem hsrt
  refine (callsIn_wide (n := 5)).1 ?_
  refine callsIn_of_wp_marks Tryd.func20 rfl trivial ?_ rfl
  simp only [Tryd.ntmps20, List.size_toArray, List.length_cons, List.length_nil, Nat.reduceAdd, Nat.reduceSub, Array.replicate_succ, Array.replicate_zero, List.push_toArray, List.append_toArray, List.nil_append, List.cons_append]
  refine wpIn_wide.2 ?_
  have U : setP g = .pointer (some ⟨g, 0, none⟩) := rfl
  have U' : refP q = .pointer (some ⟨q, 0, none⟩) := rfl
  rw [U, U']
  go_wp2_with fail
  rw [← U']
  have hB1 : Below w.heap.size w (w.alloc (.cells #[.bool false] 4)) := (Below.refl _ w).alloc (Nat.le_refl _) _
  have b6 := Boxed.new w 4 (.bool false)
  have hsz1 : (w.alloc (.cells #[.bool false] 4)).heap.size = w.heap.size + 1 := by simp
  have HB1 := Lib.hid hB1; have HB6 := Lib.hid b6
  clear hB1 b6
  generalize w.alloc (.cells #[.bool false] 4) = wa at *
  refine ((HR.out.below HB1.out).values).mono ?_
  rintro e w1 ⟨v1, rfl, k1, k2⟩
  obtain ⟨A1, c1, rfl, hV⟩ := row_ints k1 rfl
  have hV2 := hV.below ((Below.refl _ w1).alloc (Nat.le_refl _) (.cells #[.slice A1 (vals M f n).length c1] 56))
  have b7 := Boxed.new w1 56 (.slice A1 (vals M f n).length c1)
  have hB1 := below_step HB1.out k2
  have hB2 := hB1.alloc hB1.size (.cells #[.slice A1 (vals M f n).length c1] 56)
  have h6 : Boxed (w1.alloc (.cells #[.slice A1 (vals M f n).length c1] 56)) w.heap.size 4 (.bool false) := (boxed_below (boxed_below HB6.out k2) ((Below.refl _ w1).alloc (Nat.le_refl _) _))
  have hsz2 : w1.heap.size < (w1.alloc (.cells #[.slice A1 (vals M f n).length c1] 56)).heap.size := by simp
  have hsz3 : w.heap.size < w1.heap.size := by have := k2.size; omega
  have HB2 := Lib.hid hB2; have HV := Lib.hid hV2; have HB7 := Lib.hid b7; have HB62 := Lib.hid h6
  clear k1 hV k2 hV2 b7 hB1 hB2 h6
  go_wp2_with fail
  generalize w1.alloc (.cells #[.slice A1 (vals M f n).length c1] 56) = W2 at *
  have HL2 := Lib.hid (tab_keep HL.out (HB2.out.block 0 hz))
  have hS2 := HS.out.below HB2.out
  have hR2 := HR.out.below HB2.out
  have HS2 := Lib.hid hS2; have HR2 := Lib.hid hR2
  clear hS2 hR2
  rw [← U]
  refine (HS2.out.rangesE HL2.out).mono ?_
  rintro e W3 ⟨A8, c8, rfl, kc8, b3⟩
  have HC8 := Lib.hid kc8; have HB3 := Lib.hid b3
  clear kc8 b3
  go_wp2_with fail
  refine ((HR2.out.below HB3.out).rangesE).mono ?_
  rintro e W4 ⟨A10, c10, rfl, kc10, b4⟩
  have HC10 := Lib.hid kc10; have HB4 := Lib.hid b4
  clear kc10 b4
  go_wp2_with fail
  refine (((HS2.out.below HB3.out).below HB4.out).words).mono ?_
  rintro e W5 ⟨g2, cs2, rfl, k1, k2, k3, b5⟩
  have hB25 : Below W2.heap.size W2 W5 := below_step (below_step HB3.out HB4.out) b5
  have hg2 : W2.heap.size ≤ g2 := Nat.le_trans (below_step HB3.out HB4.out).size k1
  have HB25 := Lib.hid hB25; have HK2 := Lib.hid k2; have HK3 := Lib.hid k3
  have HC85 := Lib.hid (Kd.C_below (Kd.C_below HC8.out HB4.out) b5)
  have HC105 := Lib.hid (Kd.C_below HC10.out b5)
  have HS5 := Lib.hid (HS2.out.below hB25)
  have HR5 := Lib.hid (HR2.out.below hB25)
  have HB75 := Lib.hid (boxed_below HB7.out hB25)
  clear k1 k2 k3 b5 hB25
  go_wp2_with fail
  obtain ⟨cR, csR, r1, r2, r3⟩ := HR5.out
  have hq0 := refB_first r1; have hq1 := refB_row r1
  rw [Int.toNat_natCast] at hq1
  have h7c := HB75.out.cell
  have hlR := HR5.out.lt.1
  have hl7 := HB75.out.lt
  have HALL : Hid (∀ x, Below W5.heap.size W5 x → x.cell? ⟨q, 0, none⟩ = some (.int .i64 f) ∧ x.cell? ⟨q, 1, none⟩ = some (.slice (some ⟨ql, 0, none⟩) n cR) ∧ x.cell? ⟨w1.heap.size, 0, none⟩ = some (.slice A1 (vals M f n).length c1) ∧ Below W5.heap.size W5 x) :=
    Lib.hid (fun x hb => ⟨(hb.cell hlR).trans hq0, (hb.cell hlR).trans hq1, (hb.cell hl7).trans h7c, hb⟩)
  have hS : Below W5.heap.size W5 W5.drew := (Below.refl _ _).drew
  have HLE := Lib.hid (rgE_len M f n)
  clear r1 r2 r3 hq0 hq1 h7c hlR hl7
  generalize hVL : vals M f n = L at *
  generalize hRE : rgE M f n = E at *
  have HVL := Lib.hid hVL; have HRE := Lib.hid hRE
  clear hVL hRE
  generalize hmv : M v = mv at *
  have HMV := Lib.hid hmv
  clear hmv
  go_region_held3 (fun x => x.cell? ⟨q, 0, none⟩ = some (.int .i64 f) ∧ x.cell? ⟨q, 1, none⟩ = some (.slice (some ⟨ql, 0, none⟩) n cR) ∧ x.cell? ⟨w1.heap.size, 0, none⟩ = some (.slice A1 L.length c1) ∧ Below W5.heap.size W5 x)
    (first | exact HALL.out _ hS)
    (first
      | (go_at_call 10; refine ((HS5.out.below hS).first).mono ?_; rintro e wb ⟨rfl, hd⟩; have hS := below_step hS hd.below)
      | (go_at_call 11; refine ((HS5.out.below hS).room).mono ?_; rintro e wb ⟨rfl, hd⟩; have hS := below_step hS hd.below)
      | (go_at_call 35; refine ((HS5.out.below hS).size).mono ?_; rw [HVL.out]; rintro e wb ⟨rfl, hd⟩; have hS := below_step hS hd)
      | (go_at_call 48; refine (refAlike_same A8 A10 c8 c10 E.1 _ (Kd.C_below HC85.out hS) (Kd.C_below HC105.out hS) (by have := HLE.out; omega)).mono ?_; rintro e wb ⟨rfl, hd⟩; have hS := below_step hS hd.below)
      | (go_at_call 51; refine ((HR5.out.below hS).words).mono ?_; rintro e wb ⟨g6, cs6, rfl, k1, k2, k3, hd⟩; have hS := below_step hS hd)
      | (go_at_call 50; refine (words_alike g2 g6 _ _ _ cs2 cs6 (fun i => wordN M (f + 64 * i) 64) _ ?_ k2 ?_ ?_ ?_).mono ?_; (exact (hS.block g2 (blk_lt HK2.out)).trans HK2.out); (exact fun i hi => HK3.out i (by omega)); (exact fun i hi => k3 i (by omega)); (omega); rintro e wb ⟨rfl, hd⟩; have hS := below_step hS hd.below)
      | (go_at_call 12; refine ((HS5.out.below hS).has v).mono ?_; rw [HMV.out]; rintro e wb ⟨rfl, hd⟩; have hS := below_step hS hd.below)
      | (go_at_call 52; refine ((HR5.out.below hS).has v).mono ?_; rw [HMV.out]; rintro e wb ⟨rfl, hd⟩; have hS := below_step hS hd.below))
  have hB := below_step HB25.out hS
  have hk2 := (hS.block g2 (blk_lt HK2.out)).trans HK2.out
  have hcs : ((n : Int) + 63) / 64 ≤ cs2.size := by
    have h := (Array.getElem?_eq_some_iff.1 (HK3.out (((n : Int) + 63) / 64 - 1).toNat (by omega))).1
    omega
  have HBb := Lib.hid hB
  have HKb : Hid (∃ cs, wb.heap[g2]? = some (.cells cs 72 (0, 0)) ∧ ((n : Int) + 63) / 64 ≤ cs.size) := Lib.hid ⟨_, hk2, hcs⟩
  clear hB hk2 hcs HALL hS
  generalize hm : (((n : Int) + 63) / 64).toNat = m at *
  have hmb : m ≤ 2000 := by omega
  have hme : ((n : Int) + 63) / 64 = m := by omega
  rw [hme] at HKb
  clear hm hme
  have HWL := Lib.hid hbd
  go_wp2_with fail
  go_loopw [13] (fun i wr => ∃ k : Nat, i = .int .i64 k ∧ k ≤ m ∧ Hid (∃ cs, wr.heap[g2]? = some (.cells cs 72 (0, 0)) ∧ (m : Int) ≤ cs.size) ∧ Hid (Below W2.heap.size W2 wr)) (fun i _ => m - (intOf i).toNat)
  case atStart => exact ⟨0, rfl, by omega, HKb, HBb⟩
  case round =>
    clear HKb HBb
    obtain ⟨k, rfl, hk, hW, hB⟩ := hrel
    by_cases hkm : k < m
    · obtain ⟨cs, e1, e2⟩ := hW.out
      have c3 := (blk_cell e1 k).trans (Array.getElem?_eq_getElem (show k < cs.size by omega))
      have hfz := blk_frozen e1 k
      have HE1 := Lib.hid e1
      clear e1
      go_wp2_with fail
      go_roundw
      case rel => exact ⟨k + 1, by go_num, by omega, Lib.hid ⟨_, blk_put HE1.out k _ rfl, by simp; omega⟩, Lib.hid (hB.out.setCell (p := ⟨g2, k, none⟩) hg2 _)⟩
      case measure => simp [intOf]; omega
    · obtain rfl : k = m := by omega
      have hz2 : 0 < W2.heap.size := by omega
      have HT := Lib.hid (tab_keep HL2.out (hB.out.block 0 hz2))
      go_wp2_with fail
      rw [← U]
      refine ((HS2.out.below hB.out).min HT.out).mono ?_
      rintro e wc ⟨⟨a, ok, rfl, hxa⟩, hd⟩
      have HBc := Lib.hid (below_step hB.out hd.below)
      have HXA := Lib.hid hxa
      clear hd hxa
      go_wp2_with fail
      refine ((HS2.out.below HBc.out).max).mono ?_
      rintro e wd ⟨⟨b, is, rfl, hxb⟩, hd⟩
      have HBd := Lib.hid (below_step HBc.out hd.below)
      have HXB := Lib.hid hxb
      clear hd hxb
      go_wp2_with fail
      refine ((HS2.out.below HBd.out).next (tab_keep HL2.out (HBd.out.block 0 hz2)) v hv).mono ?_
      rintro e we ⟨⟨nx, has, rfl, hxn⟩, hd⟩
      have HBe := Lib.hid (below_step HBd.out hd.below)
      have HXN := Lib.hid hxn
      have HVe := Lib.hid (HV.out.below HBe.out)
      have hl7 := HB7.out.lt
      have h7e := (HBe.out.cell hl7).trans HB7.out.cell
      clear hd hxn HBc HBd HT hl7 hB
      go_wp2_with fail
      go_loopw [20, 21, 22] (fun nv hb i wr => ∃ (k : Nat) (x : Int) (hd : Bool), i = .int .i64 k ∧ nv = .int .i64 x ∧ hb = .bool hd ∧ k ≤ L.length ∧ Hid (hd = false → x = 0 ∧ ∀ j (hj : j < L.length), j < k → L[j] < v) ∧ Hid (hd = true → IsNext M v x true) ∧ wr = we)
        (fun _ hb i _ => if boolOf hb then 0 else L.length + 1 - (intOf i).toNat)
      case atStart => exact ⟨0, 0, false, rfl, rfl, rfl, by omega, Lib.hid (fun _ => ⟨rfl, fun j _ hj => by omega⟩), Lib.hid (fun h => by cases h), rfl⟩
      case round =>
        obtain ⟨k, x, hd, rfl, rfl, rfl, hk, hF, hT, rfl⟩ := hrel
        have hsplit : (k < L.length ∧ hd = false) ∨ (k < L.length ∧ hd = true) ∨ k = L.length := by
          rcases Nat.lt_or_ge k L.length with h | h
          · cases hd
            · exact .inl ⟨h, rfl⟩
            · exact .inr (.inl ⟨h, rfl⟩)
          · exact .inr (.inr (by omega))
        rcases hsplit with ⟨hkl, rfl⟩ | ⟨hkl, rfl⟩ | rfl
        · obtain ⟨b7, rfl, hb7, c4⟩ := HVe.out k hkl
          obtain ⟨hx0, hlt⟩ := hF.out rfl
          subst hx0
          have HLT := Lib.hid hlt
          clear hlt
          generalize hLk : L[k] = y at *
          have HLK := Lib.hid hLk
          clear hLk
          by_cases hge : v ≤ y
          · go_wp2_with fail
            go_roundw
            case rel =>
              refine ⟨k + 1, y, true, by go_num, rfl, rfl, by omega, Lib.hid (fun h => by cases h), Lib.hid (fun _ => ?_), trivial⟩
              have := vals_next_some HMEM.out HSRT.out k hkl (fun j hj => HLT.out j (by omega) hj) (by rw [HLK.out]; exact hge)
              rw [HLK.out] at this
              exact this
            case measure => simp [intOf, boolOf]; omega
          · go_wp2_with fail
            go_roundw
            case rel =>
              refine ⟨k + 1, 0, false, by go_num, rfl, rfl, by omega, Lib.hid (fun _ => ⟨rfl, fun j hj hjk => ?_⟩), Lib.hid (fun h => by cases h), trivial⟩
              by_cases e : j = k
              · subst e; rw [HLK.out]; omega
              · exact HLT.out j hj (by omega)
            case measure => simp [intOf, boolOf]; omega
        · obtain ⟨rfl, rfl⟩ := HXN.out.same (hT.out rfl)
          rcases vals_ends HMEM.out HSRT.out (fun v hv => (HIN.out v hv).1) HXA.out HXB.out with ⟨rfl, _⟩ | ⟨h0, rfl, rfl, ha, hb⟩
          · cases hkl
          · obtain ⟨b7, rfl, hb7, c4⟩ := HVe.out 0 h0
            obtain ⟨b7', e7, _, c5⟩ := HVe.out (L.length - 1) (by omega)
            cases e7
            rw [ha] at c4
            rw [hb] at c5
            have ew : wrap64 ((L.length : Int) - 1) = ((L.length - 1 : Nat) : Int) := by rw [show (L.length : Int) - 1 = ((L.length - 1 : Nat) : Int) by omega]; exact IntWalk.wrap64_in _ (by omega)
            have h0d : decide (0 < (L.length : Int)) = true := decide_eq_true (by omega)
            go_wp2_with fail
            rw [← U]
            refine ((HS2.out.below HBe.out).each).mono ?_
            rintro e W0 ⟨B, gs, gp', rfl, ⟨k1, k2, k3⟩, k4, k5, k6⟩
            go_wp2_with fail
            rw [func_eql_nil]
            go_wp2_with fail
            have hB0 := below_step HBe.out k6
            have hB24 : Below W2.heap.size W2 (W0.alloc (.cells #[.int .i64 0] 3)) := hB0.alloc hB0.size _
            have b24 := Boxed.new W0 3 (.int .i64 0)
            have k4' := boxed_below k4 ((Below.refl _ W0).alloc (Nat.le_refl _) (.cells #[.int .i64 0] 3))
            have k5' := k5.below ((Below.refl _ W0).alloc (Nat.le_refl _) (.cells #[.int .i64 0] 3))
            have hlB := k4.lt; have hlS := k5.lt
            have hsz24 : (W0.alloc (.cells #[.int .i64 0] 3)).heap.size = W0.heap.size + 1 := by simp
            have hwe := HBe.out.size
            have hw0 := hB0.size
            have HB24 := Lib.hid hB24; have HX24 := Lib.hid b24; have HK4 := Lib.hid k4'; have HK5 := Lib.hid k5'
            clear k4 k5 k6 hB0 hB24 b24 k4' k5'
            generalize W0.alloc (.cells #[.int .i64 0] 3) = Wr at *
            have hTr := tab_keep HL2.out (HB24.out.block 0 hz2)
            have hbs : ∀ b ∈ [0, B, gs, gp'], b < W0.heap.size := by
              intro b hb
              simp only [List.mem_cons, List.not_mem_nil, or_false] at hb
              omega
            have HBS := Lib.hid hbs
            have hst := each_stops (5 - 1) (by decide) B gs gp' f n M Wr HK4.out HK5.out hTr (by omega) ⟨HWL.out.1, HWL.out.2.1, HWL.out.2.2⟩ HIN.out
            have HTR := Lib.hid hTr
            clear hTr hbs
            refine (wpIn_wide (n := 5)).1 ?_
            refine wpIn_rangeFunc_ownF rfl (by decide) (gf := 61) (lb := #[.pointer (some ⟨B, 0, none⟩)]) rfl trivial (enters_of Tryd.func61 (by kernel_rfl) rfl)
              hst (fun h k => keepsB_trans h k)
              (fun W l o o' hl ho hoc _ b hb => World.putObj_heap_other (by have := HBS.out b hb; omega))
              (Below.refl _ _) (fun _ => rfl)
              (fun (pre : List (Val M)) W => ((Boxed W W0.heap.size 3 (.int .i64 pre.length) ∧ valL pre <+: L) ∧ keepsB [0, B, gs, gp'] Wr W) ∧ Below W2.heap.size W2 W)
              (fun _ pre _ => ¬ (valL pre <+: L))
              (OwnFrom.and (OwnFrom.and (OwnFrom.and (Own.from (boxed_own W0.heap.size 3 (fun pre : List (Val M) => .int .i64 pre.length)) _) (fun _ _ _ _ hs _ _ => hs)) (ownFrom_keepsB _ _ (fun b hb => by have := HBS.out b hb; omega))) (ownFrom_below (Nat.le_refl _) (by omega)))
              (fun _ _ _ _ _ hs _ _ => hs)
              ⟨⟨⟨HX24.out, List.nil_prefix⟩, fun b _ => rfl⟩, HB24.out⟩ ?aX0 ?assignX0 ?bodyX0 ?doneX0 ?stopX0
            case assignX0 =>
              intro l x W K hK
              gi_wp2
              exact hK
            case bodyX0 =>
              rintro l pre x W ⟨⟨⟨hbx, hpre⟩, hk⟩, hB⟩ hlt
              have hVW := HV.out.below hB
              have c7 := (hB.cell HB7.out.lt).trans HB7.out.cell
              have h6 := boxed_below HB62.out hB
              have c6 := h6.cell; have f6 := h6.frozen
              have c24 := hbx.cell; have f24 := hbx.frozen
              have hpl : pre.length ≤ L.length := by have := hpre.length_le; simpa [valL] using this
              have hpe : valL pre = L.take pre.length := by
                have := List.prefix_iff_eq_take.1 hpre
                simpa [valL] using this
              have HBX := Lib.hid hbx; have HPE := Lib.hid hpe; have HKX := Lib.hid hk; have HBB := Lib.hid hB
              clear hbx hpe hk hB hst hpre h6
              by_cases h1 : pre.length < L.length
              · obtain ⟨b8, e8, _, c8⟩ := hVW pre.length h1
                cases e8
                generalize hLp : L[pre.length] = y at *
                have HLP := Lib.hid hLp
                clear hLp
                generalize hpn : pre.length = pn at *
                have HPN := Lib.hid hpn
                clear hpn
                by_cases h2 : y = x.1
                · subst h2
                  gi_wp2_with fail
                  refine ⟨KeepsOthers.setCell W ⟨W0.heap.size, 0, none⟩ _, fun b hb => Below.heap_setCell W ⟨W0.heap.size, 0, none⟩ _ b (by have := HBS.out b hb; show b ≠ W0.heap.size; omega), ⟨⟨?_, ?_⟩, fun b hb => (Below.heap_setCell W ⟨W0.heap.size, 0, none⟩ _ b (by have := HBS.out b hb; show b ≠ W0.heap.size; omega)).trans (HKX.out b hb)⟩, HBB.out.setCell (p := ⟨W0.heap.size, 0, none⟩) hw0 _⟩
                  · have := HBX.out.set (.int .i64 ((pn : Int) + 1))
                    rw [List.length_append, HPN.out]
                    exact this
                  · rw [valL_snoc, HPE.out, ← HLP.out]
                    have e9 : L.take pn ++ [L[pn]] = L.take (pn + 1) := (List.take_succ_eq_append_getElem h1).symm
                    rw [e9]
                    exact List.take_prefix _ _
                · have h3 : (y != x.1) = true := by rw [bne_iff_ne]; exact h2
                  have h4 : (y == x.1) = false := by rw [beq_eq_false_iff_ne]; exact h2
                  gi_wp2_with fail
                  refine ⟨KeepsOthers.setCell W ⟨w.heap.size, 0, none⟩ _, fun hp => ?_⟩
                  rw [valL_snoc] at hp
                  have e9 := List.prefix_iff_eq_take.1 hp
                  rw [List.length_append] at e9
                  have e10 : (valL pre).length = pn := by rw [HPE.out, List.length_take]; omega
                  rw [e10, show pn + [x.1].length = pn + 1 by rfl, List.take_succ_eq_append_getElem h1] at e9
                  have e11 := List.append_inj_right e9 (by rw [e10, List.length_take]; omega)
                  rw [HLP.out] at e11
                  injection e11 with e11
                  exact h2 e11.symm
              · have h3 : decide ((L.length : Int) ≤ (pre.length : Int)) = true := decide_eq_true (by omega)
                have hpeq : pre.length = L.length := by omega
                have HPEQ := Lib.hid hpeq
                gi_wp2_with fail
                refine ⟨KeepsOthers.setCell W ⟨w.heap.size, 0, none⟩ _, fun hp => ?_⟩
                have := hp.length_le
                simp [valL] at this
                omega
            case doneX0 =>
              rintro D xs W hD hS ⟨⟨⟨hbx, hpre⟩, hk⟩, hB⟩ hK
              rw [HVL.out] at hS
              have hxl : xs.length = L.length := by rw [← hS]; simp [valL]
              rw [hxl] at hbx
              have c7 := (hB.cell HB7.out.lt).trans HB7.out.cell
              have h6 := boxed_below HB62.out hB
              have c6 := h6.cell; have f6 := h6.frozen
              have c24 := hbx.cell; have f24 := hbx.frozen
              have HBX := Lib.hid hbx; have HKX := Lib.hid hk; have HBB := Lib.hid hB; have HKD := Lib.hid hK
              clear hbx hk hB hst hpre h6 hS
              gi_wp2_with fail
              go_wp2_with fail
              have hbxB : Boxed W B 23 (setP gs) := (HKX.out B (by simp)).trans HK4.out
              have hsW : SetAt W gs gp' f n M := HK5.out.keep (HKX.out gs (by simp)) (HKX.out gp' (by simp))
              have htW : TabLaid W := tab_keep HTR.out (HKX.out 0 (by simp))
              have hDW := (Array.getElem?_eq_some_iff.1 hK).1
              have hst := each_stops (5 - 1) (by decide) B gs gp' f n M W hbxB hsW htW (by omega) ⟨HWL.out.1, HWL.out.2.1, HWL.out.2.2⟩ HIN.out
              have hw2W := HBB.out.size
              clear hbxB hsW htW
              refine (wpIn_wide (n := 5)).1 ?_
              refine wpIn_rangeFunc_ownF rfl (by decide) (gf := 61) (lb := #[.pointer (some ⟨B, 0, none⟩)]) rfl trivial (enters_of Tryd.func61 (by kernel_rfl) rfl)
                hst (fun h k => keepsB_trans h k)
                (fun W' l o o' hl ho hoc _ b hb => World.putObj_heap_other (by have := HBS.out b hb; omega))
                (Below.refl _ _) (fun _ => rfl)
                (fun (pre : List (Val M)) W' => (Boxed W' W0.heap.size 3 (.int .i64 L.length) ∧ keepsB [D] W W') ∧ Below W2.heap.size W2 W')
                (fun c _ W' => c = .exit 6 ∧ (Boxed W' W0.heap.size 3 (.int .i64 L.length) ∧ keepsB [D] W W') ∧ Below W2.heap.size W2 W')
                (OwnFrom.and (OwnFrom.and (Own.from (boxed_own W0.heap.size 3 (fun pre : List (Val M) => .int .i64 L.length)) _) (ownFrom_keepsB _ _ (fun b hb => by simp at hb; omega))) (ownFrom_below (Nat.le_refl _) hw2W))
                (fun c => OwnFrom.and (fun _ _ _ _ hs _ _ => hs) (OwnFrom.and (OwnFrom.and (Own.from (boxed_own W0.heap.size 3 (fun pre : List (Val M) => .int .i64 L.length)) _) (ownFrom_keepsB _ _ (fun b hb => by simp at hb; omega))) (ownFrom_below (Nat.le_refl _) hw2W)))
                ⟨⟨HBX.out, fun b _ => rfl⟩, HBB.out⟩ ?aY0 ?assignY0 ?bodyY0 ?doneY0 ?stopY0
              case assignY0 =>
                intro l x W' K hK
                gi_wp2
                exact hK
              case bodyY0 =>
                rintro l pre x W' hI hlt
                gi_wp2_with fail
                exact ⟨KeepsOthers.refl _, rfl, hI⟩
              case doneY0 =>
                rintro D2 xs W' hD2 hS2 ⟨⟨hbx, hk⟩, hB⟩ hK2
                have c7 := (hB.cell HB7.out.lt).trans HB7.out.cell
                have h6 := boxed_below HB62.out hB
                have c6 := h6.cell; have f6 := h6.frozen
                have c24 := hbx.cell
                have hK1 := (hk D (by simp)).trans hK
                gi_wp2_with fail
                go_wp2_with fail
                have h6s := h6.set (.bool true)
                have hK1s := (Below.heap_setCell W' ⟨w.heap.size, 0, none⟩ (.bool true) D (by show D ≠ w.heap.size; omega)).trans hK1
                have hK2s := (Below.heap_setCell W' ⟨w.heap.size, 0, none⟩ (.bool true) D2 (by show D2 ≠ w.heap.size; omega)).trans hK2
                have hK1t := (World.putObj_heap_other (o := .deferred none) (show D ≠ D2 by omega)).trans hK1s
                have h6t := ((World.putObj_heap_other (w := (W'.setCell ⟨w.heap.size, 0, none⟩ (.bool true)).putObj D2 (.deferred none)) (o := .deferred none) (show w.heap.size ≠ D by omega)).trans (World.putObj_heap_other (o := .deferred none) (show w.heap.size ≠ D2 by omega))).trans h6s
                have c6t := Boxed.cell (t := 4) h6t
                have hBf := (((below_step HB2.out hB).setCell (p := ⟨w.heap.size, 0, none⟩) (Nat.le_refl _) (.bool true)).trans (belowK_b (w := w) (Nat.le_refl _) _ D2 _ (.deferred none) (by omega) hK2s rfl rfl)).trans (belowK_b (w := w) (Nat.le_refl _) _ D _ (.deferred none) (by omega) hK1t rfl rfl)
                refine ⟨by simp, .inl ⟨_, _, rfl, run_takeDeferred hK2s, ?_⟩⟩
                refine ⟨by simp, .inl ⟨_, _, rfl, run_takeDeferred hK1t, ?_⟩⟩
                refine ⟨_, by simp [results, Tryd.results20, go_sem, c6t]; rfl, ?_⟩
                exact ⟨rfl, hBf⟩
              case stopY0 =>
                rintro D2 cc pre W' hD2 _ ⟨rfl, ⟨hbx, hk⟩, hB⟩ hK2
                have c7 := (hB.cell HB7.out.lt).trans HB7.out.cell
                have h6 := boxed_below HB62.out hB
                have c6 := h6.cell; have f6 := h6.frozen
                have c24 := hbx.cell
                have hK1 := (hk D (by simp)).trans hK
                gi_wp2_with fail
                go_wp2_with fail
                have h6s := h6.set (.bool true)
                have hK1s := (Below.heap_setCell W' ⟨w.heap.size, 0, none⟩ (.bool true) D (by show D ≠ w.heap.size; omega)).trans hK1
                have hK2s := (Below.heap_setCell W' ⟨w.heap.size, 0, none⟩ (.bool true) D2 (by show D2 ≠ w.heap.size; omega)).trans hK2
                have hK1t := (World.putObj_heap_other (o := .deferred none) (show D ≠ D2 by omega)).trans hK1s
                have h6t := ((World.putObj_heap_other (w := (W'.setCell ⟨w.heap.size, 0, none⟩ (.bool true)).putObj D2 (.deferred none)) (o := .deferred none) (show w.heap.size ≠ D by omega)).trans (World.putObj_heap_other (o := .deferred none) (show w.heap.size ≠ D2 by omega))).trans h6s
                have c6t := Boxed.cell (t := 4) h6t
                have hBf := (((below_step HB2.out hB).setCell (p := ⟨w.heap.size, 0, none⟩) (Nat.le_refl _) (.bool true)).trans (belowK_b (w := w) (Nat.le_refl _) _ D2 _ (.deferred none) (by omega) hK2s rfl rfl)).trans (belowK_b (w := w) (Nat.le_refl _) _ D _ (.deferred none) (by omega) hK1t rfl rfl)
                refine ⟨by simp, .inl ⟨_, _, rfl, run_takeDeferred hK2s, ?_⟩⟩
                refine ⟨by simp, .inl ⟨_, _, rfl, run_takeDeferred hK1t, ?_⟩⟩
                refine ⟨_, by simp [results, Tryd.results20, go_sem, c6t]; rfl, ?_⟩
                exact ⟨rfl, hBf⟩
            case stopX0 =>
              rintro D c pre W hD hSp hne hK
              rw [HVL.out] at hSp
              exact absurd hSp hne
        · have hnext : IsNext M v x hd := by
            cases hd with
            | false =>
              obtain ⟨rfl, h⟩ := hF.out rfl
              exact vals_next_none HMEM.out (fun i hi => h i hi hi)
            | true => exact hT.out rfl
          obtain ⟨rfl, rfl⟩ := HXN.out.same hnext
          rcases vals_ends HMEM.out HSRT.out (fun v hv => (HIN.out v hv).1) HXA.out HXB.out with ⟨hnil, rfl, rfl, rfl, rfl⟩ | ⟨h0, rfl, rfl, ha, hb⟩
          · have h0l : L.length = 0 := by rw [hnil]; rfl
            have h0d : decide (0 < (L.length : Int)) = false := decide_eq_false (by omega)
            clear hnil
            go_wp2_with fail
            clear h0l h0d
            rw [← U]
            refine ((HS2.out.below HBe.out).each).mono ?_
            rintro e W0 ⟨B, gs, gp', rfl, ⟨k1, k2, k3⟩, k4, k5, k6⟩
            go_wp2_with fail
            rw [func_eql_nil]
            go_wp2_with fail
            have hB0 := below_step HBe.out k6
            have hB24 : Below W2.heap.size W2 (W0.alloc (.cells #[.int .i64 0] 3)) := hB0.alloc hB0.size _
            have b24 := Boxed.new W0 3 (.int .i64 0)
            have k4' := boxed_below k4 ((Below.refl _ W0).alloc (Nat.le_refl _) (.cells #[.int .i64 0] 3))
            have k5' := k5.below ((Below.refl _ W0).alloc (Nat.le_refl _) (.cells #[.int .i64 0] 3))
            have hlB := k4.lt; have hlS := k5.lt
            have hsz24 : (W0.alloc (.cells #[.int .i64 0] 3)).heap.size = W0.heap.size + 1 := by simp
            have hwe := HBe.out.size
            have hw0 := hB0.size
            have HB24 := Lib.hid hB24; have HX24 := Lib.hid b24; have HK4 := Lib.hid k4'; have HK5 := Lib.hid k5'
            clear k4 k5 k6 hB0 hB24 b24 k4' k5'
            generalize W0.alloc (.cells #[.int .i64 0] 3) = Wr at *
            have hTr := tab_keep HL2.out (HB24.out.block 0 hz2)
            have hbs : ∀ b ∈ [0, B, gs, gp'], b < W0.heap.size := by
              intro b hb
              simp only [List.mem_cons, List.not_mem_nil, or_false] at hb
              omega
            have HBS := Lib.hid hbs
            have hst := each_stops (5 - 1) (by decide) B gs gp' f n M Wr HK4.out HK5.out hTr (by omega) ⟨HWL.out.1, HWL.out.2.1, HWL.out.2.2⟩ HIN.out
            have HTR := Lib.hid hTr
            clear hTr hbs
            refine (wpIn_wide (n := 5)).1 ?_
            refine wpIn_rangeFunc_ownF rfl (by decide) (gf := 61) (lb := #[.pointer (some ⟨B, 0, none⟩)]) rfl trivial (enters_of Tryd.func61 (by kernel_rfl) rfl)
              hst (fun h k => keepsB_trans h k)
              (fun W l o o' hl ho hoc _ b hb => World.putObj_heap_other (by have := HBS.out b hb; omega))
              (Below.refl _ _) (fun _ => rfl)
              (fun (pre : List (Val M)) W => ((Boxed W W0.heap.size 3 (.int .i64 pre.length) ∧ valL pre <+: L) ∧ keepsB [0, B, gs, gp'] Wr W) ∧ Below W2.heap.size W2 W)
              (fun _ pre _ => ¬ (valL pre <+: L))
              (OwnFrom.and (OwnFrom.and (OwnFrom.and (Own.from (boxed_own W0.heap.size 3 (fun pre : List (Val M) => .int .i64 pre.length)) _) (fun _ _ _ _ hs _ _ => hs)) (ownFrom_keepsB _ _ (fun b hb => by have := HBS.out b hb; omega))) (ownFrom_below (Nat.le_refl _) (by omega)))
              (fun _ _ _ _ _ hs _ _ => hs)
              ⟨⟨⟨HX24.out, List.nil_prefix⟩, fun b _ => rfl⟩, HB24.out⟩ ?aX1 ?assignX1 ?bodyX1 ?doneX1 ?stopX1
            case assignX1 =>
              intro l x W K hK
              gi_wp2
              exact hK
            case bodyX1 =>
              rintro l pre x W ⟨⟨⟨hbx, hpre⟩, hk⟩, hB⟩ hlt
              have hVW := HV.out.below hB
              have c7 := (hB.cell HB7.out.lt).trans HB7.out.cell
              have h6 := boxed_below HB62.out hB
              have c6 := h6.cell; have f6 := h6.frozen
              have c24 := hbx.cell; have f24 := hbx.frozen
              have hpl : pre.length ≤ L.length := by have := hpre.length_le; simpa [valL] using this
              have hpe : valL pre = L.take pre.length := by
                have := List.prefix_iff_eq_take.1 hpre
                simpa [valL] using this
              have HBX := Lib.hid hbx; have HPE := Lib.hid hpe; have HKX := Lib.hid hk; have HBB := Lib.hid hB
              clear hbx hpe hk hB hst hpre h6
              by_cases h1 : pre.length < L.length
              · obtain ⟨b8, e8, _, c8⟩ := hVW pre.length h1
                cases e8
                generalize hLp : L[pre.length] = y at *
                have HLP := Lib.hid hLp
                clear hLp
                generalize hpn : pre.length = pn at *
                have HPN := Lib.hid hpn
                clear hpn
                by_cases h2 : y = x.1
                · subst h2
                  gi_wp2_with fail
                  refine ⟨KeepsOthers.setCell W ⟨W0.heap.size, 0, none⟩ _, fun b hb => Below.heap_setCell W ⟨W0.heap.size, 0, none⟩ _ b (by have := HBS.out b hb; show b ≠ W0.heap.size; omega), ⟨⟨?_, ?_⟩, fun b hb => (Below.heap_setCell W ⟨W0.heap.size, 0, none⟩ _ b (by have := HBS.out b hb; show b ≠ W0.heap.size; omega)).trans (HKX.out b hb)⟩, HBB.out.setCell (p := ⟨W0.heap.size, 0, none⟩) hw0 _⟩
                  · have := HBX.out.set (.int .i64 ((pn : Int) + 1))
                    rw [List.length_append, HPN.out]
                    exact this
                  · rw [valL_snoc, HPE.out, ← HLP.out]
                    have e9 : L.take pn ++ [L[pn]] = L.take (pn + 1) := (List.take_succ_eq_append_getElem h1).symm
                    rw [e9]
                    exact List.take_prefix _ _
                · have h3 : (y != x.1) = true := by rw [bne_iff_ne]; exact h2
                  have h4 : (y == x.1) = false := by rw [beq_eq_false_iff_ne]; exact h2
                  gi_wp2_with fail
                  refine ⟨KeepsOthers.setCell W ⟨w.heap.size, 0, none⟩ _, fun hp => ?_⟩
                  rw [valL_snoc] at hp
                  have e9 := List.prefix_iff_eq_take.1 hp
                  rw [List.length_append] at e9
                  have e10 : (valL pre).length = pn := by rw [HPE.out, List.length_take]; omega
                  rw [e10, show pn + [x.1].length = pn + 1 by rfl, List.take_succ_eq_append_getElem h1] at e9
                  have e11 := List.append_inj_right e9 (by rw [e10, List.length_take]; omega)
                  rw [HLP.out] at e11
                  injection e11 with e11
                  exact h2 e11.symm
              · have h3 : decide ((L.length : Int) ≤ (pre.length : Int)) = true := decide_eq_true (by omega)
                have hpeq : pre.length = L.length := by omega
                have HPEQ := Lib.hid hpeq
                gi_wp2_with fail
                refine ⟨KeepsOthers.setCell W ⟨w.heap.size, 0, none⟩ _, fun hp => ?_⟩
                have := hp.length_le
                simp [valL] at this
                omega
            case doneX1 =>
              rintro D xs W hD hS ⟨⟨⟨hbx, hpre⟩, hk⟩, hB⟩ hK
              rw [HVL.out] at hS
              have hxl : xs.length = L.length := by rw [← hS]; simp [valL]
              rw [hxl] at hbx
              have c7 := (hB.cell HB7.out.lt).trans HB7.out.cell
              have h6 := boxed_below HB62.out hB
              have c6 := h6.cell; have f6 := h6.frozen
              have c24 := hbx.cell; have f24 := hbx.frozen
              have HBX := Lib.hid hbx; have HKX := Lib.hid hk; have HBB := Lib.hid hB; have HKD := Lib.hid hK
              clear hbx hk hB hst hpre h6 hS
              gi_wp2_with fail
              go_wp2_with fail
              have hbxB : Boxed W B 23 (setP gs) := (HKX.out B (by simp)).trans HK4.out
              have hsW : SetAt W gs gp' f n M := HK5.out.keep (HKX.out gs (by simp)) (HKX.out gp' (by simp))
              have htW : TabLaid W := tab_keep HTR.out (HKX.out 0 (by simp))
              have hDW := (Array.getElem?_eq_some_iff.1 hK).1
              have hst := each_stops (5 - 1) (by decide) B gs gp' f n M W hbxB hsW htW (by omega) ⟨HWL.out.1, HWL.out.2.1, HWL.out.2.2⟩ HIN.out
              have hw2W := HBB.out.size
              clear hbxB hsW htW
              refine (wpIn_wide (n := 5)).1 ?_
              refine wpIn_rangeFunc_ownF rfl (by decide) (gf := 61) (lb := #[.pointer (some ⟨B, 0, none⟩)]) rfl trivial (enters_of Tryd.func61 (by kernel_rfl) rfl)
                hst (fun h k => keepsB_trans h k)
                (fun W' l o o' hl ho hoc _ b hb => World.putObj_heap_other (by have := HBS.out b hb; omega))
                (Below.refl _ _) (fun _ => rfl)
                (fun (pre : List (Val M)) W' => (Boxed W' W0.heap.size 3 (.int .i64 L.length) ∧ keepsB [D] W W') ∧ Below W2.heap.size W2 W')
                (fun c _ W' => c = .exit 6 ∧ (Boxed W' W0.heap.size 3 (.int .i64 L.length) ∧ keepsB [D] W W') ∧ Below W2.heap.size W2 W')
                (OwnFrom.and (OwnFrom.and (Own.from (boxed_own W0.heap.size 3 (fun pre : List (Val M) => .int .i64 L.length)) _) (ownFrom_keepsB _ _ (fun b hb => by simp at hb; omega))) (ownFrom_below (Nat.le_refl _) hw2W))
                (fun c => OwnFrom.and (fun _ _ _ _ hs _ _ => hs) (OwnFrom.and (OwnFrom.and (Own.from (boxed_own W0.heap.size 3 (fun pre : List (Val M) => .int .i64 L.length)) _) (ownFrom_keepsB _ _ (fun b hb => by simp at hb; omega))) (ownFrom_below (Nat.le_refl _) hw2W)))
                ⟨⟨HBX.out, fun b _ => rfl⟩, HBB.out⟩ ?aY1 ?assignY1 ?bodyY1 ?doneY1 ?stopY1
              case assignY1 =>
                intro l x W' K hK
                gi_wp2
                exact hK
              case bodyY1 =>
                rintro l pre x W' hI hlt
                gi_wp2_with fail
                exact ⟨KeepsOthers.refl _, rfl, hI⟩
              case doneY1 =>
                rintro D2 xs W' hD2 hS2 ⟨⟨hbx, hk⟩, hB⟩ hK2
                have c7 := (hB.cell HB7.out.lt).trans HB7.out.cell
                have h6 := boxed_below HB62.out hB
                have c6 := h6.cell; have f6 := h6.frozen
                have c24 := hbx.cell
                have hK1 := (hk D (by simp)).trans hK
                gi_wp2_with fail
                go_wp2_with fail
                have h6s := h6.set (.bool true)
                have hK1s := (Below.heap_setCell W' ⟨w.heap.size, 0, none⟩ (.bool true) D (by show D ≠ w.heap.size; omega)).trans hK1
                have hK2s := (Below.heap_setCell W' ⟨w.heap.size, 0, none⟩ (.bool true) D2 (by show D2 ≠ w.heap.size; omega)).trans hK2
                have hK1t := (World.putObj_heap_other (o := .deferred none) (show D ≠ D2 by omega)).trans hK1s
                have h6t := ((World.putObj_heap_other (w := (W'.setCell ⟨w.heap.size, 0, none⟩ (.bool true)).putObj D2 (.deferred none)) (o := .deferred none) (show w.heap.size ≠ D by omega)).trans (World.putObj_heap_other (o := .deferred none) (show w.heap.size ≠ D2 by omega))).trans h6s
                have c6t := Boxed.cell (t := 4) h6t
                have hBf := (((below_step HB2.out hB).setCell (p := ⟨w.heap.size, 0, none⟩) (Nat.le_refl _) (.bool true)).trans (belowK_b (w := w) (Nat.le_refl _) _ D2 _ (.deferred none) (by omega) hK2s rfl rfl)).trans (belowK_b (w := w) (Nat.le_refl _) _ D _ (.deferred none) (by omega) hK1t rfl rfl)
                refine ⟨by simp, .inl ⟨_, _, rfl, run_takeDeferred hK2s, ?_⟩⟩
                refine ⟨by simp, .inl ⟨_, _, rfl, run_takeDeferred hK1t, ?_⟩⟩
                refine ⟨_, by simp [results, Tryd.results20, go_sem, c6t]; rfl, ?_⟩
                exact ⟨rfl, hBf⟩
              case stopY1 =>
                rintro D2 cc pre W' hD2 _ ⟨rfl, ⟨hbx, hk⟩, hB⟩ hK2
                have c7 := (hB.cell HB7.out.lt).trans HB7.out.cell
                have h6 := boxed_below HB62.out hB
                have c6 := h6.cell; have f6 := h6.frozen
                have c24 := hbx.cell
                have hK1 := (hk D (by simp)).trans hK
                gi_wp2_with fail
                go_wp2_with fail
                have h6s := h6.set (.bool true)
                have hK1s := (Below.heap_setCell W' ⟨w.heap.size, 0, none⟩ (.bool true) D (by show D ≠ w.heap.size; omega)).trans hK1
                have hK2s := (Below.heap_setCell W' ⟨w.heap.size, 0, none⟩ (.bool true) D2 (by show D2 ≠ w.heap.size; omega)).trans hK2
                have hK1t := (World.putObj_heap_other (o := .deferred none) (show D ≠ D2 by omega)).trans hK1s
                have h6t := ((World.putObj_heap_other (w := (W'.setCell ⟨w.heap.size, 0, none⟩ (.bool true)).putObj D2 (.deferred none)) (o := .deferred none) (show w.heap.size ≠ D by omega)).trans (World.putObj_heap_other (o := .deferred none) (show w.heap.size ≠ D2 by omega))).trans h6s
                have c6t := Boxed.cell (t := 4) h6t
                have hBf := (((below_step HB2.out hB).setCell (p := ⟨w.heap.size, 0, none⟩) (Nat.le_refl _) (.bool true)).trans (belowK_b (w := w) (Nat.le_refl _) _ D2 _ (.deferred none) (by omega) hK2s rfl rfl)).trans (belowK_b (w := w) (Nat.le_refl _) _ D _ (.deferred none) (by omega) hK1t rfl rfl)
                refine ⟨by simp, .inl ⟨_, _, rfl, run_takeDeferred hK2s, ?_⟩⟩
                refine ⟨by simp, .inl ⟨_, _, rfl, run_takeDeferred hK1t, ?_⟩⟩
                refine ⟨_, by simp [results, Tryd.results20, go_sem, c6t]; rfl, ?_⟩
                exact ⟨rfl, hBf⟩
            case stopX1 =>
              rintro D c pre W hD hSp hne hK
              rw [HVL.out] at hSp
              exact absurd hSp hne
          · obtain ⟨b7, rfl, hb7, c4⟩ := HVe.out 0 h0
            obtain ⟨b7', e7, _, c5⟩ := HVe.out (L.length - 1) (by omega)
            cases e7
            rw [ha] at c4
            rw [hb] at c5
            have ew : wrap64 ((L.length : Int) - 1) = ((L.length - 1 : Nat) : Int) := by rw [show (L.length : Int) - 1 = ((L.length - 1 : Nat) : Int) by omega]; exact IntWalk.wrap64_in _ (by omega)
            have h0d : decide (0 < (L.length : Int)) = true := decide_eq_true (by omega)
            go_wp2_with fail
            rw [← U]
            refine ((HS2.out.below HBe.out).each).mono ?_
            rintro e W0 ⟨B, gs, gp', rfl, ⟨k1, k2, k3⟩, k4, k5, k6⟩
            go_wp2_with fail
            rw [func_eql_nil]
            go_wp2_with fail
            have hB0 := below_step HBe.out k6
            have hB24 : Below W2.heap.size W2 (W0.alloc (.cells #[.int .i64 0] 3)) := hB0.alloc hB0.size _
            have b24 := Boxed.new W0 3 (.int .i64 0)
            have k4' := boxed_below k4 ((Below.refl _ W0).alloc (Nat.le_refl _) (.cells #[.int .i64 0] 3))
            have k5' := k5.below ((Below.refl _ W0).alloc (Nat.le_refl _) (.cells #[.int .i64 0] 3))
            have hlB := k4.lt; have hlS := k5.lt
            have hsz24 : (W0.alloc (.cells #[.int .i64 0] 3)).heap.size = W0.heap.size + 1 := by simp
            have hwe := HBe.out.size
            have hw0 := hB0.size
            have HB24 := Lib.hid hB24; have HX24 := Lib.hid b24; have HK4 := Lib.hid k4'; have HK5 := Lib.hid k5'
            clear k4 k5 k6 hB0 hB24 b24 k4' k5'
            generalize W0.alloc (.cells #[.int .i64 0] 3) = Wr at *
            have hTr := tab_keep HL2.out (HB24.out.block 0 hz2)
            have hbs : ∀ b ∈ [0, B, gs, gp'], b < W0.heap.size := by
              intro b hb
              simp only [List.mem_cons, List.not_mem_nil, or_false] at hb
              omega
            have HBS := Lib.hid hbs
            have hst := each_stops (5 - 1) (by decide) B gs gp' f n M Wr HK4.out HK5.out hTr (by omega) ⟨HWL.out.1, HWL.out.2.1, HWL.out.2.2⟩ HIN.out
            have HTR := Lib.hid hTr
            clear hTr hbs
            refine (wpIn_wide (n := 5)).1 ?_
            refine wpIn_rangeFunc_ownF rfl (by decide) (gf := 61) (lb := #[.pointer (some ⟨B, 0, none⟩)]) rfl trivial (enters_of Tryd.func61 (by kernel_rfl) rfl)
              hst (fun h k => keepsB_trans h k)
              (fun W l o o' hl ho hoc _ b hb => World.putObj_heap_other (by have := HBS.out b hb; omega))
              (Below.refl _ _) (fun _ => rfl)
              (fun (pre : List (Val M)) W => ((Boxed W W0.heap.size 3 (.int .i64 pre.length) ∧ valL pre <+: L) ∧ keepsB [0, B, gs, gp'] Wr W) ∧ Below W2.heap.size W2 W)
              (fun _ pre _ => ¬ (valL pre <+: L))
              (OwnFrom.and (OwnFrom.and (OwnFrom.and (Own.from (boxed_own W0.heap.size 3 (fun pre : List (Val M) => .int .i64 pre.length)) _) (fun _ _ _ _ hs _ _ => hs)) (ownFrom_keepsB _ _ (fun b hb => by have := HBS.out b hb; omega))) (ownFrom_below (Nat.le_refl _) (by omega)))
              (fun _ _ _ _ _ hs _ _ => hs)
              ⟨⟨⟨HX24.out, List.nil_prefix⟩, fun b _ => rfl⟩, HB24.out⟩ ?aX2 ?assignX2 ?bodyX2 ?doneX2 ?stopX2
            case assignX2 =>
              intro l x W K hK
              gi_wp2
              exact hK
            case bodyX2 =>
              rintro l pre x W ⟨⟨⟨hbx, hpre⟩, hk⟩, hB⟩ hlt
              have hVW := HV.out.below hB
              have c7 := (hB.cell HB7.out.lt).trans HB7.out.cell
              have h6 := boxed_below HB62.out hB
              have c6 := h6.cell; have f6 := h6.frozen
              have c24 := hbx.cell; have f24 := hbx.frozen
              have hpl : pre.length ≤ L.length := by have := hpre.length_le; simpa [valL] using this
              have hpe : valL pre = L.take pre.length := by
                have := List.prefix_iff_eq_take.1 hpre
                simpa [valL] using this
              have HBX := Lib.hid hbx; have HPE := Lib.hid hpe; have HKX := Lib.hid hk; have HBB := Lib.hid hB
              clear hbx hpe hk hB hst hpre h6
              by_cases h1 : pre.length < L.length
              · obtain ⟨b8, e8, _, c8⟩ := hVW pre.length h1
                cases e8
                generalize hLp : L[pre.length] = y at *
                have HLP := Lib.hid hLp
                clear hLp
                generalize hpn : pre.length = pn at *
                have HPN := Lib.hid hpn
                clear hpn
                by_cases h2 : y = x.1
                · subst h2
                  gi_wp2_with fail
                  refine ⟨KeepsOthers.setCell W ⟨W0.heap.size, 0, none⟩ _, fun b hb => Below.heap_setCell W ⟨W0.heap.size, 0, none⟩ _ b (by have := HBS.out b hb; show b ≠ W0.heap.size; omega), ⟨⟨?_, ?_⟩, fun b hb => (Below.heap_setCell W ⟨W0.heap.size, 0, none⟩ _ b (by have := HBS.out b hb; show b ≠ W0.heap.size; omega)).trans (HKX.out b hb)⟩, HBB.out.setCell (p := ⟨W0.heap.size, 0, none⟩) hw0 _⟩
                  · have := HBX.out.set (.int .i64 ((pn : Int) + 1))
                    rw [List.length_append, HPN.out]
                    exact this
                  · rw [valL_snoc, HPE.out, ← HLP.out]
                    have e9 : L.take pn ++ [L[pn]] = L.take (pn + 1) := (List.take_succ_eq_append_getElem h1).symm
                    rw [e9]
                    exact List.take_prefix _ _
                · have h3 : (y != x.1) = true := by rw [bne_iff_ne]; exact h2
                  have h4 : (y == x.1) = false := by rw [beq_eq_false_iff_ne]; exact h2
                  gi_wp2_with fail
                  refine ⟨KeepsOthers.setCell W ⟨w.heap.size, 0, none⟩ _, fun hp => ?_⟩
                  rw [valL_snoc] at hp
                  have e9 := List.prefix_iff_eq_take.1 hp
                  rw [List.length_append] at e9
                  have e10 : (valL pre).length = pn := by rw [HPE.out, List.length_take]; omega
                  rw [e10, show pn + [x.1].length = pn + 1 by rfl, List.take_succ_eq_append_getElem h1] at e9
                  have e11 := List.append_inj_right e9 (by rw [e10, List.length_take]; omega)
                  rw [HLP.out] at e11
                  injection e11 with e11
                  exact h2 e11.symm
              · have h3 : decide ((L.length : Int) ≤ (pre.length : Int)) = true := decide_eq_true (by omega)
                have hpeq : pre.length = L.length := by omega
                have HPEQ := Lib.hid hpeq
                gi_wp2_with fail
                refine ⟨KeepsOthers.setCell W ⟨w.heap.size, 0, none⟩ _, fun hp => ?_⟩
                have := hp.length_le
                simp [valL] at this
                omega
            case doneX2 =>
              rintro D xs W hD hS ⟨⟨⟨hbx, hpre⟩, hk⟩, hB⟩ hK
              rw [HVL.out] at hS
              have hxl : xs.length = L.length := by rw [← hS]; simp [valL]
              rw [hxl] at hbx
              have c7 := (hB.cell HB7.out.lt).trans HB7.out.cell
              have h6 := boxed_below HB62.out hB
              have c6 := h6.cell; have f6 := h6.frozen
              have c24 := hbx.cell; have f24 := hbx.frozen
              have HBX := Lib.hid hbx; have HKX := Lib.hid hk; have HBB := Lib.hid hB; have HKD := Lib.hid hK
              clear hbx hk hB hst hpre h6 hS
              gi_wp2_with fail
              go_wp2_with fail
              have hbxB : Boxed W B 23 (setP gs) := (HKX.out B (by simp)).trans HK4.out
              have hsW : SetAt W gs gp' f n M := HK5.out.keep (HKX.out gs (by simp)) (HKX.out gp' (by simp))
              have htW : TabLaid W := tab_keep HTR.out (HKX.out 0 (by simp))
              have hDW := (Array.getElem?_eq_some_iff.1 hK).1
              have hst := each_stops (5 - 1) (by decide) B gs gp' f n M W hbxB hsW htW (by omega) ⟨HWL.out.1, HWL.out.2.1, HWL.out.2.2⟩ HIN.out
              have hw2W := HBB.out.size
              clear hbxB hsW htW
              refine (wpIn_wide (n := 5)).1 ?_
              refine wpIn_rangeFunc_ownF rfl (by decide) (gf := 61) (lb := #[.pointer (some ⟨B, 0, none⟩)]) rfl trivial (enters_of Tryd.func61 (by kernel_rfl) rfl)
                hst (fun h k => keepsB_trans h k)
                (fun W' l o o' hl ho hoc _ b hb => World.putObj_heap_other (by have := HBS.out b hb; omega))
                (Below.refl _ _) (fun _ => rfl)
                (fun (pre : List (Val M)) W' => (Boxed W' W0.heap.size 3 (.int .i64 L.length) ∧ keepsB [D] W W') ∧ Below W2.heap.size W2 W')
                (fun c _ W' => c = .exit 6 ∧ (Boxed W' W0.heap.size 3 (.int .i64 L.length) ∧ keepsB [D] W W') ∧ Below W2.heap.size W2 W')
                (OwnFrom.and (OwnFrom.and (Own.from (boxed_own W0.heap.size 3 (fun pre : List (Val M) => .int .i64 L.length)) _) (ownFrom_keepsB _ _ (fun b hb => by simp at hb; omega))) (ownFrom_below (Nat.le_refl _) hw2W))
                (fun c => OwnFrom.and (fun _ _ _ _ hs _ _ => hs) (OwnFrom.and (OwnFrom.and (Own.from (boxed_own W0.heap.size 3 (fun pre : List (Val M) => .int .i64 L.length)) _) (ownFrom_keepsB _ _ (fun b hb => by simp at hb; omega))) (ownFrom_below (Nat.le_refl _) hw2W)))
                ⟨⟨HBX.out, fun b _ => rfl⟩, HBB.out⟩ ?aY2 ?assignY2 ?bodyY2 ?doneY2 ?stopY2
              case assignY2 =>
                intro l x W' K hK
                gi_wp2
                exact hK
              case bodyY2 =>
                rintro l pre x W' hI hlt
                gi_wp2_with fail
                exact ⟨KeepsOthers.refl _, rfl, hI⟩
              case doneY2 =>
                rintro D2 xs W' hD2 hS2 ⟨⟨hbx, hk⟩, hB⟩ hK2
                have c7 := (hB.cell HB7.out.lt).trans HB7.out.cell
                have h6 := boxed_below HB62.out hB
                have c6 := h6.cell; have f6 := h6.frozen
                have c24 := hbx.cell
                have hK1 := (hk D (by simp)).trans hK
                gi_wp2_with fail
                go_wp2_with fail
                have h6s := h6.set (.bool true)
                have hK1s := (Below.heap_setCell W' ⟨w.heap.size, 0, none⟩ (.bool true) D (by show D ≠ w.heap.size; omega)).trans hK1
                have hK2s := (Below.heap_setCell W' ⟨w.heap.size, 0, none⟩ (.bool true) D2 (by show D2 ≠ w.heap.size; omega)).trans hK2
                have hK1t := (World.putObj_heap_other (o := .deferred none) (show D ≠ D2 by omega)).trans hK1s
                have h6t := ((World.putObj_heap_other (w := (W'.setCell ⟨w.heap.size, 0, none⟩ (.bool true)).putObj D2 (.deferred none)) (o := .deferred none) (show w.heap.size ≠ D by omega)).trans (World.putObj_heap_other (o := .deferred none) (show w.heap.size ≠ D2 by omega))).trans h6s
                have c6t := Boxed.cell (t := 4) h6t
                have hBf := (((below_step HB2.out hB).setCell (p := ⟨w.heap.size, 0, none⟩) (Nat.le_refl _) (.bool true)).trans (belowK_b (w := w) (Nat.le_refl _) _ D2 _ (.deferred none) (by omega) hK2s rfl rfl)).trans (belowK_b (w := w) (Nat.le_refl _) _ D _ (.deferred none) (by omega) hK1t rfl rfl)
                refine ⟨by simp, .inl ⟨_, _, rfl, run_takeDeferred hK2s, ?_⟩⟩
                refine ⟨by simp, .inl ⟨_, _, rfl, run_takeDeferred hK1t, ?_⟩⟩
                refine ⟨_, by simp [results, Tryd.results20, go_sem, c6t]; rfl, ?_⟩
                exact ⟨rfl, hBf⟩
              case stopY2 =>
                rintro D2 cc pre W' hD2 _ ⟨rfl, ⟨hbx, hk⟩, hB⟩ hK2
                have c7 := (hB.cell HB7.out.lt).trans HB7.out.cell
                have h6 := boxed_below HB62.out hB
                have c6 := h6.cell; have f6 := h6.frozen
                have c24 := hbx.cell
                have hK1 := (hk D (by simp)).trans hK
                gi_wp2_with fail
                go_wp2_with fail
                have h6s := h6.set (.bool true)
                have hK1s := (Below.heap_setCell W' ⟨w.heap.size, 0, none⟩ (.bool true) D (by show D ≠ w.heap.size; omega)).trans hK1
                have hK2s := (Below.heap_setCell W' ⟨w.heap.size, 0, none⟩ (.bool true) D2 (by show D2 ≠ w.heap.size; omega)).trans hK2
                have hK1t := (World.putObj_heap_other (o := .deferred none) (show D ≠ D2 by omega)).trans hK1s
                have h6t := ((World.putObj_heap_other (w := (W'.setCell ⟨w.heap.size, 0, none⟩ (.bool true)).putObj D2 (.deferred none)) (o := .deferred none) (show w.heap.size ≠ D by omega)).trans (World.putObj_heap_other (o := .deferred none) (show w.heap.size ≠ D2 by omega))).trans h6s
                have c6t := Boxed.cell (t := 4) h6t
                have hBf := (((below_step HB2.out hB).setCell (p := ⟨w.heap.size, 0, none⟩) (Nat.le_refl _) (.bool true)).trans (belowK_b (w := w) (Nat.le_refl _) _ D2 _ (.deferred none) (by omega) hK2s rfl rfl)).trans (belowK_b (w := w) (Nat.le_refl _) _ D _ (.deferred none) (by omega) hK1t rfl rfl)
                refine ⟨by simp, .inl ⟨_, _, rfl, run_takeDeferred hK2s, ?_⟩⟩
                refine ⟨by simp, .inl ⟨_, _, rfl, run_takeDeferred hK1t, ?_⟩⟩
                refine ⟨_, by simp [results, Tryd.results20, go_sem, c6t]; rfl, ?_⟩
                exact ⟨rfl, hBf⟩
            case stopX2 =>
              rintro D c pre W hD hSp hne hK
              rw [HVL.out] at hSp
              exact absurd hSp hne

end Go.Proofs.YtfkbkcdiajjljaaDoor.PBitsSteps
