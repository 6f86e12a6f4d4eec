/- Parts of the laws of lex: functions of the program, each with the proof of what it answers; the conditions are those of each theorem. -/
import Derived.Test.YtgpdahgpopmjiaaDoorLl
import Derived.Deep.RegionWith
namespace Go.Proofs.YtgpdahgpopmjiaaDoor.PL
open Go.RowKit Go.Proofs.YtgpdahgpopmjiaaDoorW.PrintWords Go.Proofs.YtgpdahgpopmjiaaDoorW.PrintLast Go.Proofs.YtgpdahgpopmjiaaDoorW.PrintMore
set_option linter.unusedVariables false
set_option linter.unusedSimpArgs false
/-! ### LexPlaces -/
theorem same_refl_l (x : List S28) : ∀ (d : Nat) (i : Nat), x.length - i = d → i ≤ x.length → x.length ≤ 70000 → jigsawref15_Same.l0 (d + 1) x x (i : Nat) = some true
  | 0, i, h, hi, hl => by
    simp only [jigsawref15_Same.l0]
    rw [if_neg (by omega)]
  | d + 1, i, h, hi, hl => by
    have hw : wrap64 ((i : Int) + 1) = ((i + 1 : Nat) : Int) := by rw [IntWalk.wrap64_in _ (by omega)]; omega
    simp only [jigsawref15_Same.l0]
    rw [if_pos (by omega), if_pos (by omega), if_pos (by omega), if_neg (by simp), hw]
    exact same_refl_l x d (i + 1) (by omega) (by omega) hl
theorem same_refl (x : List S28) (hl : x.length ≤ 70000) : jigsawref15_Same.f (x.length + 1) x x = some true := by
  unfold jigsawref15_Same.f
  rw [if_pos rfl]
  exact same_refl_l x x.length 0 rfl (Nat.zero_le _) hl
theorem count_in (a : Int) (m : Nat) (h0 : 0 < m) (hm : m ≤ 70000) (ha : -9223372036854775808 ≤ a ∧ a ≤ 9223372036854775807) : ∃ k : Nat, k < m ∧ jigsawref01_Count.f a m = some (k : Int) := by
  have hne : (m : Int) ≠ 0 := by omega
  have h1 := Int.tmod_lt_of_pos a (b := (m : Int)) (by omega)
  have h2 : -(m : Int) < Int.tmod a m := by
    have := Int.tmod_lt_of_pos (-a) (b := (m : Int)) (by omega)
    rw [Int.neg_tmod] at this
    omega
  unfold jigsawref01_Count.f
  rw [if_neg hne]
  by_cases h : Int.tmod a m < 0
  · rw [if_pos h, IntWalk.wrap64_in _ (by omega)]
    exact ⟨(Int.tmod a m + m).toNat, by omega, by rw [Int.toNat_of_nonneg (by omega)]⟩
  · rw [if_neg h]
    exact ⟨(Int.tmod a m).toNat, by omega, by rw [Int.toNat_of_nonneg (by omega)]⟩
def txt (t : Tok) : ByteArray := ⟨t.text.toArray⟩
theorem txt_size (t : Tok) : (txt t).size = t.text.length := rfl
theorem tok_at {W : World} {A : Option Addr} {n : Nat} {T : List Tok} (h : Kd.C k28 W A n (T.map tokS)) (k : Nat) (hk : k < T.length) : ∃ ad, A = some ad ∧ W.cell? (ad.add (k * 4)) = some (.int .i64 T[k].kind) ∧ W.cell? ⟨(ad.add (k * 4)).block, (ad.add (k * 4)).off + 1, none⟩ = some (.string (txt T[k])) ∧ W.cell? ⟨(ad.add (k * 4)).block, (ad.add (k * 4)).off + 2, none⟩ = some (.int .i64 T[k].n) ∧ W.cell? ⟨(ad.add (k * 4)).block, (ad.add (k * 4)).off + 3, none⟩ = some (.int .i64 (T[k].pos : Nat)) := by
  have hn : n = T.length := by have := h.1; rw [List.length_map] at this; omega
  have g : rd_T28 (T.map tokS) (k : Nat) = tokS T[k] := by
    unfold rd_T28
    rw [Int.toNat_natCast, List.getD_eq_getElem?_getD, List.getElem?_map, List.getElem?_eq_getElem hk]
    rfl
  have q := at_T28 h (k : Nat) (by omega) (by omega)
  rw [g, Int.toNat_natCast] at q
  exact q

theorem slice_to (s : ByteArray) (i d : Nat) (h : i + d ≤ s.size) (W : World) : (Instr.slice 9 (.string s) none (some (.int .i64 ((i : Int) + (d : Nat)))) none).run Tryd.prog W = .ok (.string (s.extract 0 (i + d))) W := by
  have h1 : (0 : Int) ≤ (i : Int) + (d : Nat) := by omega
  have h2 : (i : Int) + (d : Nat) ≤ (s.size : Nat) := by omega
  have h3 : ((i : Int) + (d : Nat)).toNat = i + d := by omega
  simp [go_sem, h1, h2, h3]
theorem slice_pre (A : Option Addr) (n c : Nat) (j : Nat) (h : j + 1 ≤ c) (W : World) : (Instr.slice 22 (.slice A n c) none (some (.int .i64 ((j : Int) + 1))) none).run Tryd.prog W = .ok (.slice A (j + 1) c) W := by
  have h1 : (0 : Int) ≤ (j : Int) + 1 := by omega
  have h2 : (j : Int) + 1 ≤ (c : Nat) := by omega
  have h3 : ((j : Int) + 1).toNat = j + 1 := by omega
  have := run_slice_h (P := Tryd.prog) (t := 22) (a := A) (len := n) (cap := c) (w := W) Tryd.underlying22 .i64 ((j : Int) + 1) h1 h2
  rw [this]
  simp [go_sem, h3]
theorem same_pre {W : World} {A A3 : Option Addr} {n n3 : Nat} {T T2 : List Tok} (h : Kd.C k28 W A n (T.map tokS)) (h3 : Kd.C k28 W A3 n3 (T2.map tokS)) (m : Nat) (h1 : m ≤ T.length) (h2 : m ≤ T2.length) (he : T2.take m = T.take m) (hm : m ≤ 70000) (c c3 : Nat) (hc : m ≤ c) (hc3 : m ≤ c3) :
    Calls Tryd.prog 10 #[.slice A3 m c3, .slice A m c] W fun e w' => e = .returned (.bool true) ∧ Drawn0 W w' := by
  have hn : n = (T.map tokS).length := h.1.symm
  have hn3 : n3 = (T2.map tokS).length := h3.1.symm
  subst hn
  subst hn3
  have q := Kd.C_take (m := m) h (by rw [List.length_map]; exact h1)
  have q3 := Kd.C_take (m := m) h3 (by rw [List.length_map]; exact h2)
  have hl : ((T.map tokS).take m).length = m := by rw [List.length_take, List.length_map]; omega
  have e3 : (T2.map tokS).take m = (T.map tokS).take m := by rw [← List.map_take, ← List.map_take, he]
  rw [e3] at q3
  have := jigsawref15_Same.calls _ A3 c3 _ A c _ true W q3 (by omega) q (by omega) (same_refl ((T.map tokS).take m) (by omega))
  rw [hl] at this
  exact this
theorem index_at (ad : Addr) (m c : Nat) (i : Int) (h : 0 ≤ i ∧ i < m) (W : World) : (Instr.indexAt 22 (.slice (some ad) m c) (.int .i64 i)).run Tryd.prog W = .ok (.pointer (some (ad.add (i.toNat * 4)))) W := by
  obtain ⟨h1, h2⟩ := h
  rw [run_indexAt_slice (k := .i64) (h := by kernel_rfl)]
  simp [go_sem, h1, h2]
theorem text_at {s : ByteArray} {t : Tok} (h : ((ll s).drop t.pos).take t.text.length = t.text) : s.extract t.pos (t.pos + (txt t).size) = txt t := by
  rw [txt_size, cut_is, h]
  rfl
set_option maxRecDepth 100000 in
set_option maxHeartbeats 32000000 in
theorem places_calls (s : ByteArray) (hs : s.size ≤ 140737488351232) (wh : Int) (hwh : -9223372036854775808 ≤ wh ∧ wh ≤ 9223372036854775807) (w : World) (hl : LxLaid w) : Calls Tryd.prog 3 #[.string s, .int .i64 wh] w fun e w' => e = .returned (.bool true) ∧ Below w.heap.size w w' := by
  have HSC := Lib.hid (scan_calls s hs w hl)
  have HL := Lib.hid hl
  clear hl
  refine calls_of_wp Tryd.func3 rfl ?_
  simp only [Tryd.ntmps3, List.size_toArray, List.length_cons, List.length_nil, Nat.reduceAdd, Nat.reduceSub, Array.replicate_succ, Array.replicate_zero, List.push_toArray, List.append_toArray, List.nil_append, List.cons_append]
  go_wp2_with fail
  refine HSC.out.mono ?_
  rintro e w1 ⟨A, m, c, hcap, rfl, hC, hb1⟩
  have HB1 := Lib.hid hb1
  clear hb1
  generalize hr : allL (ll s) = r at *
  unfold scanL at hC ⊢
  rw [hr] at hC ⊢
  obtain ⟨T, why, i⟩ := r
  by_cases h0 : why = 0
  · subst h0
    obtain ⟨rfl, hp1, hp2, hp3, hp4⟩ := allL_places hr
    have hm0 : T.length = m := by have := hC.1; rw [if_pos rfl, List.length_map] at this; omega
    have hlen := allL_len (ll s)
    rw [hr] at hlen
    rw [if_pos rfl] at hC
    have HC := Lib.hid hC; have HP2 := Lib.hid hp2; have HP3 := Lib.hid hp3; have HP4 := Lib.hid hp4; have HM := Lib.hid hm0
    clear hC hp2 hp3 hp4 hm0 HSC hr
    have hm1 : 0 < m := by rw [← HM.out]; exact hp1
    have hm2 : m ≤ 65538 := by rw [← HM.out]; exact hlen
    clear hp1 hlen
    go_wp2_with fail
    go_loopw [8] (fun v wr => ∃ k : Nat, v = .int .i64 k ∧ k ≤ m ∧ Hid (Below w.heap.size w wr) ∧ Hid (Kd.C k28 wr A m (T.map tokS)))
      (fun v _ => m - (intOf v).toNat)
    case atStart => exact ⟨0, rfl, Nat.zero_le _, HB1, HC⟩
    case round =>
      obtain ⟨k, rfl, hk, HB, HCr⟩ := hrel
      clear HC HB1
      by_cases hkm : k < m
      · have hkT : k < T.length := by rw [HM.out]; exact hkm
        obtain ⟨ad, hA, x0, x1, x2, x3⟩ := tok_at HCr.out k hkT
        have h1 := (HP2.out _ (List.getElem_mem hkT)).1
        have h2 := text_at (HP2.out _ (List.getElem_mem hkT)).2
        rw [ll_len, ← txt_size] at h1
        have hpr : ∀ j (hj : j < T.length), j < k → T[j].pos + (txt T[j]).size ≤ T[k].pos := fun j hj h => List.pairwise_iff_getElem.1 HP3.out j k hj hkT h
        have HPR := Lib.hid hpr
        subst hA
        generalize hx : txt T[k] = x at *
        generalize hpp : T[k].pos = p at *
        generalize T[k].kind = kd at *
        generalize T[k].n = v at *
        clear hpr hx hpp
        have hlt0 : decide ((p : Int) < 0) = false := decide_eq_false (by omega)
        have hps : p + x.size ≤ s.size := h1
        have hwr : IntKind.i64.wrap ((p : Int) + (x.size : Nat)) = (p : Int) + (x.size : Nat) := IntWalk.i64_in _ (by omega)
        have hsl := fun W => slice_at s p x.size hps W
        simp only [h2] at hsl
        have hgt2 : decide ((s.size : Int) < (p : Int) + (x.size : Nat)) = false := decide_eq_false (by omega)
        have hgt : decide ((p : Int) + (x.size : Nat) > (s.size : Nat)) = false := decide_eq_false (by omega)
        by_cases hk0 : k = 0
        · have hkb : decide ((k : Int) > 0) = false := decide_eq_false (by omega)
          have hkb2 : decide ((0 : Int) < (k : Int)) = false := decide_eq_false (by omega)
          have hkb3 : decide (0 < k) = false := decide_eq_false (by omega)
          clear hk0
          go_wp2_with fail
          go_quiet (fail)
          go_wp2_with fail
          have hbq : ∀ o n, Below wr.heap.size wr ((wr.alloc o).drewN n) := fun o n => ((Below.refl _ wr).alloc (Nat.le_refl _) o).trans (Go.Joins.below_draws _ _ n)
          refine ⟨⟨k + 1, by rw [Int.natCast_add]; rfl, by omega, Lib.hid (HB.out.trans ((hbq _ _).mono HB.out.size)), Lib.hid (Kd.C_below HCr.out (hbq _ _))⟩, by simp [intOf]; omega⟩
        · have hkb : decide ((k : Int) > 0) = true := decide_eq_true (by omega)
          have hkb2 : decide ((0 : Int) < (k : Int)) = true := decide_eq_true (by omega)
          have hkb3 : decide (0 < k) = true := decide_eq_true (by omega)
          obtain ⟨ad', hA, y0, y1, y2, y3⟩ := tok_at (Kd.C_below HCr.out ((Below.refl _ wr).alloc (Nat.le_refl _) (.cells #[.int .i64 kd, .string x, .int .i64 v, .int .i64 (p : Nat)] 28))) (k - 1) (by omega)
          cases hA
          have hle := HPR.out (k - 1) (by omega) (by omega)
          have hks' : T[k - 1].pos + (txt T[k - 1]).size ≤ s.size := by omega
          generalize hx' : txt T[k - 1] = x' at *
          generalize hpp' : T[k - 1].pos = p' at *
          have hkk : ((k : Int) - 1).toNat = k - 1 := by omega
          have hwk : IntKind.i64.wrap ((k : Int) - 1) = (k : Int) - 1 := IntWalk.i64_in _ (by omega)
          have hix := fun W => index_at ad m c ((k : Int) - 1) (by omega) W
          simp only [hkk] at hix
          have z1 := y1
          have z3 := y3
          rw [← hkk] at z1 z3
          have hk1 : (1 ≤ (k : Int)) = True := eq_true (by omega)
          have hk2 : (k ≤ m) = True := eq_true (by omega)
          have hk3 : (0 < k) = True := eq_true (by omega)
          have hk4 : (1 ≤ k) = True := eq_true (by omega)
          have hwr' : IntKind.i64.wrap ((p' : Int) + (x'.size : Nat)) = (p' : Int) + (x'.size : Nat) := IntWalk.i64_in _ (by omega)
          have hlt : decide ((p : Int) < (p' : Int) + (x'.size : Nat)) = false := decide_eq_false (by omega)
          clear y0 y2 hx' hpp' hk0 hkk
          go_wp2_with fail
          go_quiet (fail)
          go_wp2_with fail
          have hbq : ∀ o n, Below wr.heap.size wr ((wr.alloc o).drewN n) := fun o n => ((Below.refl _ wr).alloc (Nat.le_refl _) o).trans (Go.Joins.below_draws _ _ n)
          refine ⟨⟨k + 1, by rw [Int.natCast_add]; rfl, by omega, Lib.hid (HB.out.trans ((hbq _ _).mono HB.out.size)), Lib.hid (Kd.C_below HCr.out (hbq _ _))⟩, by simp [intOf]; omega⟩
      · obtain rfl : k = m := by omega
        obtain ⟨j, hj, hcount⟩ := count_in wh k hm1 (by omega) hwh
        have HCT := Lib.hid (fun W => jigsawref01_Count.calls wh k j W hcount)
        clear hcount
        have hjT : j < T.length := by rw [HM.out]; exact hj
        go_wp2_with fail
        refine (HCT.out _).mono ?_
        rintro e w2 ⟨rfl, hd⟩
        have HB2 := Lib.hid (below_step HB.out hd.below)
        have hC2 := Kd.C_below HCr.out hd.below
        have HC2 := Lib.hid hC2
        obtain ⟨ad, hA, x0, x1, x2, x3⟩ := tok_at hC2 j hjT
        subst hA
        have h1 := (HP2.out _ (List.getElem_mem hjT)).1
        rw [ll_len, ← txt_size] at h1
        obtain ⟨T2, ha2, hl2, ht2⟩ := HP4.out j hjT
        have hsub : ll (s.extract 0 (T[j].pos + (txt T[j]).size)) = (ll s).take (T[j].pos + T[j].text.length) := by
          rw [ll_cut, List.drop_zero, Nat.sub_zero]
          rfl
        have hslz : (s.extract 0 (T[j].pos + (txt T[j]).size)).size ≤ s.size := by rw [← ll_len, hsub, List.length_take, ll_len]; omega
        have hsl := fun W => slice_to s (T[j].pos) ((txt T[j]).size) h1 W
        generalize s.extract 0 (T[j].pos + (txt T[j]).size) = sub at *
        have hsc2 := fun W h => scan_calls sub (by omega) W h
        unfold scanL at hsc2
        rw [hsub, ha2, if_pos rfl] at hsc2
        have HSC2 := Lib.hid hsc2
        have HT2 := Lib.hid ht2
        clear hsc2 ht2 ha2 hsub x0 x2 hd hC2
        generalize hx : txt T[j] = x at *
        generalize hpp : T[j].pos = p at *
        have hps : p + x.size ≤ s.size := h1
        have hwr : IntKind.i64.wrap ((p : Int) + (x.size : Nat)) = (p : Int) + (x.size : Nat) := IntWalk.i64_in _ (by omega)
        have hix := fun W => index_at ad k c (j : Nat) (by omega) W
        simp only [Int.toNat_natCast] at hix
        have hjk1 : ((j : Int) < (k : Int)) = True := eq_true (by omega)
        have hjk2 : (j < k) = True := eq_true (by omega)
        clear hx hpp h1
        go_wp2_with fail
        have HKN := Lib.hid (fun W (h : Below w.heap.size w W) => (known_calls W (HL.out.below h)).mono (fun e w' q => (⟨q.1, below_step h q.2⟩ : e = .returned (.bool true) ∧ Below w.heap.size w w')))
        go_region_with (go_at_call 7; refine (HSC2.out _ (HL.out.below (below_step HB2.out (Drawn0.below ⟨⟨_, rfl⟩⟩)))).mono ?_; rintro e w3 ⟨A3, n3, c3, hcap3, rfl, hC3, hb3⟩)
        all_goals
          have hb23 := ((Drawn0.below (w := w2) ⟨⟨_, rfl⟩⟩ : Below w2.heap.size w2 w2.drew).trans hb3)
          have HB3 := Lib.hid (below_step HB2.out hb23)
          have hn3 : n3 = T2.length := by have := hC3.1; rw [List.length_map] at this; omega
          have hge : decide ((n3 : Int) ≥ (j : Int) + 1) = true := decide_eq_true (by omega)
          have hge2 : decide ((j : Int) + 1 ≤ (n3 : Int)) = true := decide_eq_true (by omega)
          have hwj : IntKind.i64.wrap ((j : Int) + 1) = (j : Int) + 1 := IntWalk.i64_in _ (by omega)
          have hs1 := fun W => slice_pre A3 n3 c3 j (by omega) W
          have hs2 := fun W => slice_pre (some ad) k c j (by omega) W
          have HSAME := Lib.hid (fun W (h : Below w3.heap.size w3 W) => (same_pre (Kd.C_below (Kd.C_below HC2.out hb23) h) (Kd.C_below hC3 h) (j + 1) (by omega) (by omega) HT2.out (by omega) c c3 (by omega) (by omega)).mono (fun e w' q => (⟨q.1, below_step (below_step HB3.out h) q.2.below⟩ : e = .returned (.bool true) ∧ Below w.heap.size w w')))
          clear hb23 hC3 hb3 hn3
          go_wp2_with fail
          go_still_tail 18, (by kernel_rfl)
          repeat still_step
          try refine wpStill_nil ?_
          go_wp2_with fail
          refine (HSAME.out _ (Drawn0.below ⟨⟨_, rfl⟩⟩)).mono ?_
          rintro e w4 ⟨rfl, HB4⟩
          go_wp2_with fail
          refine (HKN.out _ HB4).mono ?_
          rintro e w5 ⟨rfl, HB5⟩
          go_wp2_with fail
          go_ret
          exact ⟨rfl, HB5⟩
  · have HKN := Lib.hid (known_calls w1 (HL.out.below HB1.out))
    have hne : (why != 0) = true := by rw [bne_iff_ne]; exact h0
    go_wp2_with fail
    refine HKN.out.mono ?_
    rintro e w2 ⟨rfl, hb2⟩
    have HB2 := Lib.hid (below_step HB1.out hb2)
    go_wp2_with fail
    go_ret
    exact ⟨rfl, HB2.out⟩

end Go.Proofs.YtgpdahgpopmjiaaDoor.PL
