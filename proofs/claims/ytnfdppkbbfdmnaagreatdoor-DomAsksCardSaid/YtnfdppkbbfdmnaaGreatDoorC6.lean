/- Parts of the laws of dom: functions of the program, each with the proof of what it answers; the conditions are those of each theorem. -/
import Derived.Test.YtnfdppkbbfdmnaaGreatDoorC5
import Derived.Deep.RegionWith
namespace Go.Proofs.YtnfdppkbbfdmnaaGreatDoor.PD
open Go.RowKit Go.Proofs.YtnfdppkbbfdmnaaGreatDoorW.PrintWords Go.Proofs.YtnfdppkbbfdmnaaGreatDoorW.PrintLast Go.Proofs.YtnfdppkbbfdmnaaGreatDoorW.PrintMore
set_option linter.unusedVariables false
set_option linter.unusedSimpArgs false
/-! ### Norm of the program -/
attribute [local go_sem high] max2_mx min2_mn max_two min_two
/-- what the sort does to a row -/
def SortIs (v : Value) (base : Nat) (s : List S57) (w : World) : Prop :=
  Calls Tryz.prog 56 #[v, .func (.func 57) #[] #[]] w fun e w' => e = .returned (.tuple #[]) ∧ ∃ s', s'.Perm s ∧ Srt s' ∧ Row w' base v s' ∧ Below base w w'
/-- a row whose spare room may have been cut off -/
def RowC (w : World) (base : Nat) (v : Value) (l : List S57) : Prop := ∃ A c c', v = .slice A l.length c ∧ (c = c' ∨ c = l.length) ∧ Row w base (.slice A l.length c') l
theorem Row.cut {w : World} {base : Nat} {v : Value} {l : List S57} (h : Row w base v l) : RowC w base v l := by
  obtain ⟨A, c, e⟩ := row_form h
  subst e
  exact ⟨A, c, c, rfl, .inl rfl, h⟩
theorem RowC.below {w w' : World} {base : Nat} {v : Value} {l : List S57} (h : RowC w base v l) (hb : Below w.heap.size w w') : RowC w' base v l := by
  obtain ⟨A, c, c', e, hc, hr⟩ := h
  exact ⟨A, c, c', e, hc, hr.below hb⟩
theorem RowC.lower {w : World} {base base' : Nat} {v : Value} {l : List S57} (h : RowC w base v l) (hb : base' ≤ base) : RowC w base' v l := by
  obtain ⟨A, c, c', e, hc, hr⟩ := h
  exact ⟨A, c, c', e, hc, hr.lower hb⟩
theorem RowC.lst {w : World} {base : Nat} {v : Value} {l : List S57} (h : RowC w base v l) : Lst w v l := by
  obtain ⟨A, c, c', e, hc, hr⟩ := h
  obtain ⟨A2, c2, e2, hC, hc2⟩ := hr.lst
  injection e2 with e3 _ e4
  subst e3 e4
  exact ⟨A, c, e, hC, by rcases hc with rfl | rfl <;> omega⟩
theorem Row.setHi {W : World} {base g p cap : Nat} {ys : List S57} {c d : Int} (v : Int) (h : Row W base (.slice (some ⟨g, 0, none⟩) p cap) (ys ++ [⟨c, d⟩])) (hp : p = ys.length + 1) (hb : base ≤ W.heap.size) :
    Row (W.setCell ⟨g, ys.length * 2 + 1, none⟩ (.int .i64 v)) base (.slice (some ⟨g, 0, none⟩) p cap) (ys ++ [⟨c, v⟩]) ∧ Below base W (W.setCell ⟨g, ys.length * 2 + 1, none⟩ (.int .i64 v)) := by
  have hR := h.toR
  have hgb := own_base h.own g (by simp [Value.ownBlock])
  obtain ⟨ce, hcl, hM, hcc, hfr⟩ := Kd.R_elem hR z57 (ys.length : Int) (by omega) (by omega)
  have e : (ys ++ [(⟨c, d⟩ : S57)]).getD (ys.length : Int).toNat z57 = ⟨c, d⟩ := by simp
  rw [e] at hM
  have e2 := k57_openM hM
  subst e2
  have hs := Kd.R_seg hR (ys.length : Int) (by omega) (by omega) (seg := [.int .i64 v]) (j := 1) hcl hcc (show 1 + 1 ≤ 2 by decide) (x' := (⟨c, v⟩ : S57)) (okp := fun k => k ≠ g) (k57_mkM _ _ _ (⟨c, v⟩ : S57)) (fun k hk => ⟨trivial, hk⟩)
  rw [Int.toNat_natCast, set_last] at hs
  refine ⟨R57_row hs.1, (Below.refl base W).grown hs.2 hb (fun k hk => ?_)⟩
  injection hk with hk
  omega
theorem mergeStep_snoc (ys : List S57) (y r : S57) : mergeStep (ys ++ [y]) r = if r.f0 ≤ y.f1 + 1 then ys ++ [⟨y.f0, max y.f1 r.f1⟩] else ys ++ [y] ++ [r] := by
  unfold mergeStep
  rw [List.getLast?_append, List.getLast?_singleton]
  simp only [Option.some_or, List.dropLast_concat]
set_option maxRecDepth 100000 in
set_option maxHeartbeats 4000000 in
theorem clip_calls (A : Option Addr) (n c : Nat) (hn : n ≤ c) (hn2 : n ≤ 65538) (w : World) : Calls Tryz.prog 59 #[.slice A n c] w fun e w' => e = .returned (.slice A n n) ∧ w' = w := by
  go_enter Tryz.func59, Tryz.ntmps59
  go_wp2_with fail
  go_ret
  exact ⟨rfl, rfl⟩
theorem gather_drop {l : List S57} {k : Nat} (h : k < l.length) (out : List S57) : gather (l.drop k) out = if l[k].f0 > l[k].f1 then gather (l.drop (k + 1)) out else if inB l[k].f0 = true then (if inB l[k].f1 = true then gather (l.drop (k + 1)) (out ++ [l[k]]) else none) else none := by
  rw [List.drop_eq_getElem_cons h, gather]
set_option maxRecDepth 100000 in
set_option maxHeartbeats 8000000 in
theorem Norm_calls {v : Value} (l : List S57) (w : World) (h : Lst w v l) (hl : l.length ≤ 1000000000000)
    (hsort : ∀ v s W, Row W w.heap.size v s → w.heap.size ≤ W.heap.size → s.length ≤ 1000000000000 → SortIs v w.heap.size s W) :
    Calls Tryz.prog 12 #[v] w fun e w' => ∃ v', e = .returned (.tuple #[v', .int .i64 (normS l).2]) ∧ RowC w' w.heap.size v' (normS l).1 ∧ Below w.heap.size w w' := by
  obtain ⟨i0, hi0, hz0, hz1, hz2⟩ := info_parts info57
  obtain ⟨A, c, rfl, hC, hc⟩ := h
  have HC := Lib.hid hC
  have HSORT := Lib.hid hsort
  have HIN := Lib.hid (fun x W => in_calls x W)
  obtain ⟨r, hr⟩ : ∃ r, normS l = r := ⟨_, rfl⟩
  rw [hr]
  obtain ⟨r1, r2⟩ := r
  unfold normS at hr
  have HR := Lib.hid hr
  clear hC hsort hr
  generalize hm : l.length = m at *
  have HL := Lib.hid hm
  clear hm
  go_enter Tryz.func12, Tryz.ntmps12
  go_wp2_with fail
  go_loopw [4, 13] (fun a i wr => ∃ (k : Nat) (s : List S57), i = .int .i64 k ∧ k ≤ m ∧ s.length ≤ k ∧ Hid (∀ x ∈ s, x.f0 ≤ x.f1 ∧ inR x) ∧ Hid (gather l [] = gather (l.drop k) s) ∧ Hid (Row wr w.heap.size a s) ∧ Hid (Below w.heap.size w wr))
    (fun _ i _ => m - (intOf i).toNat)
  case atStart => exact ⟨0, [], rfl, Nat.zero_le _, Nat.zero_le _, Lib.hid (fun x hx => by cases hx), Lib.hid rfl, Lib.hid (Row.nil _ _), Lib.hid (Below.refl _ _)⟩
  case round =>
    obtain ⟨k, s, rfl, hk, hsl, hG, hN, hO, hB⟩ := hrel
    obtain ⟨A0, c0, rfl⟩ := row_form hO.out
    by_cases hkm : k < m
    · have hkt : k < l.length := by rw [HL.out]; exact hkm
      obtain ⟨ad, hA, x0, x1⟩ := rng_at (Kd.C_below HC.out hB.out) k hkt
      subst hA
      have HS := Lib.hid (hN.out.trans (gather_drop hkt s))
      have HET : l[k] = ⟨l[k].f0, l[k].f1⟩ := rfl
      rw [HET] at HS
      clear HET
      generalize l[k].f0 = a at *
      generalize l[k].f1 = b at *
      try simp only at HS
      have hix := fun W => index_at ad m c (k : Nat) (by omega) W
      simp only [Int.toNat_natCast] at hix
      have hsz := hB.out.size
      have hb0 := Lib.hid ((Below.refl wr.heap.size wr).alloc (Nat.le_refl _) (.cells #[.int .i64 a, .int .i64 b] 57))
      have hO1 := Lib.hid (hO.out.below hb0.out)
      have hB1 := Lib.hid (below_step hB.out hb0.out)
      by_cases c1 : a > b
      · have c1b : decide (b < a) = true := decide_eq_true c1
        go_wp2_with fail
        refine ⟨⟨k + 1, s, by rw [Int.natCast_add]; rfl, by omega, by omega, hG, Lib.hid (by rw [HS.out, if_pos c1]), hO1, hB1⟩, by simp [intOf]; omega⟩
      · have c1b : decide (b < a) = false := decide_eq_false c1
        go_wp2_with fail
        refine (HIN.out a _).mono ?_
        rintro e w2 ⟨rfl, hb2⟩
        have hnw := (hb2.block wr.heap.size (by simp)).trans (World.alloc_heap_new wr (.cells #[.int .i64 a, .int .i64 b] 57))
        have d0 : w2.cell? ⟨wr.heap.size, 0, none⟩ = some (.int .i64 a) := (blk_cell hnw 0).trans rfl
        have d1 : w2.cell? ⟨wr.heap.size, 1, none⟩ = some (.int .i64 b) := (blk_cell hnw 1).trans rfl
        have hO2 := Lib.hid (hO1.out.below hb2); have hB2 := Lib.hid (below_step hB1.out hb2)
        have hnw2 := Lib.hid hnw
        have hsz2 := hb2.size
        simp only [World.size_alloc] at hsz2
        clear hnw hb2
        cases ha : inB a with
        | false =>
          have ha' : (decide (-1000000 ≤ a) && decide (a ≤ 1000000)) = false := ha
          rw [ha']
          have HA := Lib.hid ha
          clear ha
          go_wp2_with fail
          go_ret2
          have hq := HR.out
          rw [HS.out, if_neg (by omega : ¬ a > b), HA.out, if_neg (by decide)] at hq
          unfold normO at hq
          injection hq with q1 q2
          subst q1 q2
          exact ⟨_, rfl, (Row.nil _ _).cut, hB2.out⟩
        | true =>
          have ha' : (decide (-1000000 ≤ a) && decide (a ≤ 1000000)) = true := ha
          rw [ha']
          have HA := Lib.hid ha
          clear ha
          go_wp2_with fail
          refine (HIN.out b _).mono ?_
          rintro e w3 ⟨rfl, hb3⟩
          have hnw := (hb3.block wr.heap.size (by omega)).trans hnw2.out
          have d0' : w3.cell? ⟨wr.heap.size, 0, none⟩ = some (.int .i64 a) := (blk_cell hnw 0).trans rfl
          have d1' : w3.cell? ⟨wr.heap.size, 1, none⟩ = some (.int .i64 b) := (blk_cell hnw 1).trans rfl
          have hO3 := Lib.hid (hO2.out.below hb3); have hB3 := Lib.hid (below_step hB2.out hb3)
          have hsz3 := hb3.size
          clear hnw hb3 d0 d1
          cases hbb : inB b with
          | false =>
            have hb' : (decide (-1000000 ≤ b) && decide (b ≤ 1000000)) = false := hbb
            rw [hb']
            have HBB := Lib.hid hbb
            clear hbb
            go_wp2_with fail
            go_ret2
            have hq := HR.out
            rw [HS.out, if_neg (by omega : ¬ a > b), HA.out, HBB.out, if_pos rfl, if_neg (by decide)] at hq
            unfold normO at hq
            injection hq with q1 q2
            subst q1 q2
            exact ⟨_, rfl, (Row.nil _ _).cut, hB3.out⟩
          | true =>
            have hb' : (decide (-1000000 ≤ b) && decide (b ≤ 1000000)) = true := hbb
            rw [hb']
            have HBB := Lib.hid hbb
            clear hbb
            go_wp2_with ((with_reducible refine gate_dst (N := 20) rfl ?_); refine wpList_append_own _ rfl _ _ 23 rfl w.heap.size 57 i0 _ 2 16 Tryz.underlying23 hi0 hz0 hz1 hz2 rfl (by decide) _ _ _ rfl ((Row.own hO3.out).alloc _) ⟨_, 0, none⟩ 1 1 [.int .i64 a, .int .i64 b] rfl rfl (cell_pair_at _ _ (by simp) _ _ _) (by simp [Value.oneCell']) (by simp only [maxLen]; omega) (by omega) (by simp; omega) ?_; intro v' w4 hown' hgrow _; obtain ⟨q1, q2⟩ := hO3.out.pushed hown' hgrow (by first | omega | (simp; omega)); have hQ1 := Lib.hid q1; have hQ2 := Lib.hid (hB3.out.trans q2); clear hown' hgrow q1 q2)
            refine ⟨⟨k + 1, s ++ [⟨a, b⟩], by rw [Int.natCast_add]; rfl, by omega, by rw [List.length_append, List.length_singleton]; omega, Lib.hid ?_, Lib.hid (by rw [HS.out, if_neg (by omega : ¬ a > b), HA.out, HBB.out, if_pos rfl, if_pos rfl]), hQ1, hQ2⟩, by simp [intOf]; omega⟩
            intro x hx
            rw [List.mem_append, List.mem_singleton] at hx
            rcases hx with hx | rfl
            · exact hG.out x hx
            · have := (inB_iff _).1 HA.out; have := (inB_iff _).1 HBB.out
              unfold inR
              simp only
              omega
    · obtain rfl : k = m := by omega
      have hge : gather l [] = some s := by rw [hN.out, List.drop_of_length_le (by rw [HL.out]; exact Nat.le_refl _)]; rfl
      have hq := HR.out
      rw [hge] at hq
      unfold normO at hq
      have HQ := Lib.hid hq
      clear hq hge
      have HSO := Lib.hid (HSORT.out _ s wr hO.out hB.out.size (by omega))
      unfold SortIs at HSO
      go_wp2_with fail
      refine HSO.out.mono ?_
      rintro e w2 ⟨rfl, s2, hp, hs2, hO2, hb2⟩
      have hln := hp.length_eq
      have HEQ := Lib.hid (joinL_eq (e := -1000002) (fun r hr => by have := (hG.out r hr).2; have := (hG.out r hr).1; unfold inR at *; omega) hp hs2)
      have HG2 := Lib.hid (fun x (hx : x ∈ s2) => (hG.out x (hp.mem_iff.1 hx)).2)
      have HB2 := Lib.hid (hB.out.trans hb2)
      obtain ⟨A1, c1, hv1, hC1, hc1⟩ := hO2.lst
      injection hv1 with hv1 hx_ hv2
      clear hx_
      subst hv1 hv2
      have HC1 := Lib.hid hC1
      clear hO2 hb2 hC1 hp hs2 HSO HC hG hN hO hB
      rw [← hln] at hsl ⊢
      clear hln
      generalize hn : s2.length = n at *
      have HL2 := Lib.hid hn
      clear hn
      go_wp2_with fail
      go_loopw [7, 43] (fun o i wr => ∃ (q : Nat) (out : List S57), i = .int .i64 q ∧ q ≤ n ∧ out.length ≤ q ∧ Hid (out = (s2.take q).foldl mergeStep []) ∧ Hid (∀ x ∈ out, inR x) ∧ Hid (Row wr w2.heap.size o out) ∧ Hid (Below w2.heap.size w2 wr))
        (fun _ i _ => n - (intOf i).toNat)
      case atStart => exact ⟨0, [], rfl, Nat.zero_le _, Nat.zero_le _, Lib.hid rfl, Lib.hid (fun x hx => by cases hx), Lib.hid (Row.nil _ _), Lib.hid (Below.refl _ _)⟩
      case round =>
        obtain ⟨q, out, rfl, hq, hol, hN, hI, hO, hB⟩ := hrel
        obtain ⟨A3, c3, rfl⟩ := row_form hO.out
        by_cases hqn : q < n
        · have hqt : q < s2.length := by rw [HL2.out]; exact hqn
          obtain ⟨ad, hA, x0, x1⟩ := rng_at (Kd.C_below HC1.out hB.out) q hqt
          subst hA
          have hv := HG2.out _ (List.getElem_mem hqt)
          have hst : (s2.take (q + 1)).foldl mergeStep [] = mergeStep out s2[q] := by rw [take_at hqt, List.foldl_append, ← hN.out]; rfl
          have hin := mergeStep_in hI.out hv
          have HET : s2[q] = ⟨s2[q].f0, s2[q].f1⟩ := rfl
          rw [HET] at hst hin
          unfold inR at hv
          generalize s2[q].f0 = a at *
          generalize s2[q].f1 = b at *
          clear HET
          have HST := Lib.hid hst
          have HIN2 := Lib.hid hin
          clear hst hin
          have hix := fun W => index_at ad n c0 (q : Nat) (by omega) W
          simp only [Int.toNat_natCast] at hix
          have hsz := hB.out.size
          have hb0 := (Below.refl wr.heap.size wr).alloc (Nat.le_refl _) (.cells #[.int .i64 a, .int .i64 b] 57)
          have hO1 := Lib.hid (hO.out.below hb0)
          have hB1 := Lib.hid (below_step hB.out hb0)
          have hnw := Lib.hid (World.alloc_heap_new wr (.cells #[.int .i64 a, .int .i64 b] 57))
          clear hb0
          rcases snoc_cases out with rfl | ⟨ys, ⟨yc, yd⟩, rfl⟩
          · go_wp2_with fail
            go_quiet (fail)
            have hQ1 := Lib.hid (hO1.out.below (Drawn0.below (w' := World.drewN _ nq) ⟨⟨_, rfl⟩⟩)); have hQ2 := Lib.hid (below_step hB1.out (Drawn0.below (w' := World.drewN _ nq) ⟨⟨_, rfl⟩⟩))
            have d0 : (World.drewN (wr.alloc (.cells #[.int .i64 a, .int .i64 b] 57)) nq).cell? ⟨wr.heap.size, 0, none⟩ = some (.int .i64 a) := (blk_cell hnw.out 0).trans rfl
            have d1 : (World.drewN (wr.alloc (.cells #[.int .i64 a, .int .i64 b] 57)) nq).cell? ⟨wr.heap.size, 1, none⟩ = some (.int .i64 b) := (blk_cell hnw.out 1).trans rfl
            have hsz2 := hQ2.out.size
            generalize World.drewN (wr.alloc (.cells #[.int .i64 a, .int .i64 b] 57)) nq = W2 at *
            go_wp2_with ((with_reducible refine gate_dst (N := 78) rfl ?_); refine wpList_append_own _ rfl _ _ 23 rfl w2.heap.size 57 i0 _ 2 16 Tryz.underlying23 hi0 hz0 hz1 hz2 rfl (by decide) _ _ _ rfl ((Row.own hQ1.out).alloc _) ⟨_, 0, none⟩ 1 1 [.int .i64 a, .int .i64 b] rfl rfl (cell_pair_at _ _ (by simp) _ _ _) (by simp [Value.oneCell']) (by simp only [maxLen, List.length_nil]; omega) (by omega) (by simp; omega) ?_; intro v' w4 hown' hgrow _; obtain ⟨q1, q2⟩ := hQ1.out.pushed hown' hgrow (by first | omega | (simp; omega)); have hQ3 := Lib.hid q1; have hQ4 := Lib.hid (hQ2.out.trans q2); clear hown' hgrow q1 q2)
            refine ⟨⟨q + 1, [⟨a, b⟩], by rw [Int.natCast_add]; rfl, by omega, by simp, Lib.hid (by rw [HST.out]; rfl), ?_, hQ3, hQ4⟩, by simp [intOf]; omega⟩
            exact Lib.hid (fun x hx => HIN2.out x hx)
          · have hlen : (ys ++ [(⟨yc, yd⟩ : S57)]).length = ys.length + 1 := by rw [List.length_append, List.length_singleton]
            have hy := hI.out ⟨yc, yd⟩ (by simp)
            unfold inR at hy
            simp only at hy
            obtain ⟨g, cap, hv3, hgb, hgl, cl, hg⟩ := Kd.R_form hO1.out.toR (by rw [hlen]; omega)
            injection hv3 with hA3 hx_ hc3
            subst hA3 hc3
            clear hx_
            obtain ⟨A9, c9, hv9, hC9, _⟩ := hO1.out.lst
            injection hv9 with hv9 hx_ hv10
            subst hv9 hv10
            clear hx_
            obtain ⟨ad2, hA2, y0, y1⟩ := rng_at hC9 ys.length (by rw [hlen]; omega)
            injection hA2 with hA2
            subst hA2
            have hlast : (ys ++ [(⟨yc, yd⟩ : S57)])[ys.length]'(by rw [hlen]; omega) = ⟨yc, yd⟩ := by simp
            rw [add_zero_off] at y0 y1
            rw [hlast] at y0 y1
            simp only at y0 y1
            obtain ⟨p, hp⟩ : ∃ p, (ys ++ [(⟨yc, yd⟩ : S57)]).length = p := ⟨_, rfl⟩
            rw [hp] at hlen hol ⊢
            have HP := Lib.hid hp
            have HG := Lib.hid hg
            have htn : ((p : Int) - 1).toNat = ys.length := by omega
            have hix2 := fun W => index_at ⟨g, 0, none⟩ p c3 ((p : Int) - 1) (by omega) W
            simp only [htn, add_zero_off] at hix2
            have hw1 : IntKind.i64.wrap ((p : Int) - 1) = (p : Int) - 1 := IntWalk.i64_in _ (by omega)
            have hw3 : IntKind.i64.wrap (yd + 1) = yd + 1 := IntWalk.i64_in _ (by omega)
            have h1 : (0 : Int) ≤ (p : Int) - 1 := by omega
            have h2 : (1 : Int) ≤ (p : Int) := by omega
            have h3 : 1 ≤ p := by omega
            have HLEN := Lib.hid hlen
            clear hp hg hlen htn hC9 hlast y0
            by_cases hcmp : a ≤ yd + 1
            · have hcb : decide (a ≤ yd + 1) = true := decide_eq_true hcmp
              go_wp2_with fail
              go_quiet (fail)
              have hQ1 := Lib.hid (hO1.out.below (Drawn0.below (w' := World.drewN _ nq) ⟨⟨_, rfl⟩⟩)); have hQ2 := Lib.hid (below_step hB1.out (Drawn0.below (w' := World.drewN _ nq) ⟨⟨_, rfl⟩⟩))
              have d1 : (World.drewN (wr.alloc (.cells #[.int .i64 a, .int .i64 b] 57)) nq).cell? ⟨wr.heap.size, 1, none⟩ = some (.int .i64 b) := (blk_cell hnw.out 1).trans rfl
              have y1' : (World.drewN (wr.alloc (.cells #[.int .i64 a, .int .i64 b] 57)) nq).cell? ⟨g, ys.length * 2 + 1, none⟩ = some (.int .i64 yd) := y1
              have hf : (World.drewN (wr.alloc (.cells #[.int .i64 a, .int .i64 b] 57)) nq).frozen? ⟨g, ys.length * 2 + 1, none⟩ = false := blk_frozen HG.out _
              clear y1
              generalize World.drewN (wr.alloc (.cells #[.int .i64 a, .int .i64 b] 57)) nq = W2 at *
              have hsz2 := hQ2.out.size
              go_upto_region 17 with fail
              have hrow := hQ1.out
              rw [HP.out] at hrow
              obtain ⟨r1, r2⟩ := hrow.setHi (max yd b) HLEN.out hsz2
              have HR1 := Lib.hid r1; have HR2 := Lib.hid r2
              have HM2 := Lib.hid (HST.out.trans ((mergeStep_snoc ys ⟨yc, yd⟩ ⟨a, b⟩).trans (if_pos hcmp)))
              have HI2 := HIN2.out
              rw [mergeStep_snoc, if_pos (show (⟨a, b⟩ : S57).f0 ≤ (⟨yc, yd⟩ : S57).f1 + 1 from hcmp)] at HI2
              have HI3 := Lib.hid HI2
              clear hrow r1 r2 HI2
              go_region_with (fail)
              all_goals
                go_wp2_with fail
                refine ⟨⟨q + 1, ys ++ [⟨yc, max yd b⟩], by rw [Int.natCast_add]; rfl, by omega, by rw [List.length_append, List.length_singleton]; have := HLEN.out; omega, Lib.hid HM2.out.symm, HI3, Lib.hid (HR1.out.below (Below.refl _ _).drew), Lib.hid (hQ2.out.trans (HR2.out.trans ((Below.refl _ _).drew)))⟩, by simp [intOf]; omega⟩
            · have hcb : decide (a ≤ yd + 1) = false := decide_eq_false hcmp
              go_wp2_with fail
              go_quiet (fail)
              have hQ1 := Lib.hid (hO1.out.below (Drawn0.below (w' := World.drewN _ nq) ⟨⟨_, rfl⟩⟩)); have hQ2 := Lib.hid (below_step hB1.out (Drawn0.below (w' := World.drewN _ nq) ⟨⟨_, rfl⟩⟩))
              have d0 : (World.drewN (wr.alloc (.cells #[.int .i64 a, .int .i64 b] 57)) nq).cell? ⟨wr.heap.size, 0, none⟩ = some (.int .i64 a) := (blk_cell hnw.out 0).trans rfl
              have d1 : (World.drewN (wr.alloc (.cells #[.int .i64 a, .int .i64 b] 57)) nq).cell? ⟨wr.heap.size, 1, none⟩ = some (.int .i64 b) := (blk_cell hnw.out 1).trans rfl
              have hsz2 := hQ2.out.size
              have HM2 := Lib.hid (HST.out.trans ((mergeStep_snoc ys ⟨yc, yd⟩ ⟨a, b⟩).trans (if_neg (by simpa using hcmp))))
              have HI2 := HIN2.out
              rw [mergeStep_snoc, if_neg (show ¬ (⟨a, b⟩ : S57).f0 ≤ (⟨yc, yd⟩ : S57).f1 + 1 by simp only; omega)] at HI2
              have HI3 := Lib.hid HI2
              clear y1 HI2
              generalize ys ++ [(⟨yc, yd⟩ : S57)] = o2 at *
              generalize World.drewN (wr.alloc (.cells #[.int .i64 a, .int .i64 b] 57)) nq = W2 at *
              go_wp2_with ((with_reducible refine gate_dst (N := 78) rfl ?_); refine wpList_append_own _ rfl _ _ 23 rfl w2.heap.size 57 i0 _ 2 16 Tryz.underlying23 hi0 hz0 hz1 hz2 rfl (by decide) _ _ _ rfl ((by have := (Row.own hQ1.out).alloc (.cells #[.int .i64 a, .int .i64 b] 57); rw [HP.out] at this; exact this)) ⟨_, 0, none⟩ 1 1 [.int .i64 a, .int .i64 b] rfl rfl (cell_pair_at _ _ (by simp) _ _ _) (by simp [Value.oneCell']) (by simp only [maxLen]; omega) (by omega) (by simp; omega) ?_; intro v' w4 hown' hgrow _; obtain ⟨q1, q2⟩ := hQ1.out.pushed (by rw [HP.out]; exact hown') (by rw [HP.out]; exact hgrow) (by first | omega | (simp; omega)); have hQ3 := Lib.hid q1; have hQ4 := Lib.hid (hQ2.out.trans q2); clear hown' hgrow q1 q2)
              refine ⟨⟨q + 1, o2 ++ [⟨a, b⟩], by rw [Int.natCast_add]; rfl, by omega, by rw [List.length_append, List.length_singleton, HP.out]; omega, Lib.hid HM2.out.symm, HI3, hQ3, hQ4⟩, by simp [intOf]; omega⟩
        · obtain rfl : q = n := by omega
          have hend : out = joinL s := by rw [hN.out, List.take_of_length_le (by rw [HL2.out]; exact Nat.le_refl _)]; exact HEQ.out
          have HEND := Lib.hid hend
          have HB3 := Lib.hid (below_step HB2.out hB.out)
          have hle2 := HB2.out.size
          clear hend
          by_cases hbig : out.length ≤ 4096
          · have hb1 : decide ((out.length : Int) > 4096) = false := decide_eq_false (by omega)
            have hb2 : decide (4096 < out.length) = false := decide_eq_false (by omega)
            have HCL := Lib.hid (fun W => clip_calls A3 out.length c3 (row_cap hO.out) (by omega) W)
            go_wp2_with fail
            refine (HCL.out _).mono ?_
            rintro e w5 ⟨rfl, rfl⟩
            go_wp2_with fail
            go_ret2
            have hq := HQ.out
            rw [← HEND.out] at hq
            unfold fitL at hq
            rw [if_pos hbig] at hq
            injection hq with q1 q2
            subst q1 q2
            exact ⟨_, rfl, ⟨A3, _, c3, rfl, .inr rfl, hO.out.lower hle2⟩, HB3.out⟩
          · have hb1 : decide ((out.length : Int) > 4096) = true := decide_eq_true (by omega)
            have hb2 : decide (4096 < out.length) = true := decide_eq_true (by omega)
            have HBIG := Lib.hid hbig
            go_wp2_with fail
            go_ret2
            have hq := HQ.out
            rw [← HEND.out] at hq
            unfold fitL at hq
            rw [if_neg HBIG.out] at hq
            injection hq with q1 q2
            subst q1 q2
            exact ⟨_, rfl, (Row.nil _ _).cut, HB3.out⟩

end Go.Proofs.YtnfdppkbbfdmnaaGreatDoor.PD
