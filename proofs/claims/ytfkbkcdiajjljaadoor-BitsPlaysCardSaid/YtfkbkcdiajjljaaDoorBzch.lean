/- Parts of the laws of bits: functions of the program, each with the proof of what it answers; the conditions are those of each theorem. -/
import Derived.Test.YtfkbkcdiajjljaaDoorBzcg
namespace Go.Proofs.YtfkbkcdiajjljaaDoor.PBitsSteps
open Go.RowKit Go.Proofs.YtfkbkcdiajjljaaDoorW.PrintWords Go.Proofs.YtfkbkcdiajjljaaDoorW.PrintLast Go.Proofs.YtfkbkcdiajjljaaDoorW.PrintMore
set_option linter.unusedVariables false
set_option linter.unusedSimpArgs false
/-! ### lists of numbers alike; join -/
theorem list_split (xs ys : List Int) (hl : xs.length = ys.length) (k : Nat) (hk : k < xs.length) (hne : xs[k] ≠ ys[k]'(by omega)) : xs ≠ ys := by
  intro e
  subst e
  exact hne rfl
set_option maxHeartbeats 4000000 in
theorem ints_same (A B : Option Addr) (ca cb : Nat) (xs ys : List Int) (w : World) (ha : ValsAt w A xs) (hb : ValsAt w B ys) (hx : xs.length ≤ 65536) (hy : ys.length ≤ 65536) :
    Calls Tryd.prog 27 #[.slice A xs.length ca, .slice B ys.length cb] w fun e w' => e = .returned (.bool (decide (xs = ys))) ∧ Drawn0 w w' := by
  by_cases hl : xs.length = ys.length
  · have HA := Lib.hid ha; have HB := Lib.hid hb; have HL := Lib.hid hl
    obtain ⟨n, hn⟩ : ∃ n, n = xs.length := ⟨_, rfl⟩
    rw [← hl, ← hn]
    have hn2 : n ≤ 65536 := by omega
    have HN := Lib.hid hn
    clear ha hb hl hx hy hn
    go_enter Tryd.func27, Tryd.ntmps27
    go_wp2_with fail
    go_loopw [5] (fun i wr => ∃ k m : Nat, i = .int .i64 k ∧ k ≤ n ∧ Hid (∀ j (h1 : j < xs.length) (h2 : j < ys.length), j < k → xs[j] = ys[j]) ∧ wr = w.drewN m) (fun i _ => n - (intOf i).toNat)
    case atStart => exact ⟨0, 0, rfl, by omega, Lib.hid (fun j h1 h2 h3 => absurd h3 (by omega)), rfl⟩
    case round =>
      obtain ⟨k, m, rfl, hk, hal, rfl⟩ := hrel
      by_cases hkn : k < n
      · have hk1 : k < xs.length := by rw [← HN.out]; exact hkn
        have hk2 : k < ys.length := by rw [← HL.out]; exact hk1
        obtain ⟨b1, e1, q1, c1⟩ := HA.out k hk1
        obtain ⟨b2, e2, q2, c2⟩ := HB.out k hk2
        obtain ⟨x, hx⟩ : ∃ x, x = xs[k] := ⟨_, rfl⟩
        obtain ⟨y, hy⟩ : ∃ y, y = ys[k] := ⟨_, rfl⟩
        rw [← hx] at c1
        rw [← hy] at c2
        subst e1 e2
        have HX := Lib.hid hx; have HY := Lib.hid hy
        clear hx hy
        by_cases hxy : x = y
        · subst hxy
          go_wp2_with fail
          go_quiet (fail)
          go_wp2_with fail
          go_roundw
          case rel =>
            refine ⟨k + 1, _, by go_num, by omega, Lib.hid (fun j h1 h2 h3 => ?_), rfl⟩
            by_cases e : j = k
            · subst e; rw [← HX.out, ← HY.out]
            · exact hal.out j h1 h2 (by omega)
          case measure => simp [intOf]; omega
        · have hb : (x != y) = true := by rw [bne_iff_ne]; exact hxy
          have HXY := Lib.hid hxy
          clear hxy
          go_wp2_with fail
          go_quiet (fail)
          go_wp2_with fail
          go_ret
          refine ⟨?_, Drawn0.step ⟨⟨m, rfl⟩⟩ _⟩
          rw [decide_eq_false (list_split xs ys HL.out k hk1 (by rw [← HX.out, ← HY.out]; exact HXY.out))]
          rfl
      · obtain rfl : k = n := by omega
        have hall : xs = ys := List.ext_getElem HL.out (fun j h1 h2 => hal.out j h1 h2 (by rw [HN.out]; exact h1))
        have HALL := Lib.hid hall
        clear hall
        go_wp2_with fail
        go_ret
        refine ⟨?_, ⟨⟨_, rfl⟩⟩⟩
        rw [decide_eq_true HALL.out]
        rfl
  · have hne : xs ≠ ys := fun e => hl (by rw [e])
    rw [decide_eq_false hne]
    have hb : (((xs.length : Nat) : Int) != ((ys.length : Nat) : Int)) = true := by rw [bne_iff_ne]; omega
    clear ha hb hne
    generalize xs.length = n1 at *
    generalize ys.length = n2 at *
    have hb : (((n1 : Nat) : Int) != ((n2 : Nat) : Int)) = true := by rw [bne_iff_ne]; omega
    clear hl
    go_enter Tryd.func27, Tryd.ntmps27
    go_wp2_with fail
    go_ret
    exact ⟨rfl, Drawn0.refl _⟩
theorem set_ref {w : World} {g gp q ql : Nat} {f r f2 r2 : Int} {M M2 : Int → Bool} (h : SetAt w g gp f r M) (k : RefAt w q ql f2 r2 M2) : g ≠ q ∧ g ≠ ql ∧ gp ≠ q ∧ gp ≠ ql := by
  obtain ⟨n, c, ws, cs, h1, h2, _⟩ := h
  obtain ⟨c', cs', k1, k2, _⟩ := k
  refine ⟨?_, ?_, ?_, ?_⟩ <;> rintro rfl
  · rw [h1] at k1; simp [setB, refB] at k1
  · rw [h1] at k2; simp [setB] at k2
  · rw [h2] at k1; simp [refB] at k1
  · rw [h2] at k2; simp at k2
theorem ref_ref {w : World} {q ql q2 ql2 : Nat} {f r f2 r2 : Int} {M M2 : Int → Bool} (h : RefAt w q ql f r M) (k : RefAt w q2 ql2 f2 r2 M2) : q ≠ ql2 ∧ ql ≠ q2 := by
  obtain ⟨c, cs, h1, h2, _⟩ := h
  obtain ⟨c', cs', k1, k2, _⟩ := k
  refine ⟨?_, ?_⟩ <;> rintro rfl
  · rw [h1] at k2; simp [refB] at k2
  · rw [h2] at k1; simp [refB] at k1
theorem set_set {w : World} {g gp g2 gp2 : Nat} {f r f2 r2 : Int} {M M2 : Int → Bool} (h : SetAt w g gp f r M) (k : SetAt w g2 gp2 f2 r2 M2) : g ≠ gp2 ∧ gp ≠ g2 := by
  obtain ⟨n, c, ws, cs, h1, h2, _⟩ := h
  obtain ⟨n', c', ws', cs', k1, k2, _⟩ := k
  refine ⟨?_, ?_⟩ <;> rintro rfl
  · rw [h1] at k2; simp [setB] at k2
  · rw [h2] at k1; simp [setB] at k1
theorem SetAt.keepX {w w' : World} {g gp : Nat} {f r : Int} {M : Int → Bool} {ex : List Nat} (h : SetAt w g gp f r M) (hk : PBitsSteps.keepX ex w w') (h1 : g ∉ ex) (h2 : gp ∉ ex) : SetAt w' g gp f r M :=
  h.keep (hk.2 g h.lt.1 h1) (hk.2 gp h.lt.2.1 h2)
theorem keepX.mono {ex ex' : List Nat} {w w' : World} (h : PBitsSteps.keepX ex w w') (hs : ∀ b ∈ ex, b ∈ ex') : PBitsSteps.keepX ex' w w' := ⟨h.1, fun b hb hn => h.2 b hb (fun hm => hn (hs b hm))⟩
/-- the other set and the reference's other one: another one, or the very one -/
def Other (w : World) (g gp q ql : Nat) (f r : Int) (M : Int → Bool) (g2 gp2 q2 : Nat) (f2 r2 : Int) (Mo : Int → Bool) : Prop :=
  SetAt w g2 gp2 f2 r2 Mo ∧ ((∃ ql2, RefAt w q2 ql2 f2 r2 Mo ∧ q2 ≠ q ∧ ql ≠ ql2) ∨ (q2 = q ∧ Mo = M ∧ f2 = f ∧ r2 = r))
def Joined (n0 : Nat) (w : World) (g gp q ql : Nat) (f r : Int) (e : Ending) (w' : World) : Prop :=
  ∃ ql' M', e = .returned (.bool true) ∧ SetAt w' g gp f r M' ∧ RefAt w' q ql' f r M' ∧ (ql' = ql ∨ w.heap.size ≤ ql') ∧ keepX [gp, ql, q] w w' ∧ Below n0 w w'
theorem Other.pair {w w' : World} {g gp q ql : Nat} {f r : Int} {M : Int → Bool} {g2 gp2 q2 : Nat} {f2 r2 : Int} {Mo : Int → Bool} (h : Other w g gp q ql f r M g2 gp2 q2 f2 r2 Mo) (hs : SetAt w g gp f r M) (hr : RefAt w q ql f r M) (hk : keepX [gp] w w') : Pair w' q ql q2 M Mo := by
  obtain ⟨h1, ⟨ql2, k1, k2, k3⟩ | ⟨rfl, rfl, _, _⟩⟩ := h
  · have t := set_ref hs k1
    exact .inl ⟨ql2, f2, r2, k1.keepX hk (by simp; omega) (by simp; omega), (ref_ref hr k1).2, k3⟩
  · exact .inr ⟨rfl, rfl⟩
theorem Other.ref {w : World} {g gp q ql : Nat} {f r : Int} {M : Int → Bool} {g2 gp2 q2 : Nat} {f2 r2 : Int} {Mo : Int → Bool} (h : Other w g gp q ql f r M g2 gp2 q2 f2 r2 Mo) (hr : RefAt w q ql f r M) : ∃ ql2, RefAt w q2 ql2 f2 r2 Mo := by
  obtain ⟨h1, ⟨ql2, k1, k2, k3⟩ | ⟨rfl, rfl, rfl, rfl⟩⟩ := h
  · exact ⟨_, k1⟩
  · exact ⟨_, hr⟩
theorem mem_any_vals (M : Int → Bool) (f r : Int) (hin : ∀ v, M v = true → f ≤ v ∧ v < f + r) : anyOut (fun x => !M x) (vals M f r) = decide (0 < (vals M f r).length) := by
  have hm := mem_vals M f r hin
  cases hL : vals M f r with
  | nil => rfl
  | cons x t =>
    have : M x = true := (hm x).1 (by rw [hL]; simp)
    simp [anyOut, this]
theorem joinM_vals (M Mo : Int → Bool) (f r : Int) (hin : ∀ v, Mo v = true → f ≤ v ∧ v < f + r) (x : Int) : joinM M (vals Mo f r) x = (Mo x || M x) := by
  unfold joinM
  congr 1
  rw [Bool.eq_iff_iff, decide_eq_true_iff]
  exact mem_vals Mo f r hin x
set_option maxRecDepth 100000 in
set_option maxHeartbeats 16000000 in
theorem join_calls {w : World} {g gp q ql : Nat} {f r : Int} {M : Int → Bool} {g2 gp2 q2 : Nat} {f2 r2 : Int} {Mo : Int → Bool} (n0 : Nat) (kind : Int) (hs : SetAt w g gp f r M) (hr : RefAt w q ql f r M) (ho : Other w g gp q ql f r M g2 gp2 q2 f2 r2 Mo) (hL : TabLaid w) (hg0 : 0 < gp) (hn : n0 ≤ g ∧ n0 ≤ gp ∧ n0 ≤ q ∧ n0 ≤ ql ∧ n0 ≤ w.heap.size) :
    Calls Tryd.prog 25 #[.int .i64 kind, setP g, setP g2, refP q, refP q2] w (Joined n0 w g gp q ql f r) := by
  have hin2 := fun v => ho.1.inn v
  have hin1 := fun v => hs.inn v
  have t := set_ref hs hr
  have hlt := hr.lt
  have hlts := hs.lt
  have HS := Lib.hid hs; have HR := Lib.hid hr; have HO := Lib.hid ho; have HL := Lib.hid hL; have HIN := Lib.hid hin1; have HIN2 := Lib.hid hin2
  have hOS : OSet w (setP g2) [g2, gp2] Mo := .inr ⟨g2, gp2, f2, r2, rfl, rfl, ho.1⟩
  have HOS := Lib.hid hOS
  have HSO := Lib.hid ho.1
  clear hs hr ho hL hin1 hin2 hOS
  have U : setP g = .pointer (some ⟨g, 0, none⟩) := rfl
  have U2 : setP g2 = .pointer (some ⟨g2, 0, none⟩) := rfl
  have V : refP q = .pointer (some ⟨q, 0, none⟩) := rfl
  have V2 : refP q2 = .pointer (some ⟨q2, 0, none⟩) := rfl
  by_cases k0 : kind = 0
  · subst k0
    go_enter Tryd.func25, Tryd.ntmps25
    go_wp2_with fail
    refine (HS.out.and n0 HL.out HOS.out hg0 ⟨hn.2.1, hn.2.2.2.2⟩).mono ?_
    rintro e w1 ⟨rfl, a1, a2, a3⟩
    have HS1 := Lib.hid a1; have HK1 := Lib.hid a2; have HB1 := Lib.hid a3
    have HR1 := Lib.hid (HR.out.keepX a2 (by simp; omega) (by simp; omega))
    have HP1 := Lib.hid (HO.out.pair HS.out HR.out a2)
    clear a1 a2 a3
    obtain ⟨ab, hab⟩ : ∃ ab, ab = anyOut Mo (vals M f r) := ⟨_, rfl⟩
    rw [← hab]
    go_wp2_with fail
    refine (HR1.out.and n0 HP1.out hn.2.2.2.1).mono ?_
    rintro e w2 ⟨rfl, b1, b2, b3⟩
    rw [← hab]
    have HR2 := Lib.hid b1; have HK2 := Lib.hid b2; have HB2 := Lib.hid b3
    clear b1 b2 b3 hab
    have HS2 := Lib.hid (HS1.out.keepX HK2.out (by simp; omega) (by simp; omega))
    cases ab
    all_goals (
      go_wp2_with fail
      go_ret
      refine ⟨ql, _, rfl, HS2.out, HR2.out, .inl rfl, (HK1.out.mono (by simp)).trans (HK2.out.mono (by simp)), HB1.out.trans HB2.out⟩)
  · have k0b : (kind == 0) = false := by rw [beq_eq_false_iff_ne]; exact k0
    clear k0
    by_cases k1 : kind = 1
    · subst k1
      by_cases hfit : ∀ x, Mo x = true → f ≤ x ∧ x < f + r
      · have HF := Lib.hid hfit
        clear hfit
        go_enter Tryd.func25, Tryd.ntmps25
        go_wp2_with fail
        refine (HS.out.or n0 HL.out HSO.out hg0 ⟨hn.2.1, hn.2.2.2.2⟩ HF.out).mono ?_
        rintro e w1 ⟨rfl, a1, a2, a3⟩
        have HS1 := Lib.hid a1; have HK1 := Lib.hid a2; have HB1 := Lib.hid a3
        have HR1 := Lib.hid (HR.out.keepX a2 (by simp; omega) (by simp; omega))
        have hP1 := HO.out.pair HS.out HR.out a2
        have hro : ∃ ql2, RefAt w1 q2 ql2 f2 r2 Mo := by
          obtain ⟨ql2, hro⟩ := HO.out.ref HR.out
          have t2 := set_ref HS.out hro
          exact ⟨ql2, hro.keepX a2 (by simp; omega) (by simp; omega)⟩
        obtain ⟨ql2, hro⟩ := hro
        have HRO := Lib.hid hro
        have hsz := a2.1
        clear a1 a2 a3 hro hP1
        obtain ⟨ab, hab⟩ : ∃ ab, ab = anyOut M (vals Mo f2 r2) := ⟨_, rfl⟩
        rw [← hab]
        go_wp2_with fail
        refine (HR1.out.or n0 HRO.out ⟨hn.2.2.2.1, by omega⟩).mono ?_
        rintro e w2 (⟨_, _, x, hx, hxf⟩ | ⟨_, rfl, b1, b2, b3⟩)
        · exact absurd (HF.out x ((mem_vals Mo f2 r2 HIN2.out x).1 hx)) hxf
        rw [← hab]
        have HR2 := Lib.hid (b1.ext (joinM_vals M Mo f2 r2 HIN2.out)); have HK2 := Lib.hid b2; have HB2 := Lib.hid b3
        clear b1 b2 b3 hab
        have HS2 := Lib.hid (HS1.out.keepX HK2.out (by simp; omega) (by simp; omega))
        cases ab
        all_goals (
          go_wp2_with fail
          go_ret
          refine ⟨ql, _, rfl, HS2.out, HR2.out, .inl rfl, (HK1.out.mono (by simp)).trans (HK2.out.mono (by simp)), HB1.out.trans HB2.out⟩)
      · have hout : ∃ x, Mo x = true ∧ ¬ (f ≤ x ∧ x < f + r) := by
          apply Classical.byContradiction
          intro hc
          apply hfit
          intro x hx
          apply Classical.byContradiction
          intro hc2
          exact hc ⟨x, hx, hc2⟩
        have HF := Lib.hid hout
        clear hfit hout
        go_enter Tryd.func25, Tryd.ntmps25
        go_wp2_with fail
        refine (HS.out.or_out HL.out HSO.out HF.out).mono ?_
        rintro e w1 ⟨rfl, hb⟩
        have HB1 := Lib.hid hb
        have HS1 := Lib.hid (HS.out.below hb)
        have HR1 := Lib.hid (HR.out.below hb)
        have hro : ∃ ql2, RefAt w1 q2 ql2 f2 r2 Mo := by
          obtain ⟨ql2, hro⟩ := HO.out.ref HR.out
          exact ⟨ql2, hro.below hb⟩
        obtain ⟨ql2, hro⟩ := hro
        have HRO := Lib.hid hro
        have hsz := hb.size
        clear hb hro
        go_wp2_with fail
        refine (HR1.out.or n0 HRO.out ⟨hn.2.2.2.1, by omega⟩).mono ?_
        rintro e w2 (⟨rfl, b1, _⟩ | ⟨hal, _⟩)
        · have HB2 := Lib.hid b1
          clear b1
          go_wp2_with fail
          go_ret
          refine ⟨ql, _, rfl, HS1.out.below HB2.out, HR1.out.below HB2.out, .inl rfl, ?_, (HB1.out.mono hn.2.2.2.2).trans (HB2.out.mono (by omega))⟩
          have hbb := below_step HB1.out HB2.out
          exact ⟨hbb.size, fun b hb _ => hbb.block b hb⟩
        · obtain ⟨x, hx, hxf⟩ := HF.out
          exact absurd (hal x ((mem_vals Mo f2 r2 HIN2.out x).2 hx)) hxf
    · have k1b : (kind == 1) = false := by rw [beq_eq_false_iff_ne]; exact k1
      clear k1
      go_enter Tryd.func25, Tryd.ntmps25
      go_wp2_with fail
      refine (HS.out.minus n0 HL.out HOS.out hg0 ⟨hn.2.1, hn.2.2.2.2⟩).mono ?_
      rintro e w1 ⟨rfl, a1, a2, a3⟩
      have HS1 := Lib.hid a1; have HK1 := Lib.hid a2; have HB1 := Lib.hid a3
      have HR1 := Lib.hid (HR.out.keepX a2 (by simp; omega) (by simp; omega))
      have hP1 := HO.out.pair HS.out HR.out a2
      have hsz := a2.1
      clear a1 a2 a3
      obtain ⟨ab, hab⟩ : ∃ ab, ab = anyOut (fun x => !Mo x) (vals M f r) := ⟨_, rfl⟩
      rw [← hab]
      have HAB := Lib.hid hab
      have HP1 := Lib.hid hP1
      clear hab hP1
      go_wp2_with fail
      by_cases hself : q2 = q
      · have hMM : Mo = M := by
          rcases HO.out.2 with ⟨ql2, _, h, _⟩ | ⟨_, h, _⟩
          · exact absurd hself h
          · exact h
        subst hself hMM
        refine (HR1.out.minus_self n0 ⟨hn.2.2.1, by omega⟩).mono ?_
        rintro e w2 ⟨ql', rfl, b0, b1, b2, b3⟩
        rw [← mem_any_vals Mo f r HIN.out, ← HAB.out]
        have HR2 := Lib.hid (b1.ext (M' := fun x => Mo x && !Mo x) (fun x => by simp)); have HK2 := Lib.hid b2; have HB2 := Lib.hid b3
        clear b1 b2 b3
        have HS2 := Lib.hid (HS1.out.keepX HK2.out (by simp; omega) (by simp; omega))
        cases ab
        all_goals (
          go_wp2_with fail
          go_ret
          refine ⟨ql', _, rfl, HS2.out, HR2.out, .inr (by omega), (HK1.out.mono (by simp)).trans (HK2.out.mono (by simp)), HB1.out.trans HB2.out⟩)
      · have ho' : ∃ ql2 f2 r2, RefAt w1 q2 ql2 f2 r2 Mo ∧ ql ≠ q2 ∧ ql ≠ ql2 := by
          rcases HP1.out with h | ⟨h, _⟩
          · exact h
          · exact absurd h hself
        refine (HR1.out.minus_other n0 ho' hself hn.2.2.2.1).mono ?_
        clear ho'
        rintro e w2 ⟨rfl, b1, b2, b3⟩
        rw [← HAB.out]
        have HR2 := Lib.hid b1; have HK2 := Lib.hid b2; have HB2 := Lib.hid b3
        clear b1 b2 b3
        have HS2 := Lib.hid (HS1.out.keepX HK2.out (by simp; omega) (by simp; omega))
        cases ab
        all_goals (
          go_wp2_with fail
          go_ret
          refine ⟨ql, _, rfl, HS2.out, HR2.out, .inl rfl, (HK1.out.mono (by simp)).trans (HK2.out.mono (by simp)), HB1.out.trans HB2.out⟩)

end Go.Proofs.YtfkbkcdiajjljaaDoor.PBitsSteps
