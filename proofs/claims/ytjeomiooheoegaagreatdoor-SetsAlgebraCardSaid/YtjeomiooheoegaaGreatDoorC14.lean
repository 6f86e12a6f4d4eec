/- Parts of the laws of sets and branch: functions of the program, each with the proof of what it answers; the conditions are those of each theorem. -/
import Derived.Test.YtjeomiooheoegaaGreatDoorC13
import Derived.Deep.Cut
import Derived.Deep.DeepCutAuto
namespace Go.Proofs.YtjeomiooheoegaaGreatDoor.PD
open Go.RowKit Go.Proofs.YtjeomiooheoegaaGreatDoorW.PrintWords Go.Proofs.YtjeomiooheoegaaGreatDoorW.PrintLast Go.Proofs.YtjeomiooheoegaaGreatDoorW.PrintMore
set_option linter.unusedVariables false
set_option linter.unusedSimpArgs false
/-! ### lists alike; SetsAlgebra -/
theorem same_l0 (l : List Int) (hl : l.length < 4611686018427387904) : ∀ (d i : Nat), l.length = i + d → jigsawref01_Same.l0 (d + 1) l l (i : Int) = some true
  | 0, i, hd => by rw [jigsawref01_Same.l0, if_neg (by omega)]
  | d + 1, i, hd => by
    rw [jigsawref01_Same.l0]
    rw [if_pos (by omega), if_pos (by omega), if_pos (by omega), if_pos rfl]
    rw [show wrap64 ((i : Int) + 1) = ((i + 1 : Nat) : Int) from IntWalk.wrap64_in _ (by omega)]
    exact same_l0 l hl d (i + 1) (by omega)
theorem same_f (l : List Int) (hl : l.length < 4611686018427387904) : jigsawref01_Same.f (l.length + 1) l l = some true := by
  unfold jigsawref01_Same.f
  rw [if_pos rfl]
  exact same_l0 l hl l.length 0 (by omega)
theorem SameI_ref {v1 v2 : Value} (l : List Int) (w : World) (h1 : LstI w v1 l) (h2 : LstI w v2 l) (hl : l.length ≤ 8000000000000) :
    Calls Tryz.prog 45 #[v1, v2] w fun e w' => e = .returned (.bool true) ∧ Below w.heap.size w w' := by
  obtain ⟨A, c, rfl, hC, hc⟩ := h1
  obtain ⟨A', c', rfl, hC', hc'⟩ := h2
  refine (jigsawref01_Same.calls _ A c l A' c' l true w hC hc hC' hc' (same_f l (by omega))).mono ?_
  rintro e w' ⟨rfl, hd⟩
  exact ⟨rfl, hd.below⟩
theorem cmpS_bound (a b : List Int) : -1 ≤ cmpS a b ∧ cmpS a b ≤ 1 := by
  have := cmpL_bound (asL a) (asL b)
  unfold cmpS
  omega
set_option maxRecDepth 100000 in
set_option maxHeartbeats 16000000 in
theorem algebra_calls {v1 v2 v3 : Value} (a b c : List Int) (w : World) (h1 : LstI w v1 a) (h2 : LstI w v2 b) (h3 : LstI w v3 c) (hd : DomLaid w) :
    Calls Tryz.prog 10 #[v1, v2, v3] w fun e w' => e = .returned (.bool true) ∧ Below w.heap.size w w' := by
  have H1 := Lib.hid (fun W (h : Below w.heap.size w W) => h1.below h)
  have H2 := Lib.hid (fun W (h : Below w.heap.size w W) => h2.below h)
  have H3 := Lib.hid (fun W (h : Below w.heap.size w W) => h3.below h)
  have HD := Lib.hid (fun W (h : Below w.heap.size w W) => hd.below h)
  have HKN := Lib.hid (fun W (h : Below w.heap.size w W) => known_calls W (HD.out W h))
  have HSA := Lib.hid (fun W (h : Below w.heap.size w W) => Set_calls a W (H1.out W h))
  have HTA := Lib.hid (fun W (h : Below w.heap.size w W) => Text_calls a W (H1.out W h) (HD.out W h))
  have HTB := Lib.hid (fun W (h : Below w.heap.size w W) => Text_calls b W (H2.out W h) (HD.out W h))
  have HPA := Lib.hid (fun (q : setS a = true) W (h : Below w.heap.size w W) => Parse_calls (setT (asL a)) (by have := setT_size (asL_set a); omega) W (HD.out W h))
  have HJ := Lib.hid (fun W (h : Below w.heap.size w W) => Join_calls a b W (H1.out W h) (H2.out W h))
  have HM := Lib.hid (fun W (h : Below w.heap.size w W) => Meet_calls a b W (H1.out W h) (H2.out W h))
  have HY := Lib.hid (fun W (h : Below w.heap.size w W) => Sym_calls a b W (H1.out W h) (H2.out W h))
  have HCAB := Lib.hid (fun W (h : Below w.heap.size w W) => Cmp_calls a b W (H1.out W h) (H2.out W h))
  have HCBA := Lib.hid (fun W (h : Below w.heap.size w W) => Cmp_calls b a W (H2.out W h) (H1.out W h))
  have HCBC := Lib.hid (fun W (h : Below w.heap.size w W) => Cmp_calls b c W (H2.out W h) (H3.out W h))
  have HCAC := Lib.hid (fun W (h : Below w.heap.size w W) => Cmp_calls a c W (H1.out W h) (H3.out W h))
  have HL := Lib.hid (fun W vj vm (g1 : LstI W vj (joinS a b)) (g2 : LstI W vm (meetS a b)) => Less_calls (joinS a b) (meetS a b) W g1 g2)
  have HSJ := Lib.hid (fun W vj (g1 : LstI W vj (joinS a b)) => Set_calls (joinS a b) W g1)
  have HSUB := Lib.hid (fun W vm (g1 : LstI W vm (meetS a b)) (h : Below w.heap.size w W) => Sub_calls (meetS a b) a W g1 (H1.out W h))
  have HSUJ := Lib.hid (fun W vj (g1 : LstI W vj (joinS a b)) (h : Below w.heap.size w W) => Sub_calls a (joinS a b) W (H1.out W h) g1)
  have HSAM := Lib.hid (fun W u1 u2 l (g1 : LstI W u1 l) (g2 : LstI W u2 l) (hl : l.length ≤ 200) => SameI_ref l W g1 g2 (by omega))
  have hsl := fun (h : setS (joinS a b) = true) => sym_less a b h
  have hsy : (symS a b).length ≤ 128 := pickS_len _ a b
  have HSL := Lib.hid hsl; have HSYL := Lib.hid hsy
  rw [sub_meet] at HSUB
  have HSJB := Lib.hid (fun h : setS (joinS a b) = true => sub_join a b h)
  have hneg : cmpS b a = -cmpS a b := cmpL_neg (asL b) (asL a)
  have hz : cmpS a b = 0 → asL a = asL b := fun h => cmpL_zero (asL a) (asL b) h
  have htr : cmpS a b ≤ 0 → cmpS b c ≤ 0 → cmpS a c ≤ 0 := cmpL_trans (asL a) (asL b) (asL c)
  have hbd := cmpS_bound a b
  rw [hneg] at HCBA
  obtain ⟨A1, c1, e1⟩ := h1.form
  obtain ⟨A2, c2, e2⟩ := h2.form
  obtain ⟨A3, c3, e3⟩ := h3.form
  subst e1 e2 e3
  clear h1 h2 h3 hd hneg hsl hsy
  generalize cmpS a b = p at *
  generalize cmpS b c = q at *
  generalize cmpS a c = t at *
  have HZ := Lib.hid hz
  have hw1 : IntKind.i64.wrap (- -p) = p := by rw [IntWalk.i64_in _ (by omega)]; omega
  have hw2 : IntKind.i64.wrap p = p := IntWalk.i64_in _ (by omega)
  have HTR := Lib.hid htr
  clear hz htr hbd
  obtain ⟨ba, hba⟩ : ∃ x, setS a = x := ⟨_, rfl⟩
  obtain ⟨bj, hbj⟩ : ∃ x, setS (joinS a b) = x := ⟨_, rfl⟩
  rw [hba] at HSA
  rw [hbj] at HSJ
  have HBA := Lib.hid hba; have HBJ := Lib.hid hbj
  clear hba hbj
  go_enter Tryz.func10, Tryz.ntmps10
  go_wp2_with fail
  refine (HSA.out _ (Below.refl _ _)).mono ?_
  rintro e w1 ⟨rfl, hb1⟩
  have HB := Lib.hid hb1
  clear hb1
  go_upto_if 11 with fail
  go_cut [] from 7 (fun wc => Hid (Below w.heap.size w wc))
  case first =>
    cases ba with
    | false =>
      go_wp2_with fail
      go_meet
      case rel => exact HB
    | true =>
      go_wp2_with fail
      refine (HTA.out _ HB.out).mono ?_
      rintro e w2 ⟨rfl, hb2⟩
      have HB2 := Lib.hid (below_step HB.out hb2)
      have HP := Lib.hid (HPA.out HBA.out _ HB2.out)
      rw [asL_of HBA.out, parse_set HBA.out] at HP
      rw [asL_of HBA.out]
      generalize setT a = ta at *
      clear hb2
      go_wp2_with fail
      refine HP.out.mono ?_
      rintro e w3 ⟨vx, rfl, hO3, hb3⟩
      have HB3 := Lib.hid (below_step HB2.out hb3)
      have HSM := Lib.hid (HSAM.out _ _ _ a hO3.lst (H1.out _ HB3.out) (by have := set_len HBA.out; omega))
      clear hb3 hO3
      go_wp2_with fail
      refine HSM.out.mono ?_
      rintro e w4 ⟨rfl, hb4⟩
      have HB4 := Lib.hid (below_step HB3.out hb4)
      clear hb4
      go_wp2_with fail
      go_meet
      case rel => exact HB4
  case rest =>
    go_wp2_with fail
    refine (HJ.out _ hcut.out).mono ?_
    rintro e w2 ⟨vj, rfl, hOj, hb2⟩
    obtain ⟨Aj, cj, ej⟩ := hOj.lst.form
    subst ej
    have HOJ := Lib.hid hOj.lst; have HB2 := Lib.hid (below_step hcut.out hb2)
    clear hb2 hOj
    go_upto_region 6 with fail
    go_cut [42] from 29 (fun v42 wc => v42 = .bool false ∧ Hid (Below w2.heap.size w2 wc))
    case first =>
      go_wp2_with fail
      refine (HSJ.out _ _ HOJ.out).mono ?_
      rintro e w3 ⟨rfl, hb3⟩
      have HBL := Lib.hid hb3
      replace HOJ := Lib.hid (HOJ.out.below hb3); replace HB2 := Lib.hid (below_step HB2.out hb3)
      clear hb3
      cases bj with
      | false =>
        go_wp2_with fail
        go_meet
        case rel => exact ⟨rfl, HBL⟩
      | true =>
        go_wp2_with fail
        refine (HM.out _ HB2.out).mono ?_
        rintro e w4 ⟨vm, rfl, hOm, hb4⟩
        obtain ⟨Am, cm, em⟩ := hOm.lst.form
        subst em
        have HOM := Lib.hid hOm.lst
        replace HBL := Lib.hid (below_step HBL.out hb4); replace HOJ := Lib.hid (HOJ.out.below hb4); replace HB2 := Lib.hid (below_step HB2.out hb4)
        clear hb4 hOm
        go_wp2_with fail
        refine (HL.out _ _ _ HOJ.out HOM.out).mono ?_
        rintro e w5 ⟨vl, rfl, hOl, hb5⟩
        rw [HSL.out HBJ.out] at hOl
        have HOL := Lib.hid hOl.lst
        replace HBL := Lib.hid (below_step HBL.out hb5); replace HB2 := Lib.hid (below_step HB2.out hb5)
        clear hb5 hOl
        go_wp2_with fail
        refine (HY.out _ HB2.out).mono ?_
        rintro e w6 ⟨vy, rfl, hOy, hb6⟩
        have HSM := Lib.hid (HSAM.out _ _ _ _ (HOL.out.below hb6) hOy.lst (by have := HSYL.out; omega))
        replace HBL := Lib.hid (below_step HBL.out hb6); replace HB2 := Lib.hid (below_step HB2.out hb6)
        clear hb6 hOy
        go_wp2_with fail
        refine HSM.out.mono ?_
        rintro e w7 ⟨rfl, hb7⟩
        replace HBL := Lib.hid (below_step HBL.out hb7)
        clear hb7
        go_wp2_with fail
        go_meet
        case rel => exact ⟨rfl, HBL⟩
    case rest =>
      obtain ⟨rfl, hB3⟩ := hcut
      replace HOJ := Lib.hid (HOJ.out.below hB3.out)
      replace HB2 := Lib.hid (below_step HB2.out hB3.out)
      clear hB3
      go_upto_region 8 with fail
      go_cut [68] from 43 (fun v68 wd => v68 = .bool false ∧ Hid (Below wc.heap.size wc wd))
      case first =>
        go_wp2_with fail
        refine (HCAB.out _ HB2.out).mono ?_
        rintro e w3 ⟨rfl, hb3⟩
        have HBL := Lib.hid hb3
        replace HB2 := Lib.hid (below_step HB2.out hb3)
        clear hb3
        go_wp2_with fail
        refine (HCBA.out _ HB2.out).mono ?_
        rintro e w4 ⟨rfl, hb4⟩
        replace HBL := Lib.hid (below_step HBL.out hb4); replace HB2 := Lib.hid (below_step HB2.out hb4)
        clear hb4
        go_wp2_with fail
        refine (HCAB.out _ HB2.out).mono ?_
        rintro e w5 ⟨rfl, hb5⟩
        replace HBL := Lib.hid (below_step HBL.out hb5); replace HB2 := Lib.hid (below_step HB2.out hb5)
        clear hb5
        by_cases hp : p ≤ 0
        · have hpb : decide (p ≤ 0) = true := decide_eq_true hp
          have HPP := Lib.hid hp
          clear hp
          go_wp2_with fail
          refine (HCBC.out _ HB2.out).mono ?_
          rintro e w6 ⟨rfl, hb6⟩
          replace HBL := Lib.hid (below_step HBL.out hb6); replace HB2 := Lib.hid (below_step HB2.out hb6)
          clear hb6
          by_cases hq : q ≤ 0
          · have hqb : decide (q ≤ 0) = true := decide_eq_true hq
            have htb : decide (0 < t) = false := decide_eq_false (by have := HTR.out HPP.out hq; omega)
            clear hq
            go_wp2_with fail
            refine (HCAC.out _ HB2.out).mono ?_
            rintro e w7 ⟨rfl, hb7⟩
            replace HBL := Lib.hid (below_step HBL.out hb7)
            clear hb7
            go_wp2_with fail
            go_meet
            case rel => exact ⟨rfl, HBL⟩
          · have hqb : decide (q ≤ 0) = false := decide_eq_false hq
            clear hq
            go_wp2_with fail
            go_meet
            case rel => exact ⟨rfl, HBL⟩
        · have hpb : decide (p ≤ 0) = false := decide_eq_false hp
          clear hp
          go_wp2_with fail
          go_meet
          case rel => exact ⟨rfl, HBL⟩
      case rest =>
        obtain ⟨rfl, hB4⟩ := hcut
        replace HOJ := Lib.hid (HOJ.out.below hB4.out)
        replace HB2 := Lib.hid (below_step HB2.out hB4.out)
        clear hB4
        go_upto_region 10 with fail
        go_cut [79] from 69 (fun v79 wd => v79 = .bool false ∧ Hid (Below wc.heap.size wc wd))
        case first =>
          go_wp2_with fail
          refine (HCAB.out _ HB2.out).mono ?_
          rintro e w3 ⟨rfl, hb3⟩
          have HBL := Lib.hid hb3
          replace HB2 := Lib.hid (below_step HB2.out hb3)
          clear hb3
          by_cases hp : p = 0
          · have hpb : (p == 0) = true := by rw [hp]; rfl
            rw [← HZ.out hp] at HTB
            clear hp
            generalize setT (asL a) = ta at *
            go_wp2_with fail
            refine (HTA.out _ HB2.out).mono ?_
            rintro e w4 ⟨rfl, hb4⟩
            replace HBL := Lib.hid (below_step HBL.out hb4); replace HB2 := Lib.hid (below_step HB2.out hb4)
            clear hb4
            go_wp2_with fail
            refine (HTB.out _ HB2.out).mono ?_
            rintro e w5 ⟨rfl, hb5⟩
            replace HBL := Lib.hid (below_step HBL.out hb5)
            clear hb5
            go_wp2_with fail
            go_meet
            case rel => exact ⟨rfl, HBL⟩
          · have hpb : (p == 0) = false := by rw [beq_eq_false_iff_ne]; exact hp
            clear hp
            go_wp2_with fail
            go_meet
            case rel => exact ⟨rfl, HBL⟩
        case rest =>
          obtain ⟨rfl, hB5⟩ := hcut
          replace HOJ := Lib.hid (HOJ.out.below hB5.out)
          replace HB2 := Lib.hid (below_step HB2.out hB5.out)
          clear hB5
          go_wp2_with fail
          refine (HM.out _ HB2.out).mono ?_
          rintro e w3 ⟨vm, rfl, hOm, hb3⟩
          obtain ⟨Am, cm, em⟩ := hOm.lst.form
          subst em
          have HOM := Lib.hid hOm.lst
          replace HOJ := Lib.hid (HOJ.out.below hb3); replace HB2 := Lib.hid (below_step HB2.out hb3)
          clear hb3 hOm
          go_wp2_with fail
          refine (HSUB.out _ _ HOM.out HB2.out).mono ?_
          rintro e w4 ⟨rfl, hb4⟩
          replace HOJ := Lib.hid (HOJ.out.below hb4); replace HB2 := Lib.hid (below_step HB2.out hb4)
          clear hb4 HOM
          go_wp2_with fail
          refine (HSJ.out _ _ HOJ.out).mono ?_
          rintro e w5 ⟨rfl, hb5⟩
          replace HOJ := Lib.hid (HOJ.out.below hb5); replace HB2 := Lib.hid (below_step HB2.out hb5)
          clear hb5
          cases bj with
          | false =>
            go_wp2_with fail
            refine (HKN.out _ HB2.out).mono ?_
            rintro e w6 ⟨rfl, hb6⟩
            go_wp2_with fail
            go_ret
            exact ⟨rfl, below_step HB2.out hb6⟩
          | true =>
            have hsj := HSJB.out HBJ.out
            rw [hsj] at HSUJ
            clear hsj
            go_wp2_with fail
            refine (HSUJ.out _ _ HOJ.out HB2.out).mono ?_
            rintro e w6 ⟨rfl, hb6⟩
            replace HB2 := Lib.hid (below_step HB2.out hb6)
            clear hb6
            go_wp2_with fail
            refine (HKN.out _ HB2.out).mono ?_
            rintro e w7 ⟨rfl, hb7⟩
            go_wp2_with fail
            go_ret
            exact ⟨rfl, below_step HB2.out hb7⟩

end Go.Proofs.YtjeomiooheoegaaGreatDoor.PD
