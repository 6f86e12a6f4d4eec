/- Parts of the laws of bits: functions of the program, each with the proof of what it answers; the conditions are those of each theorem. -/
import Derived.Test.YtfkbkcdiajjljaaDoorBzcc
import Derived.Test.YtfkbkcdiajjljaaDoorBx
import Derived.LaidEql
namespace Go.Proofs.YtfkbkcdiajjljaaDoor.PBitsSteps
open Go.RowKit Go.Proofs.YtfkbkcdiajjljaaDoorW.PrintWords Go.Proofs.YtfkbkcdiajjljaaDoorW.PrintLast Go.Proofs.YtfkbkcdiajjljaaDoorW.PrintMore
set_option linter.unusedVariables false
set_option linter.unusedSimpArgs false
/-! ### the reference's set is turned -/
theorem RefAt.drawn {w : World} {q ql : Nat} {f r : Int} {M : Int → Bool} (h : RefAt w q ql f r M) (m : Nat) : RefAt (w.drewN m) q ql f r M := h.below (Drawn0.below ⟨⟨m, rfl⟩⟩)
set_option maxHeartbeats 8000000 in
theorem RefAt.putc {w : World} {q ql : Nat} {f r : Int} {M : Int → Bool} (h : RefAt w q ql f r M) (v : Int) (hv : f ≤ v ∧ v < f + r) (b : Bool) :
    Calls Tryd.prog 54 #[refP q, .int .i64 v, .bool b] w fun e w' => e = .returned (.bool (M v != b)) ∧ ∃ m, w' = (w.drewN m).setCell ⟨ql, (v - f).toNat, none⟩ (.bool b) := by
  obtain ⟨c, cs, h1, h2, h3, h4, h5, h6, h7⟩ := h
  have ew : wrap64 (v - f) = v - f := IntWalk.wrap64_in _ (by omega)
  have c3' : w.cell? ⟨ql, (v - f).toNat, none⟩ = some (.bool (M v)) := by
    refine (blk_cell h2 _).trans ((h4 (v - f).toNat (by omega)).trans ?_)
    rw [show f + ((v - f).toNat : Int) = v by omega]
  have H1 := Lib.hid h1; have H2 := Lib.hid h2
  have c0 := refB_first h1; have c1 := refB_row h1
  have c3 := c3'
  have hfz := blk_frozen h2 (v - f).toNat
  have hp0 : 0 ≤ v - f := by omega
  have hpn : v - f < (r.toNat : Int) := by omega
  clear h1 h2 h4 h7 c3'
  generalize M v = mv at *
  unfold refP
  go_enter Tryd.func54, Tryd.ntmps54
  go_wp2_with fail
  go_quiet (fail)
  go_wp2_with fail
  have d0 : (w.drewN nq).cell? ⟨q, 0, none⟩ = some (.int .i64 f) := c0
  have d1 : (w.drewN nq).cell? ⟨q, 1, none⟩ = some (.slice (some ⟨ql, 0, none⟩) r.toNat c) := c1
  have d3 : (w.drewN nq).cell? ⟨ql, (v - f).toNat, none⟩ = some (.bool mv) := c3
  have d4 : (w.drewN nq).frozen? ⟨ql, (v - f).toNat, none⟩ = false := hfz
  have HWD := Lib.hid (show ∃ k, w.drewN nq = w.drewN k from ⟨_, rfl⟩)
  clear c0 c1 c3 hfz
  generalize w.drewN nq = W at d0 d1 d3 d4 HWD ⊢
  go_still_tail 11, (by kernel_rfl)
  repeat still_step
  try refine wpStill_nil ?_
  change wpList _ _ _ _ _ W.drew
  have c4 : W.drew.cell? ⟨ql, (v - f).toNat, none⟩ = some (.bool mv) := d3
  have c5 : W.drew.frozen? ⟨ql, (v - f).toNat, none⟩ = false := d4
  obtain ⟨kw, hkw⟩ := HWD.out
  have HWE := Lib.hid (show ∃ k, W.drew = w.drewN k from ⟨kw + 1, by rw [hkw]; rfl⟩)
  generalize W.drew = w2 at c4 c5 HWE ⊢
  clear hkw
  go_wp2_with fail
  go_ret
  obtain ⟨k, hk⟩ := HWE.out
  exact ⟨rfl, k, by rw [hk]⟩
set_option maxHeartbeats 8000000 in
theorem RefAt.add {w : World} {q ql : Nat} {f r : Int} {M : Int → Bool} (h : RefAt w q ql f r M) (v : Int) (hv : f ≤ v ∧ v < f + r) :
    Calls Tryd.prog 22 #[refP q, .int .i64 v] w fun e w' => e = .returned (.tuple #[.bool (!M v), .int .i64 0]) ∧ ∃ m, w' = (w.drewN m).setCell ⟨ql, (v - f).toNat, none⟩ (.bool true) := by
  have HR := Lib.hid h
  obtain ⟨c, cs, h1, h2, h3, h4, h5, h6, h7⟩ := h
  have hcf := refFits q f ql r.toNat c v w h1 (by omega) (by omega)
  rw [decide_eq_true (show f ≤ v ∧ v < f + (r.toNat : Int) by omega)] at hcf
  have HCF := Lib.hid hcf
  clear h1 h2 h4 h7 hcf
  have U : refP q = .pointer (some ⟨q, 0, none⟩) := rfl
  rw [U]
  go_enter Tryd.func22, Tryd.ntmps22
  go_wp2_with fail
  refine HCF.out.mono ?_
  rintro e w1 ⟨rfl, ⟨⟨m1, rfl⟩⟩⟩
  go_wp2_with fail
  refine ((HR.out.drawn m1).putc v hv true).mono ?_
  rintro e w2 ⟨rfl, m2, rfl⟩
  go_wp2_with fail
  go_ret2
  exact ⟨by cases M v <;> rfl, m1 + m2, rfl⟩
set_option maxHeartbeats 8000000 in
theorem RefAt.add_out {w : World} {q ql : Nat} {f r : Int} {M : Int → Bool} (h : RefAt w q ql f r M) (v : Int) (hv : ¬ (f ≤ v ∧ v < f + r)) :
    Calls Tryd.prog 22 #[refP q, .int .i64 v] w fun e w' => e = .returned (.tuple #[.bool false, .int .i64 20]) ∧ Drawn0 w w' := by
  obtain ⟨c, cs, h1, h2, h3, h4, h5, h6, h7⟩ := h
  have hcf := refFits q f ql r.toNat c v w h1 (by omega) (by omega)
  rw [decide_eq_false (show ¬ (f ≤ v ∧ v < f + (r.toNat : Int)) by omega)] at hcf
  have HCF := Lib.hid hcf
  clear h1 h2 h4 h7 hcf hv
  have U : refP q = .pointer (some ⟨q, 0, none⟩) := rfl
  rw [U]
  go_enter Tryd.func22, Tryd.ntmps22
  go_wp2_with fail
  refine HCF.out.mono ?_
  rintro e w1 ⟨rfl, ⟨⟨m1, rfl⟩⟩⟩
  go_wp2_with fail
  go_ret2
  exact ⟨rfl, ⟨⟨_, rfl⟩⟩⟩
set_option maxHeartbeats 8000000 in
theorem RefAt.del {w : World} {q ql : Nat} {f r : Int} {M : Int → Bool} (h : RefAt w q ql f r M) (v : Int) (hv : f ≤ v ∧ v < f + r) :
    Calls Tryd.prog 24 #[refP q, .int .i64 v] w fun e w' => e = .returned (.tuple #[.bool (M v), .int .i64 0]) ∧ ∃ m, w' = (w.drewN m).setCell ⟨ql, (v - f).toNat, none⟩ (.bool false) := by
  have HR := Lib.hid h
  obtain ⟨c, cs, h1, h2, h3, h4, h5, h6, h7⟩ := h
  have hcf := refFits q f ql r.toNat c v w h1 (by omega) (by omega)
  rw [decide_eq_true (show f ≤ v ∧ v < f + (r.toNat : Int) by omega)] at hcf
  have HCF := Lib.hid hcf
  clear h1 h2 h4 h7 hcf
  have U : refP q = .pointer (some ⟨q, 0, none⟩) := rfl
  rw [U]
  go_enter Tryd.func24, Tryd.ntmps24
  go_wp2_with fail
  refine HCF.out.mono ?_
  rintro e w1 ⟨rfl, ⟨⟨m1, rfl⟩⟩⟩
  go_wp2_with fail
  refine ((HR.out.drawn m1).putc v hv false).mono ?_
  rintro e w2 ⟨rfl, m2, rfl⟩
  go_wp2_with fail
  go_ret2
  exact ⟨by cases M v <;> rfl, m1 + m2, rfl⟩
set_option maxHeartbeats 8000000 in
theorem RefAt.del_out {w : World} {q ql : Nat} {f r : Int} {M : Int → Bool} (h : RefAt w q ql f r M) (v : Int) (hv : ¬ (f ≤ v ∧ v < f + r)) :
    Calls Tryd.prog 24 #[refP q, .int .i64 v] w fun e w' => e = .returned (.tuple #[.bool false, .int .i64 0]) ∧ Drawn0 w w' := by
  obtain ⟨c, cs, h1, h2, h3, h4, h5, h6, h7⟩ := h
  have hcf := refFits q f ql r.toNat c v w h1 (by omega) (by omega)
  rw [decide_eq_false (show ¬ (f ≤ v ∧ v < f + (r.toNat : Int)) by omega)] at hcf
  have HCF := Lib.hid hcf
  clear h1 h2 h4 h7 hcf hv
  have U : refP q = .pointer (some ⟨q, 0, none⟩) := rfl
  rw [U]
  go_enter Tryd.func24, Tryd.ntmps24
  go_wp2_with fail
  refine HCF.out.mono ?_
  rintro e w1 ⟨rfl, ⟨⟨m1, rfl⟩⟩⟩
  go_wp2_with fail
  go_ret2
  exact ⟨rfl, ⟨⟨_, rfl⟩⟩⟩

/-! ### the reference's And, Minus -/
theorem RefAt.inn {w : World} {q ql : Nat} {f r : Int} {M : Int → Bool} (h : RefAt w q ql f r M) : (0 < r ∧ r ≤ 65536 ∧ -1000000 ≤ f ∧ f + r ≤ 1000001) ∧ ∀ v, M v = true → f ≤ v ∧ v < f + r := by
  obtain ⟨_, _, _, _, _, _, _, h1, h2⟩ := h
  exact ⟨h1, h2⟩
theorem RefAt.keepX {w w' : World} {q ql : Nat} {f r : Int} {M : Int → Bool} {ex : List Nat} (h : RefAt w q ql f r M) (hk : keepX ex w w') (h1 : q ∉ ex) (h2 : ql ∉ ex) : RefAt w' q ql f r M :=
  h.keep (hk.2 q h.lt.1 h1) (hk.2 ql h.lt.2.1 h2)
theorem keepX_drawn (ex : List Nat) (W : World) (m : Nat) : keepX ex W (W.drewN m) := ⟨Nat.le_refl _, fun _ _ _ => rfl⟩
theorem keepX_set (b i : Nat) (u : Value) (W : World) : keepX [b] W (W.setCell ⟨b, i, none⟩ u) := by
  refine ⟨by simp [World.setCell], fun c _ hc => Below.heap_setCell W ⟨b, i, none⟩ u c (fun e => hc ?_)⟩
  subst e
  simp
/-- where two sets are: another one, or the very one -/
def Pair (w : World) (q ql q2 : Nat) (M Mo : Int → Bool) : Prop := (∃ ql2 f2 r2, RefAt w q2 ql2 f2 r2 Mo ∧ ql ≠ q2 ∧ ql ≠ ql2) ∨ (q2 = q ∧ Mo = M)
theorem Pair.keep {w wr : World} {q ql q2 : Nat} {f r : Int} {M Mo M' : Int → Bool} (h : Pair w q ql q2 M Mo) (hk : PBitsSteps.keepX [ql] w wr) (hr : RefAt wr q ql f r M') (x : Int) (hx : q2 = q → Mo = M → M' x = Mo x) :
    Calls Tryd.prog 52 #[refP q2, .int .i64 x] wr fun e w' => e = .returned (.bool (Mo x)) ∧ Drawn0 wr w' := by
  rcases h with ⟨ql2, f2, r2, h, h1, h2⟩ | ⟨rfl, rfl⟩
  · exact (h.keepX hk (by simpa using h1.symm) (by simpa using h2.symm)).has x
  · have := hr.has x
    rw [hx rfl rfl] at this
    exact this
def cutM (M K : Int → Bool) (f : Int) (k : Nat) (x : Int) : Bool := M x && (K x || decide (f + k ≤ x))
theorem cutM_zero (M K : Int → Bool) (f : Int) (hin : ∀ x, M x = true → f ≤ x) (x : Int) : M x = cutM M K f 0 x := by
  unfold cutM
  cases hm : M x with
  | false => rfl
  | true => rw [decide_eq_true (by have := hin x hm; omega)]; simp
theorem cutM_at (M K : Int → Bool) (f : Int) (k : Nat) : cutM M K f k (f + k) = M (f + k) := by unfold cutM; simp
theorem cutM_same (M K : Int → Bool) (f : Int) (k : Nat) (h : M (f + k) = false ∨ K (f + k) = true) (x : Int) : cutM M K f k x = cutM M K f (k + 1) x := by
  unfold cutM
  by_cases e : x = f + k
  · subst e
    rcases h with h | h <;> simp [h]
  · congr 2
    rw [Bool.eq_iff_iff, decide_eq_true_iff, decide_eq_true_iff]
    omega
theorem cutM_drop (M K : Int → Bool) (f : Int) (k : Nat) (h : K (f + k) = false) (x : Int) : (if x = f + k then false else cutM M K f k x) = cutM M K f (k + 1) x := by
  unfold cutM
  by_cases e : x = f + k
  · subst e
    rw [if_pos rfl, h, decide_eq_false (by omega)]
    simp
  · rw [if_neg e]
    congr 2
    rw [Bool.eq_iff_iff, decide_eq_true_iff, decide_eq_true_iff]
    omega
theorem cutM_all (M K : Int → Bool) (f : Int) (n : Nat) (hin : ∀ x, M x = true → x < f + n) (x : Int) : cutM M K f n x = (M x && K x) := by
  unfold cutM
  cases hm : M x with
  | false => rfl
  | true => rw [decide_eq_false (by have := hin x hm; omega)]; simp
theorem anyOut_snoc (K : Int → Bool) (l : List Int) (x : Int) : anyOut K (l ++ [x]) = (anyOut K l || !K x) := by
  simp [anyOut]
set_option maxRecDepth 100000 in
set_option maxHeartbeats 16000000 in
theorem RefAt.and {w : World} {q ql q2 : Nat} {f r : Int} {M Mo : Int → Bool} (n0 : Nat) (h : RefAt w q ql f r M) (ho : Pair w q ql q2 M Mo) (hn : n0 ≤ ql) :
    Calls Tryd.prog 55 #[refP q, refP q2] w fun e w' => e = .returned (.bool (anyOut Mo (vals M f r))) ∧ RefAt w' q ql f r (fun x => M x && Mo x) ∧ PBitsSteps.keepX [ql] w w' ∧ Below n0 w w' := by
  obtain ⟨hbd, hin⟩ := h.inn
  obtain ⟨n, rfl⟩ : ∃ n : Nat, r = (n : Int) := ⟨r.toNat, by omega⟩
  have HIN := Lib.hid hin; have HR := Lib.hid h; have HO := Lib.hid ho
  clear hin h ho
  have U : refP q = .pointer (some ⟨q, 0, none⟩) := rfl
  have U2 : refP q2 = .pointer (some ⟨q2, 0, none⟩) := rfl
  rw [U, U2]
  go_enter Tryd.func55, Tryd.ntmps55
  go_wp2_with fail
  go_loopw [5, 6, 7] (fun a i _ wr => ∃ k : Nat, i = .int .i64 k ∧ k ≤ n ∧ a = .bool (anyOut Mo (valsTo M f k)) ∧ Hid (RefAt wr q ql f n (cutM M Mo f k)) ∧ Hid (PBitsSteps.keepX [ql] w wr) ∧ Hid (Below n0 w wr))
    (fun _ i _ _ => n - (intOf i).toNat)
  case atStart => exact ⟨0, rfl, by omega, rfl, Lib.hid (HR.out.ext (cutM_zero M Mo f (fun x hx => (HIN.out x hx).1))), Lib.hid (keepX.refl _ _), Lib.hid (Below.refl _ _)⟩
  case round =>
    obtain ⟨k, rfl, hk, rfl, hS, hK, hB⟩ := hrel
    by_cases hkn : k < n
    · have hhas := HO.out.keep hK.out hS.out (f + k) (fun e1 e2 => by subst e2; exact cutM_at _ _ _ _)
      have hput := hS.out.put (f + k) (by omega) false
      have hstay := cutM_same M Mo f k
      have hdrop := cutM_drop M Mo f k
      rw [show f + (k : Int) - f = (k : Int) by omega, Int.toNat_natCast] at hput
      obtain ⟨c, cs, h1, h2, h3, h4, h5, h6, h7⟩ := hS.out
      have c0 := refB_first h1; have c1 := refB_row h1
      rw [Int.toNat_natCast] at c1
      have c3 := (blk_cell h2 k).trans (h4 k (by omega))
      rw [cutM_at] at c3
      have hfz := blk_frozen h2 k
      have ef : wrap64 (f + (k : Int)) = f + k := IntWalk.wrap64_in _ (by omega)
      have hv := valsTo_succ M f k
      have HHAS := Lib.hid hhas; have HPUT := Lib.hid hput; have HST := Lib.hid hstay; have HDR := Lib.hid hdrop
      clear h1 h2 h4 h7 hhas hput hstay hdrop
      cases hm : M (f + k) with
      | false =>
        rw [hm] at c3 hv
        rw [if_neg (by decide), List.append_nil] at hv
        have HV := Lib.hid hv; have HM := Lib.hid hm
        clear hv hm
        go_wp2_with fail
        go_roundw
        case rel => exact ⟨k + 1, by go_num, by omega, by rw [HV.out], Lib.hid (hS.out.ext (HST.out (.inl HM.out))), hK, hB⟩
        case measure => simp [intOf]; omega
      | true =>
        rw [hm] at c3 hv
        rw [if_pos rfl] at hv
        have HV := Lib.hid hv
        clear hv hm
        cases hmo : Mo (f + k) with
        | true =>
          rw [hmo] at HHAS
          have HMO := Lib.hid hmo
          clear hmo
          go_wp2_with fail
          refine HHAS.out.mono ?_
          rintro e w1 ⟨rfl, ⟨⟨m, rfl⟩⟩⟩
          go_wp2_with fail
          go_roundw
          case rel => exact ⟨k + 1, by go_num, by omega, by rw [HV.out, anyOut_snoc, HMO.out]; simp, Lib.hid ((hS.out.drawn m).ext (HST.out (.inr HMO.out))), Lib.hid (hK.out.trans (keepX_drawn _ _ m)), Lib.hid (pw_below_drewN hB.out m)⟩
          case measure => simp [intOf]; omega
        | false =>
          rw [hmo] at HHAS
          have HMO := Lib.hid hmo
          clear hmo
          go_wp2_with fail
          refine HHAS.out.mono ?_
          rintro e w1 ⟨rfl, ⟨⟨m, rfl⟩⟩⟩
          go_wp2_with fail
          go_roundw
          case rel =>
            refine ⟨k + 1, by go_num, by omega, by rw [HV.out, anyOut_snoc, HMO.out]; simp, Lib.hid ?_, Lib.hid ((hK.out.trans (keepX_drawn _ _ m)).trans (keepX_set _ _ _ _)), Lib.hid ((pw_below_drewN hB.out m).setCell (p := ⟨ql, k, none⟩) hn _)⟩
            have := (hS.out.drawn m).put (f + k) (by omega) false
            rw [show f + (k : Int) - f = (k : Int) by omega, Int.toNat_natCast] at this
            exact this.ext (HDR.out HMO.out)
          case measure => simp [intOf]; omega
    · obtain rfl : k = n := by omega
      obtain ⟨c, cs, h1, h2, h3, h4, h5, h6, h7⟩ := hS.out
      have c0 := refB_first h1; have c1 := refB_row h1
      rw [Int.toNat_natCast] at c1
      clear h1 h2 h4 h7
      go_wp2_with fail
      go_ret
      exact ⟨rfl, hS.out.ext (cutM_all M Mo f k (fun x hx => (HIN.out x hx).2)), hK.out, hB.out⟩

/-! ### the reference's Minus, Or -/
theorem ref_eqIn_same (d a : Nat) (W : World) : (Op.equalIn (d + 1) 37 (.pointer (some ⟨a, 0, none⟩)) (.pointer (some ⟨a, 0, none⟩))).run Tryd.prog W = .ok true W := by
  have h := Tryd.underlying37
  simp [Op.equalIn, run_underlying h, run_sameAddr_same]
theorem ref_same (a : Nat) (W : World) : (binOp .eql 37 (.pointer (some ⟨a, 0, none⟩)) (.pointer (some ⟨a, 0, none⟩))).run Tryd.prog W = .ok (.bool true) W ∧ (binOp .neq 37 (.pointer (some ⟨a, 0, none⟩)) (.pointer (some ⟨a, 0, none⟩))).run Tryd.prog W = .ok (.bool false) W := by
  have h1 : (Op.equal 37 (.pointer (some ⟨a, 0, none⟩)) (.pointer (some ⟨a, 0, none⟩))).run Tryd.prog W = .ok true W := ref_eqIn_same 9999 a W
  constructor <;> (simp only [binOp]; simp [h1])
theorem ref_eqIn_other (d : Nat) {a b : Nat} {W : World} {ca cb : Array Value} {ta tb : TypeId} (hne : a ≠ b) (ha : W.heap[a]? = some (.cells ca ta (0, 0))) (hb : W.heap[b]? = some (.cells cb tb (0, 0))) : (Op.equalIn (d + 1) 37 (.pointer (some ⟨a, 0, none⟩)) (.pointer (some ⟨b, 0, none⟩))).run Tryd.prog W = .ok false W := by
  have h := Tryd.underlying37
  have h2 := run_sameAddr_other (P := Tryd.prog) W (a := ⟨a, 0, none⟩) (b := ⟨b, 0, none⟩) (fun e => hne (by injection e)) ha hb
  simp [Op.equalIn, run_underlying h, h2]
theorem ref_other {a b : Nat} {W : World} {ca cb : Array Value} {ta tb : TypeId} (hne : a ≠ b) (ha : W.heap[a]? = some (.cells ca ta (0, 0))) (hb : W.heap[b]? = some (.cells cb tb (0, 0))) : (binOp .eql 37 (.pointer (some ⟨a, 0, none⟩)) (.pointer (some ⟨b, 0, none⟩))).run Tryd.prog W = .ok (.bool false) W ∧ (binOp .neq 37 (.pointer (some ⟨a, 0, none⟩)) (.pointer (some ⟨b, 0, none⟩))).run Tryd.prog W = .ok (.bool true) W := by
  have h1 : (Op.equal 37 (.pointer (some ⟨a, 0, none⟩)) (.pointer (some ⟨b, 0, none⟩))).run Tryd.prog W = .ok false W := ref_eqIn_other 9999 hne ha hb
  constructor <;> (simp only [binOp]; simp [h1])
set_option maxRecDepth 100000 in
set_option maxHeartbeats 16000000 in
theorem RefAt.minus_other {w : World} {q ql q2 : Nat} {f r : Int} {M Mo : Int → Bool} (n0 : Nat) (h : RefAt w q ql f r M) (ho : ∃ ql2 f2 r2, RefAt w q2 ql2 f2 r2 Mo ∧ ql ≠ q2 ∧ ql ≠ ql2) (hqq : q2 ≠ q) (hn : n0 ≤ ql) :
    Calls Tryd.prog 57 #[refP q, refP q2] w fun e w' => e = .returned (.bool (anyOut (fun x => !Mo x) (vals M f r))) ∧ RefAt w' q ql f r (fun x => M x && !Mo x) ∧ PBitsSteps.keepX [ql] w w' ∧ Below n0 w w' := by
  obtain ⟨hbd, hin⟩ := h.inn
  obtain ⟨n, rfl⟩ : ∃ n : Nat, r = (n : Int) := ⟨r.toNat, by omega⟩
  have HIN := Lib.hid hin; have HR := Lib.hid h; have HO : Hid (Pair w q ql q2 M Mo) := Lib.hid (.inl ho)
  have HO0 := Lib.hid ho
  clear hin h ho
  have U : refP q = .pointer (some ⟨q, 0, none⟩) := rfl
  have U2 : refP q2 = .pointer (some ⟨q2, 0, none⟩) := rfl
  rw [U, U2]
  have HOTH : Hid (∀ W, PBitsSteps.keepX [ql] w W → (binOp .eql 37 (.pointer (some ⟨q2, 0, none⟩)) (.pointer (some ⟨q, 0, none⟩))).run Tryd.prog W = .ok (.bool false) W ∧ (binOp .neq 37 (.pointer (some ⟨q2, 0, none⟩)) (.pointer (some ⟨q, 0, none⟩))).run Tryd.prog W = .ok (.bool true) W) := Lib.hid (fun W hk => by
    obtain ⟨ql2, f2, r2, ho, hne1, hne2⟩ := HO0.out
    obtain ⟨c2, cs2, o1, o2, _⟩ := ho
    obtain ⟨c1, cs1, p1, p2, p3, _⟩ := HR.out
    exact ref_other hqq ((hk.2 q2 (blk_lt o1) (by simpa using hne1.symm)).trans o1) ((hk.2 q (blk_lt p1) (by simpa using p3)).trans p1))
  go_enter Tryd.func57, Tryd.ntmps57
  go_wp2_with fail
  go_loopw [5, 6, 7] (fun a i _ wr => ∃ k : Nat, i = .int .i64 k ∧ k ≤ n ∧ a = .bool (anyOut (fun x => !Mo x) (valsTo M f k)) ∧ Hid (RefAt wr q ql f n (cutM M (fun x => !Mo x) f k)) ∧ Hid (PBitsSteps.keepX [ql] w wr) ∧ Hid (Below n0 w wr))
    (fun _ i _ _ => n - (intOf i).toNat)
  case atStart => exact ⟨0, rfl, by omega, rfl, Lib.hid (HR.out.ext (cutM_zero M (fun x => !Mo x) f (fun x hx => (HIN.out x hx).1))), Lib.hid (keepX.refl _ _), Lib.hid (Below.refl _ _)⟩
  case round =>
    obtain ⟨k, rfl, hk, rfl, hS, hK, hB⟩ := hrel
    by_cases hkn : k < n
    · have hhas := HO.out.keep hK.out hS.out (f + k) (fun e1 _ => absurd e1 hqq)
      have hput := hS.out.put (f + k) (by omega) false
      have hstay := cutM_same M (fun x => !Mo x) f k
      have hdrop := cutM_drop M (fun x => !Mo x) f k
      rw [show f + (k : Int) - f = (k : Int) by omega, Int.toNat_natCast] at hput
      obtain ⟨c, cs, h1, h2, h3, h4, h5, h6, h7⟩ := hS.out
      have c0 := refB_first h1; have c1 := refB_row h1
      rw [Int.toNat_natCast] at c1
      have c3 := (blk_cell h2 k).trans (h4 k (by omega))
      rw [cutM_at] at c3
      have hfz := blk_frozen h2 k
      have ef : wrap64 (f + (k : Int)) = f + k := IntWalk.wrap64_in _ (by omega)
      have hv := valsTo_succ M f k
      have HHAS := Lib.hid hhas; have HPUT := Lib.hid hput; have HST := Lib.hid hstay; have HDR := Lib.hid hdrop
      clear h1 h2 h4 h7 hhas hput hstay hdrop
      cases hm : M (f + k) with
      | false =>
        rw [hm] at c3 hv
        rw [if_neg (by decide), List.append_nil] at hv
        have HV := Lib.hid hv; have HM := Lib.hid hm
        clear hv hm
        go_wp2_with fail
        go_roundw
        case rel => exact ⟨k + 1, by go_num, by omega, by rw [HV.out], Lib.hid (hS.out.ext (HST.out (.inl HM.out))), hK, hB⟩
        case measure => simp [intOf]; omega
      | true =>
        rw [hm] at c3 hv
        rw [if_pos rfl] at hv
        have HV := Lib.hid hv
        clear hv hm
        cases hmo : Mo (f + k) with
        | false =>
          rw [hmo] at HHAS
          have HMO := Lib.hid hmo
          clear hmo
          go_wp2_with fail
          refine HHAS.out.mono ?_
          rintro e w1 ⟨rfl, ⟨⟨m, rfl⟩⟩⟩
          go_wp2_with fail
          go_roundw
          case rel => exact ⟨k + 1, by go_num, by omega, by rw [HV.out, anyOut_snoc, HMO.out]; simp, Lib.hid ((hS.out.drawn m).ext (HST.out (.inr (by simp [HMO.out])))), Lib.hid (hK.out.trans (keepX_drawn _ _ m)), Lib.hid (pw_below_drewN hB.out m)⟩
          case measure => simp [intOf]; omega
        | true =>
          rw [hmo] at HHAS
          have HMO := Lib.hid hmo
          clear hmo
          go_wp2_with fail
          refine HHAS.out.mono ?_
          rintro e w1 ⟨rfl, ⟨⟨m, rfl⟩⟩⟩
          go_wp2_with fail
          rw [(HOTH.out _ ((hK.out.trans (keepX_drawn _ _ m)))).2]
          go_wp2_with fail
          go_roundw
          case rel =>
            refine ⟨k + 1, by go_num, by omega, by rw [HV.out, anyOut_snoc, HMO.out]; simp, Lib.hid ?_, Lib.hid ((hK.out.trans (keepX_drawn _ _ m)).trans (keepX_set _ _ _ _)), Lib.hid ((pw_below_drewN hB.out m).setCell (p := ⟨ql, k, none⟩) hn _)⟩
            have := (hS.out.drawn m).put (f + k) (by omega) false
            rw [show f + (k : Int) - f = (k : Int) by omega, Int.toNat_natCast] at this
            exact this.ext (HDR.out (by simp [HMO.out]))
          case measure => simp [intOf]; omega
    · obtain rfl : k = n := by omega
      obtain ⟨c, cs, h1, h2, h3, h4, h5, h6, h7⟩ := hS.out
      have c0 := refB_first h1; have c1 := refB_row h1
      rw [Int.toNat_natCast] at c1
      clear h1 h2 h4 h7
      go_wp2_with fail
      rw [(HOTH.out _ hK.out).1]
      go_wp2_with fail
      go_ret
      exact ⟨rfl, hS.out.ext (cutM_all M (fun x => !Mo x) f k (fun x hx => (HIN.out x hx).2)), hK.out, hB.out⟩
theorem Drawn0.out {w w' : World} (h : Drawn0 w w') : ∃ m, w' = w.drewN m := h.1
set_option maxRecDepth 100000 in
set_option maxHeartbeats 16000000 in
theorem RefAt.minus_self {w : World} {q ql : Nat} {f r : Int} {M : Int → Bool} (n0 : Nat) (h : RefAt w q ql f r M) (hn : n0 ≤ q ∧ n0 ≤ w.heap.size) :
    Calls Tryd.prog 57 #[refP q, refP q] w fun e w' => ∃ ql', e = .returned (.bool (decide (0 < (vals M f r).length))) ∧ w.heap.size ≤ ql' ∧ RefAt w' q ql' f r (fun _ => false) ∧ PBitsSteps.keepX [q] w w' ∧ Below n0 w w' := by
  obtain ⟨hbd, hin⟩ := h.inn
  obtain ⟨n, rfl⟩ : ∃ n : Nat, r = (n : Int) := ⟨r.toNat, by omega⟩
  have HIN := Lib.hid hin; have HR := Lib.hid h
  obtain ⟨i0, hi, hz, hs, hby⟩ := info_parts Tryd.info4
  have hmk := fun W : World => run_make (P := Tryd.prog) W 46 4 i0 _ Tryd.underlying46 hi hz .i64 .i64 (n : Int) (n : Int) (by omega) (by omega) (by rw [hby]; omega) (by omega)
  rw [hs, Nat.mul_one, Int.toNat_natCast] at hmk
  have hmk2 : ∀ W : World, (Instr.makeSlice 46 (.int .i64 (n : Int)) (.int .i64 (n : Int))).run Tryd.prog W = .ok (.slice (some ⟨W.heap.size, 0, none⟩) n n) (W.alloc (.cells (madeCells #[.bool false] n) 4)) := hmk
  have HMK := Lib.hid hmk2
  clear hin h hmk hmk2 hi hz hs hby
  have U : refP q = .pointer (some ⟨q, 0, none⟩) := rfl
  rw [U]
  go_enter Tryd.func57, Tryd.ntmps57
  go_wp2_with fail
  go_loopw [5, 6, 7] (fun a i _ wr => ∃ k m : Nat, i = .int .i64 k ∧ k ≤ n ∧ a = .bool false ∧ wr = w.drewN m)
    (fun _ i _ _ => n - (intOf i).toNat)
  case atStart => exact ⟨0, 0, rfl, by omega, rfl, rfl⟩
  case round =>
    obtain ⟨k, m, rfl, hk, rfl, rfl⟩ := hrel
    have HRM := Lib.hid (HR.out.drawn m)
    obtain ⟨c, cs, h1, h2, h3, h4, h5, h6, h7⟩ := HRM.out
    have c0 := refB_first h1; have c1 := refB_row h1
    rw [Int.toNat_natCast] at c1
    have H1 := Lib.hid h1; have H2 := Lib.hid h2
    by_cases hkn : k < n
    · have hhas := HRM.out.has (f + k)
      have c3 := (blk_cell h2 k).trans (h4 k (by omega))
      have ef : wrap64 (f + (k : Int)) = f + k := IntWalk.wrap64_in _ (by omega)
      have HHAS := Lib.hid hhas
      clear h1 h2 h4 h7 hhas
      cases hm : M (f + k) with
      | false =>
        rw [hm] at c3
        go_wp2_with fail
        go_roundw
        case rel => exact ⟨k + 1, m, by go_num, by omega, rfl, rfl⟩
        case measure => simp [intOf]; omega
      | true =>
        rw [hm] at c3 HHAS
        go_wp2_with fail
        refine HHAS.out.mono ?_
        rintro e w1 ⟨rfl, ⟨⟨m1, rfl⟩⟩⟩
        go_wp2_with fail
        rw [(ref_same q _).2]
        go_wp2_with fail
        go_roundw
        case rel => exact ⟨k + 1, m + m1, by go_num, by omega, rfl, rfl⟩
        case measure => simp [intOf]; omega
    · obtain rfl : k = n := by omega
      clear h1 h2 h4 h7
      go_wp2_with fail
      rw [(ref_same q _).1]
      go_wp2_with fail
      rw [← U]
      refine (HRM.out.values).mono ?_
      rintro e w1 ⟨v1, rfl, k1, k2⟩
      obtain ⟨A1, c1', rfl⟩ := row_form k1
      have hlenL : (vals M f k).length ≤ 65536 := by have := valsTo_len M f (k : Int).toNat; unfold vals; omega
      have HB1 := Lib.hid k2
      have h1' := (k2.block q HRM.out.lt.1).trans H1.out
      have d0 := refB_first h1'; have d1 := refB_row h1'
      rw [Int.toNat_natCast] at d1
      have hfz := blk_frozen h1' 1
      have H1' := Lib.hid h1'
      have hsz : w.heap.size ≤ w1.heap.size := k2.size
      have hq := HR.out.lt
      rw [U]
      clear k1 k2 h1' c0 c1
      generalize hV : (vals M f k).length = L at *
      have HV := Lib.hid hV
      clear hV
      go_wp2_with fail
      rw [HMK.out]
      have e0 : (w1.alloc (.cells (madeCells #[.bool false] k) 4)).cell? ⟨q, 1, none⟩ = some (.slice (some ⟨ql, 0, none⟩) k c) := (World.cell?_of_block (a := ⟨q, 1, none⟩) (Below.heap_alloc w1 _ q (by omega))).trans d1
      have e1 := (Below.heap_alloc w1 (.cells (madeCells #[.bool false] k) 4) q (by omega)).trans H1'.out
      have e2 := blk_frozen e1 1
      have HE1 := Lib.hid e1
      have HN := Lib.hid (World.alloc_heap_new w1 (.cells (madeCells #[.bool false] k) 4))
      have hB2 : Below w.heap.size w (w1.alloc (.cells (madeCells #[.bool false] k) 4)) := (below_step (pw_below_drewN (Below.refl _ w) m) HB1.out).alloc hsz _
      have HB2 := Lib.hid hB2
      clear hB2 e1 d0 d1 hfz
      generalize w1.alloc (.cells (madeCells #[.bool false] k) 4) = w2 at *
      go_wp2_with fail
      go_ret
      refine ⟨w1.heap.size, by rw [HV.out]; simp, hsz, ⟨k, madeCells #[.bool false] k, ?_, ?_, by omega, fun i hi => made_one _ _ _ (by omega), by omega, by omega, fun v hv => by cases hv⟩, ⟨?_, fun b hb hq' => ?_⟩, ?_⟩
      · exact blk_put HE1.out 1 (.slice (some ⟨w1.heap.size, 0, none⟩) k k) (by rw [Int.toNat_natCast]; rfl)
      · refine (Below.heap_setCell w2 ⟨q, 1, none⟩ _ w1.heap.size (by show w1.heap.size ≠ q; omega)).trans ?_
        exact HN.out
      · rw [show (w2.setCell ⟨q, 1, none⟩ (.slice (some ⟨w1.heap.size, 0, none⟩) k k)).heap.size = w2.heap.size by simp [World.setCell]]
        exact HB2.out.size
      · exact (Below.heap_setCell w2 ⟨q, 1, none⟩ _ b (fun e => hq' (by rw [e]; simp))).trans (HB2.out.block b hb)
      · exact (HB2.out.mono hn.2).setCell (p := ⟨q, 1, none⟩) hn.1 _

end Go.Proofs.YtfkbkcdiajjljaaDoor.PBitsSteps
