/- Parts of the laws of bits: functions of the program, each with the proof of what it answers; the conditions are those of each theorem. -/
import Derived.Test.YtfkbkcdiajjljaaDoorBzcf
namespace Go.Proofs.YtfkbkcdiajjljaaDoor.PBitsSteps
open Go.RowKit Go.Proofs.YtfkbkcdiajjljaaDoorW.PrintWords Go.Proofs.YtfkbkcdiajjljaaDoorW.PrintLast Go.Proofs.YtfkbkcdiajjljaaDoorW.PrintMore
set_option linter.unusedVariables false
set_option linter.unusedSimpArgs false
/-! ### the reference's Or -/
theorem RefAt.fits {w : World} {q ql : Nat} {f r : Int} {M : Int → Bool} (h : RefAt w q ql f r M) (v : Int) (b : Bool) (hb : decide (f ≤ v ∧ v < f + r) = b) :
    Calls Tryd.prog 53 #[refP q, .int .i64 v] w fun e w' => e = .returned (.bool b) ∧ Drawn0 w w' := by
  obtain ⟨c, cs, h1, h2, h3, h4, h5, h6, h7⟩ := h
  have := refFits q f ql r.toNat c v w h1 (by omega) (by omega)
  rw [show ((r.toNat : Nat) : Int) = r by omega, hb] at this
  exact this
/-- whole numbers that lie in a block, from base on -/
def ValsFrom (base : Nat) (w : World) (A : Option Addr) (xs : List Int) : Prop := ∀ i (h : i < xs.length), ∃ b, A = some ⟨b, 0, none⟩ ∧ (base ≤ b ∧ b < w.heap.size) ∧ w.cell? ⟨b, i, none⟩ = some (.int .i64 xs[i])
theorem row_from {w : World} {base n : Nat} {v : Value} {xs : List Int} (h : w.ownsRow base 2 1 v n (ints64 xs)) (hn : xs.length = n) : ∃ A c, v = .slice A n c ∧ ValsFrom base w A xs := by
  obtain ⟨A, c, rfl, hv⟩ := row_ints h hn
  refine ⟨A, c, rfl, fun i hi => ?_⟩
  obtain ⟨b, rfl, h2, h3⟩ := hv i hi
  exact ⟨b, rfl, ⟨own_base h b rfl, h2⟩, h3⟩
theorem ValsFrom.keep {base : Nat} {w w' : World} {A : Option Addr} {xs : List Int} (h : ValsFrom base w A xs) (hs : w.heap.size ≤ w'.heap.size) (hk : ∀ b, base ≤ b → b < w.heap.size → w'.heap[b]? = w.heap[b]?) : ValsFrom base w' A xs := by
  intro i hi
  obtain ⟨b, h1, h2, h3⟩ := h i hi
  exact ⟨b, h1, ⟨h2.1, by omega⟩, (World.cell?_of_block (a := ⟨b, i, none⟩) (hk b h2.1 h2.2)).trans h3⟩
def RefOr (n0 : Nat) (w : World) (q ql : Nat) (f r : Int) (M Mo : Int → Bool) (L : List Int) (e : Ending) (w' : World) : Prop :=
  (e = .returned (.tuple #[.bool false, .int .i64 20]) ∧ Below w.heap.size w w' ∧ ∃ x ∈ L, ¬ (f ≤ x ∧ x < f + r)) ∨
  ((∀ x ∈ L, f ≤ x ∧ x < f + r) ∧ e = .returned (.tuple #[.bool (anyOut M L), .int .i64 0]) ∧ RefAt w' q ql f r (joinM M L) ∧ PBitsSteps.keepX [ql] w w' ∧ Below n0 w w')
theorem joinM_put (M : Int → Bool) (pre : List Int) (v : Int) (x : Int) : (if x = v then true else joinM M pre x) = joinM M (pre ++ [v]) x := by
  rw [← joinM_snoc]
  by_cases e : x = v
  · simp [e]
  · simp [e]
theorem joinM_flip (M : Int → Bool) (pre : List Int) (v : Int) : (anyOut M pre || (joinM M pre v != true)) = anyOut M (pre ++ [v]) := by
  rw [← joinM_any]
  cases joinM M pre v <;> rfl
set_option maxRecDepth 100000 in
set_option maxHeartbeats 16000000 in
theorem RefAt.or {w : World} {q ql q2 ql2 : Nat} {f r f2 r2 : Int} {M Mo : Int → Bool} (n0 : Nat) (h : RefAt w q ql f r M) (ho : RefAt w q2 ql2 f2 r2 Mo) (hn : n0 ≤ ql ∧ n0 ≤ w.heap.size) :
    Calls Tryd.prog 56 #[refP q, refP q2] w (RefOr n0 w q ql f r M Mo (vals Mo f2 r2)) := by
  have HR := Lib.hid h; have HO := Lib.hid ho
  have hlt := h.lt
  have hlen : (vals Mo f2 r2).length ≤ 65536 := by
    obtain ⟨hbd, _⟩ := ho.inn
    have := valsTo_len Mo f2 r2.toNat
    unfold vals
    omega
  clear h ho
  have U : refP q = .pointer (some ⟨q, 0, none⟩) := rfl
  have U2 : refP q2 = .pointer (some ⟨q2, 0, none⟩) := rfl
  rw [U, U2]
  go_enter Tryd.func56, Tryd.ntmps56
  go_wp2_with fail
  rw [← U2]
  refine HO.out.values.mono ?_
  rintro e w1 ⟨v, rfl, hrow, hb1⟩
  obtain ⟨A, c, rfl, hvf⟩ := row_from hrow rfl
  have HB1 := Lib.hid hb1; have HVF := Lib.hid hvf
  have HR1 := Lib.hid (HR.out.below hb1)
  have hs1 := hb1.size
  clear hrow hb1 hvf
  generalize vals Mo f2 r2 = L at *
  obtain ⟨n, hnL⟩ : ∃ n, n = L.length := ⟨_, rfl⟩
  rw [← hnL] at hlen ⊢
  have HNL := Lib.hid hnL
  clear hnL
  rw [U2]
  go_wp2_with fail
  go_loopw [7] (fun i wr => ∃ k m : Nat, i = .int .i64 k ∧ k ≤ n ∧ Hid (∀ j (h : j < L.length), j < k → f ≤ L[j] ∧ L[j] < f + r) ∧ wr = w1.drewN m)
    (fun i _ => n - (intOf i).toNat)
  case atStart => exact ⟨0, 0, rfl, by omega, Lib.hid (fun j h h2 => absurd h2 (by omega)), rfl⟩
  case round =>
    obtain ⟨k, m, rfl, hk, hal, rfl⟩ := hrel
    by_cases hkn : k < n
    · have hkL : k < L.length := by rw [← HNL.out]; exact hkn
      obtain ⟨b, hA, hbb, hc⟩ := HVF.out k hkL
      have hc2 : (w1.drewN m).cell? ⟨b, k, none⟩ = some (.int .i64 L[k]) := hc
      obtain ⟨lk, hlk⟩ : ∃ x, x = L[k] := ⟨_, rfl⟩
      rw [← hlk] at hc2
      have HLK := Lib.hid hlk
      subst hA
      clear hc hlk
      cases hd : decide (f ≤ lk ∧ lk < f + r) with
      | true =>
        have HC := Lib.hid ((HR1.out.drawn m).fits lk true hd)
        have HD := Lib.hid (of_decide_eq_true hd)
        clear hd
        go_wp2_with fail
        refine HC.out.mono ?_
        rintro e w2 ⟨rfl, ⟨⟨m2, rfl⟩⟩⟩
        go_wp2_with fail
        go_roundw
        case rel =>
          refine ⟨k + 1, m + m2, by go_num, by omega, Lib.hid (fun j h h2 => ?_), rfl⟩
          by_cases e : j = k
          · subst e; rw [← HLK.out]; exact HD.out
          · exact hal.out j h (by omega)
        case measure => simp [intOf]; omega
      | false =>
        have HC := Lib.hid ((HR1.out.drawn m).fits lk false hd)
        have HD := Lib.hid (of_decide_eq_false hd)
        clear hd
        go_wp2_with fail
        refine HC.out.mono ?_
        rintro e w2 ⟨rfl, ⟨⟨m2, rfl⟩⟩⟩
        go_wp2_with fail
        go_ret2
        exact .inl ⟨rfl, pw_below_drewN HB1.out _, lk, by rw [HLK.out]; exact List.getElem_mem _, HD.out⟩
    · obtain rfl : k = n := by omega
      have HAL := Lib.hid (fun x (hx : x ∈ L) => (show f ≤ x ∧ x < f + r from by
        obtain ⟨j, hj, rfl⟩ := List.getElem_of_mem hx
        exact hal.out j hj (by rw [HNL.out]; exact hj)))
      have HRm := Lib.hid (HR1.out.drawn m)
      have HVm := Lib.hid (show ValsFrom w.heap.size (w1.drewN m) A L from HVF.out)
      have HBm := Lib.hid (pw_below_drewN HB1.out m)
      clear hal
      have hsm : w.heap.size ≤ (w1.drewN m).heap.size := hs1
      generalize w1.drewN m = W2 at *
      go_wp2_with fail
      go_loopw [8, 9] (fun a i wr => ∃ j : Nat, i = .int .i64 j ∧ j ≤ k ∧ a = .bool (anyOut M (L.take j)) ∧ Hid (RefAt wr q ql f r (joinM M (L.take j))) ∧ Hid (PBitsSteps.keepX [ql] W2 wr) ∧ Hid (Below n0 W2 wr))
        (fun _ i _ => k - (intOf i).toNat)
      case atStart => exact ⟨0, rfl, by omega, rfl, Lib.hid (HRm.out.ext (fun x => joinM_nil M x)), Lib.hid (keepX.refl _ _), Lib.hid (Below.refl _ _)⟩
      case round =>
        obtain ⟨j, rfl, hj, rfl, hS, hK, hB⟩ := hrel
        by_cases hjn : j < k
        · have hjL : j < L.length := by rw [← HNL.out]; exact hjn
          obtain ⟨b, hA, hbb, hc⟩ := (HVm.out.keep hK.out.1 (fun b h1 h2 => hK.out.2 b h2 (by simp; omega))) j hjL
          obtain ⟨lk, hlk⟩ : ∃ x, x = L[j] := ⟨_, rfl⟩
          rw [← hlk] at hc
          have ht : L.take (j + 1) = L.take j ++ [lk] := by rw [hlk]; exact List.take_succ_eq_append_getElem hjL
          have hfit := HAL.out lk (by rw [hlk]; exact List.getElem_mem _)
          have hput := hS.out.putc lk hfit true
          have hany := joinM_flip M (L.take j) lk
          rw [← ht] at hany
          have HPUT := Lib.hid hput; have HT := Lib.hid ht; have HANY := Lib.hid hany
          subst hA
          clear hput ht hany hlk
          generalize hao : anyOut M (L.take j) = ao at *
          generalize hjm : joinM M (L.take j) lk = jm at *
          have HJM := Lib.hid hjm; have HAO := Lib.hid hao
          clear hjm hao
          have hfin : ∀ m, Hid (RefAt ((wr.drewN m).setCell ⟨ql, (lk - f).toNat, none⟩ (.bool true)) q ql f r (joinM M (L.take (j + 1)))) ∧ Hid (PBitsSteps.keepX [ql] W2 ((wr.drewN m).setCell ⟨ql, (lk - f).toNat, none⟩ (.bool true))) ∧ Hid (Below n0 W2 ((wr.drewN m).setCell ⟨ql, (lk - f).toNat, none⟩ (.bool true))) := fun m => by
            refine ⟨Lib.hid ?_, Lib.hid ((hK.out.trans (keepX_drawn _ _ m)).trans (keepX_set _ _ _ _)), Lib.hid ((pw_below_drewN hB.out m).setCell (p := ⟨ql, (lk - f).toNat, none⟩) hn.1 _)⟩
            rw [HT.out]
            exact ((hS.out.drawn m).put lk hfit true).ext (fun x => joinM_put _ _ _ _)
          have HFIN := Lib.hid hfin
          clear hfin
          go_wp2_with fail
          refine HPUT.out.mono ?_
          rintro e w2 ⟨rfl, m2, rfl⟩
          obtain ⟨f1, f2', f3⟩ := HFIN.out m2
          cases jm with
          | true =>
            go_wp2_with fail
            go_roundw
            case rel => exact ⟨j + 1, by go_num, by omega, by rw [← HANY.out]; simp, f1, f2', f3⟩
            case measure => simp [intOf]; omega
          | false =>
            go_wp2_with fail
            go_roundw
            case rel => exact ⟨j + 1, by go_num, by omega, by rw [← HANY.out]; simp, f1, f2', f3⟩
            case measure => simp [intOf]; omega
        · obtain rfl : j = k := by omega
          have hall : L.take j = L := List.take_of_length_le (by rw [← HNL.out]; omega)
          have HALL := Lib.hid hall
          clear hall
          go_wp2_with fail
          go_ret2
          refine .inr ⟨HAL.out, by rw [HALL.out]; rfl, ?_, ?_, (HBm.out.mono hn.2).trans hB.out⟩
          · have := hS.out
            rw [HALL.out] at this
            exact this
          · exact keepX.trans ⟨hsm, fun b hb _ => HBm.out.block b hb⟩ hK.out

end Go.Proofs.YtfkbkcdiajjljaaDoor.PBitsSteps
