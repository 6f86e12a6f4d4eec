/- Parts of the laws of bits: functions of the program, each with the proof of what it answers; the conditions are those of each theorem. -/
import Derived.Test.YtfkbkcdiajjljaaDoorBzch
namespace Go.Proofs.YtfkbkcdiajjljaaDoor.PBitsSteps
open Go.RowKit Go.Proofs.YtfkbkcdiajjljaaDoorW.PrintWords Go.Proofs.YtfkbkcdiajjljaaDoorW.PrintLast Go.Proofs.YtfkbkcdiajjljaaDoorW.PrintMore
set_option linter.unusedVariables false
set_option linter.unusedSimpArgs false
/-! ### BitsPlays: one call of both sets -/
def addB (f r : Int) (M : Int → Bool) (v : Int) : Bool := decide (f ≤ v ∧ v < f + r) && !M v
def addC (f r v : Int) : Int := if f ≤ v ∧ v < f + r then 0 else 20
def addM (f r : Int) (M : Int → Bool) (v x : Int) : Bool := decide (f ≤ v ∧ v < f + r) && (x == v) || M x
theorem drawn_keepX {ex : List Nat} {w w' : World} (h : Drawn0 w w') : PBitsSteps.keepX ex w w' := by
  obtain ⟨⟨m, rfl⟩⟩ := h
  exact keepX_drawn _ _ m
theorem SetAt.addA {w : World} {g gp : Nat} {f r : Int} {M : Int → Bool} (h : SetAt w g gp f r M) (v : Int) (B : Nat) (hB : B ≤ gp) :
    Calls Tryd.prog 21 #[setP g, .int .i64 v] w fun e w' => e = .returned (.tuple #[.bool (addB f r M v), .int .i64 (addC f r v)]) ∧ SetAt w' g gp f r (addM f r M v) ∧ PBitsSteps.keepX [gp] w w' ∧ Below B w w' := by
  by_cases hv : f ≤ v ∧ v < f + r
  · refine (h.add v hv).mono ?_
    rintro e w' ⟨rfl, ⟨m, i, u, rfl⟩, hs⟩
    refine ⟨by unfold addB addC; rw [decide_eq_true hv, if_pos hv, Bool.true_and], hs.ext (fun x => by unfold addM; rw [decide_eq_true hv, Bool.true_and]), (keepX_drawn _ _ m).trans (keepX_set gp i u _), (pw_below_drewN (Below.refl _ _) m).setCell (p := ⟨gp, i, none⟩) hB u⟩
  · refine (h.add_out v hv).mono ?_
    rintro e w' ⟨rfl, hd⟩
    refine ⟨by unfold addB addC; rw [decide_eq_false hv, if_neg hv, Bool.false_and], (h.below hd.below).ext (fun x => by unfold addM; rw [decide_eq_false hv, Bool.false_and, Bool.false_or]), drawn_keepX hd, drawn_below hd⟩
theorem RefAt.addA {w : World} {q ql : Nat} {f r : Int} {M : Int → Bool} (h : RefAt w q ql f r M) (v : Int) (B : Nat) (hB : B ≤ ql) :
    Calls Tryd.prog 22 #[refP q, .int .i64 v] w fun e w' => e = .returned (.tuple #[.bool (addB f r M v), .int .i64 (addC f r v)]) ∧ RefAt w' q ql f r (addM f r M v) ∧ PBitsSteps.keepX [ql] w w' ∧ Below B w w' := by
  by_cases hv : f ≤ v ∧ v < f + r
  · refine (h.add v hv).mono ?_
    rintro e w' ⟨rfl, m, rfl⟩
    refine ⟨by unfold addB addC; rw [decide_eq_true hv, if_pos hv, Bool.true_and], ((h.drawn m).put v hv true).ext (fun x => ?_), (keepX_drawn _ _ m).trans (keepX_set ql _ _ _), (pw_below_drewN (Below.refl _ _) m).setCell (p := ⟨ql, (v - f).toNat, none⟩) hB _⟩
    unfold addM
    rw [decide_eq_true hv, Bool.true_and]
    by_cases e : x = v
    · simp [e]
    · simp [e]
  · refine (h.add_out v hv).mono ?_
    rintro e w' ⟨rfl, hd⟩
    exact ⟨by unfold addB addC; rw [decide_eq_false hv, if_neg hv, Bool.false_and], (h.below hd.below).ext (fun x => by unfold addM; rw [decide_eq_false hv, Bool.false_and, Bool.false_or]), drawn_keepX hd, drawn_below hd⟩
theorem SetAt.delA {w : World} {g gp : Nat} {f r : Int} {M : Int → Bool} (h : SetAt w g gp f r M) (v : Int) (B : Nat) (hB : B ≤ gp) :
    Calls Tryd.prog 23 #[setP g, .int .i64 v] w fun e w' => e = .returned (.tuple #[.bool (M v), .int .i64 0]) ∧ SetAt w' g gp f r (fun x => M x && !(x == v)) ∧ PBitsSteps.keepX [gp] w w' ∧ Below B w w' := by
  refine (h.del2 v B hB).mono ?_
  rintro e w' ⟨rfl, h1, h2, h3⟩
  exact ⟨rfl, h1, ⟨h3.size, fun b _ hn => h2 b (by simpa using hn)⟩, h3⟩
theorem RefAt.delA {w : World} {q ql : Nat} {f r : Int} {M : Int → Bool} (h : RefAt w q ql f r M) (v : Int) (B : Nat) (hB : B ≤ ql) :
    Calls Tryd.prog 24 #[refP q, .int .i64 v] w fun e w' => e = .returned (.tuple #[.bool (M v), .int .i64 0]) ∧ RefAt w' q ql f r (fun x => M x && !(x == v)) ∧ PBitsSteps.keepX [ql] w w' ∧ Below B w w' := by
  by_cases hv : f ≤ v ∧ v < f + r
  · refine (h.del v hv).mono ?_
    rintro e w' ⟨rfl, m, rfl⟩
    refine ⟨rfl, ((h.drawn m).put v hv false).ext (fun x => ?_), (keepX_drawn _ _ m).trans (keepX_set ql _ _ _), (pw_below_drewN (Below.refl _ _) m).setCell (p := ⟨ql, (v - f).toNat, none⟩) hB _⟩
    by_cases e : x = v
    · simp [e]
    · simp [e]
  · have hm : M v = false := by
      cases hm : M v with
      | false => rfl
      | true => exact absurd (h.inn.2 v hm) hv
    refine (h.del_out v hv).mono ?_
    rintro e w' ⟨rfl, hd⟩
    refine ⟨by rw [hm], (h.below hd.below).ext (fun x => ?_), drawn_keepX hd, drawn_below hd⟩
    by_cases e : x = v
    · simp [e, hm]
    · simp [e]
/-- a set and the reference's, of the same values; their blocks lie from n0 on -/
structure Twin (n0 : Nat) (W : World) (g gp q ql : Nat) (f r : Int) (M : Int → Bool) : Prop where
  hs : SetAt W g gp f r M
  hr : RefAt W q ql f r M
  lo : n0 ≤ g ∧ n0 ≤ gp ∧ n0 ≤ q ∧ n0 ≤ ql
def Apart (gp q ql gp2 q2 ql2 : Nat) : Prop := gp ≠ gp2 ∧ q ≠ q2 ∧ ql ≠ ql2
theorem Apart.swap {gp q ql gp2 q2 ql2 : Nat} (h : Apart gp q ql gp2 q2 ql2) : Apart gp2 q2 ql2 gp q ql := ⟨h.1.symm, h.2.1.symm, h.2.2.symm⟩
theorem Twin.below {n0 : Nat} {W W' : World} {g gp q ql : Nat} {f r : Int} {M : Int → Bool} (h : Twin n0 W g gp q ql f r M) (hb : Below W.heap.size W W') : Twin n0 W' g gp q ql f r M := ⟨h.hs.below hb, h.hr.below hb, h.lo⟩
theorem Twin.other {n0 : Nat} {W : World} {g gp q ql g2 gp2 q2 ql2 : Nat} {f r f2 r2 : Int} {M M2 : Int → Bool} (h : Twin n0 W g gp q ql f r M) (k : Twin n0 W g2 gp2 q2 ql2 f2 r2 M2) (ha : Apart gp q ql gp2 q2 ql2) : Other W g gp q ql f r M g2 gp2 q2 f2 r2 M2 :=
  ⟨k.hs, .inl ⟨ql2, k.hr, ha.2.1.symm, ha.2.2⟩⟩
theorem Twin.self {n0 : Nat} {W : World} {g gp q ql : Nat} {f r : Int} {M : Int → Bool} (h : Twin n0 W g gp q ql f r M) : Other W g gp q ql f r M g gp q f r M := ⟨h.hs, .inr ⟨rfl, rfl, rfl, rfl⟩⟩
theorem Twin.after {n0 : Nat} {W W' : World} {g gp q ql ql' g2 gp2 q2 ql2 : Nat} {f r f2 r2 : Int} {M M' M2 : Int → Bool} (h : Twin n0 W g gp q ql f r M) (k : Twin n0 W g2 gp2 q2 ql2 f2 r2 M2) (ha : Apart gp q ql gp2 q2 ql2)
    (h1 : SetAt W' g gp f r M') (h2 : RefAt W' q ql' f r M') (h3 : ql' = ql ∨ W.heap.size ≤ ql') (h4 : keepX [gp, ql, q] W W') (hn : n0 ≤ W.heap.size) :
    Twin n0 W' g gp q ql' f r M' ∧ Twin n0 W' g2 gp2 q2 ql2 f2 r2 M2 ∧ Apart gp q ql' gp2 q2 ql2 := by
  have t1 := set_ref k.hs h.hr
  have t2 := set_ref h.hs k.hr
  have t3 := ref_ref h.hr k.hr
  have t4 := set_set h.hs k.hs
  have l2 := k.hr.lt
  have := h.lo
  obtain ⟨a1, a2, a3⟩ := ha
  refine ⟨⟨h1, h2, ⟨this.1, this.2.1, this.2.2.1, by rcases h3 with rfl | h3; exact this.2.2.2; omega⟩⟩, ⟨k.hs.keepX h4 (by simp only [List.mem_cons, List.not_mem_nil, or_false, not_or]; exact ⟨t4.2.symm, t1.2.1, t1.1⟩) (by simp only [List.mem_cons, List.not_mem_nil, or_false, not_or]; exact ⟨a1.symm, t1.2.2.2, t1.2.2.1⟩), k.hr.keepX h4 (by simp only [List.mem_cons, List.not_mem_nil, or_false, not_or]; exact ⟨t2.2.2.1.symm, t3.2.symm, a2.symm⟩) (by simp only [List.mem_cons, List.not_mem_nil, or_false, not_or]; exact ⟨t2.2.2.2.symm, a3.symm, t3.1.symm⟩), k.lo⟩, a1, a2, ?_⟩
  rcases h3 with rfl | h3
  · exact a3
  · have := l2.2.1; omega
theorem of_both2 (l : List S71) : (∃ x : Int, x ≠ 0 ∧ ∀ (A : Option Addr) (c : Nat) (w : World), Kd.C k71 w A l.length l → l.length ≤ c →
      (Calls Tryd.prog 7 #[.slice A l.length c] w fun e w' => e = .returned (.tuple #[.pointer none, .int .i64 x]) ∧ Below w.heap.size w w') ∧
      (Calls Tryd.prog 16 #[.slice A l.length c] w fun e w' => e = .returned (.tuple #[.pointer none, .int .i64 x]) ∧ Below w.heap.size w w')) ∨ (okS l = true ∧ lastS l - firstS l < 65536) := by
  cases hN : okS l with
  | false => exact .inl ⟨20, by decide, fun A c w h hc => ⟨of_dom A c l w h hc hN, refOf_dom A c l w h hc hN⟩⟩
  | true =>
    by_cases hb : 65536 ≤ lastS l - firstS l
    · exact .inl ⟨4, by decide, fun A c w h hc => ⟨of_full A c l w h hc hN hb, refOf_full A c l w h hc hN hb⟩⟩
    · exact .inr ⟨rfl, by omega⟩
/-- a script: calls of kind, value, which -/
structure Op3 where
  kind : Int
  v : Int
  on : Bool
def OpsAt (w : World) (A : Option Addr) (l : List Op3) : Prop := ∀ i (h : i < l.length), (-9223372036854775808 ≤ l[i].v ∧ l[i].v ≤ 9223372036854775807) ∧ ∃ ad : Addr, A = some ad ∧ ad.block < w.heap.size ∧ w.cell? (ad.add (i * 3)) = some (.int .i64 l[i].kind) ∧ w.cell? ⟨(ad.add (i * 3)).block, (ad.add (i * 3)).off + 1, none⟩ = some (.int .i64 l[i].v) ∧ w.cell? ⟨(ad.add (i * 3)).block, (ad.add (i * 3)).off + 2, none⟩ = some (.bool l[i].on)
theorem add_lt {ad : Addr} {n : Nat} (h : ad.block < n) (i : Nat) : (ad.add i).block < n := by
  unfold Addr.add
  split <;> exact h
theorem OpsAt.below {w w' : World} {A : Option Addr} {l : List Op3} (h : OpsAt w A l) (hb : Below w.heap.size w w') : OpsAt w' A l := by
  intro i hi
  obtain ⟨h0, ad, h1, h2, h3, h4, h5⟩ := h i hi
  exact ⟨h0, ad, h1, Nat.lt_of_lt_of_le h2 hb.size, (hb.cell (p := ad.add (i * 3)) (add_lt h2 _)).trans h3, (hb.cell (p := ⟨(ad.add (i * 3)).block, (ad.add (i * 3)).off + 1, none⟩) (add_lt h2 (i * 3))).trans h4, (hb.cell (p := ⟨(ad.add (i * 3)).block, (ad.add (i * 3)).off + 2, none⟩) (add_lt h2 (i * 3))).trans h5⟩

end Go.Proofs.YtfkbkcdiajjljaaDoor.PBitsSteps
