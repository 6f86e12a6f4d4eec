/- Parts of the laws of lex: functions of the program, each with the proof of what it answers; the conditions are those of each theorem. -/
import Derived.Test.YtgpdahgpopmjiaaDoorLt
import Derived.Sort.QuietIn
import Derived.OrdersIn
namespace Go.Proofs.YtgpdahgpopmjiaaDoor.PL
open Go.RowKit Go.Proofs.YtgpdahgpopmjiaaDoorW.PrintWords Go.Proofs.YtgpdahgpopmjiaaDoorW.PrintLast Go.Proofs.YtgpdahgpopmjiaaDoorW.PrintMore
set_option linter.unusedVariables false
set_option linter.unusedSimpArgs false
/-! ### a region that draws its order, in a round of a range over a function -/
def noDefers (l : List Oper) : Bool := l.all fun o => match o.op with | .defer _ => false | _ => true
theorem noDefers_at {l : List Oper} (h : noDefers l = true) {i : Nat} {o : Oper} (ho : l.toArray[i]? = some o) : ∀ c, o.op ≠ .defer c := by
  intro c e
  have hm : o ∈ l := by
    rw [List.getElem?_toArray] at ho
    exact List.mem_of_getElem? ho
  have := List.all_eq_true.1 h o hm
  rw [e] at this
  cases this
theorem op_of_quiet_round {F : Fence} {n : Nat} {P : Program} {C : World → Prop} {o : Oper} {a : Act} {K : Act → Prop} {K' : Act → World → Prop} {Q' : Exit → Act → World → Prop} {w : World} (hnd : ∀ c, o.op ≠ .defer c) (hw : C w) (h : ∀ a w', C w' → K a → K' a w')
    (ha : o.askedIn F P a C) (hh : o.quietIn F n P a C K) : o.wpIn F n P a w K' Q' := by
  obtain ⟨v, h1, h2⟩ := hh
  have h3 := h1 w hw
  unfold Oper.quietAtIn at h3
  unfold Oper.wpIn
  refine ⟨ha w hw, ?_⟩
  rw [Oper.semAt_eq _ _ _ hnd]
  generalize (execOp a.eval o).run P w = r at *
  match r, h3 with
  | .ok (.value u) w', h3 =>
    simp only [Oper.quietUponIn] at h3
    obtain ⟨e1, e2⟩ := h3
    rw [e1, e2]
    exact h _ _ hw h2
  | .ok .skip w', h3 =>
    simp only [Oper.quietUponIn] at h3
    obtain ⟨e1, e2⟩ := h3
    rw [e1]
    simp only [Oper.uponIn]
    rw [← e2]
    exact h _ _ hw h2
  | .ok (.enter f args) w', h3 =>
    simp only [Oper.quietUponIn] at h3
    obtain ⟨e1, hd, hc⟩ := h3
    rw [e1]
    exact ⟨hd, hc.mono fun e w'' ⟨he, hw''⟩ => by subst he; exact h _ _ hw'' h2⟩
theorem any_of_quiet_round {F : Fence} {n : Nat} {P : Program} {md : Region.Mode} {l : List Oper} {C : World → Prop} {Q : Act → Prop} {Q' : Exit → Act → World → Prop} (hnd : noDefers l = true) (hQ : ∀ a w, C w → Q a → Q' .normal a w) : ∀ (fuel : Nat) (listed : Array Bool) (a : Act) (w : World), C w →
    wpAnyQIn F n P md l.toArray C Q fuel listed a → wpAnyIn F n P md l.toArray Q' fuel listed a w
  | 0, _, _, _, hw, h => ⟨h.1, hQ _ _ hw h.2⟩
  | fuel + 1, listed, a, w, hw, h => ⟨fun h0 => hQ _ _ hw (h.1 h0), fun i hi => by
    have h2 := h.2 i hi
    have ih := fun a' w' hw' => any_of_quiet_round (F := F) (n := n) (P := P) (md := md) hnd hQ fuel (listed.setIfInBounds i true) a' w' hw'
    unfold qOpIn at h2
    unfold wpOpIn
    cases ho : l.toArray[i]? with
    | none =>
      simp only [ho] at h2 ⊢
      exact ih _ _ hw h2
    | some o =>
      simp only [ho] at h2 ⊢
      obtain ⟨ha, h2⟩ := h2
      split
      · rename_i hwd
        simp only [hwd, if_true] at h2
        exact op_of_quiet_round (noDefers_at hnd ho) hw ih ha h2
      · rename_i hwd
        simp only [hwd] at h2
        exact ⟨ha w hw, ih _ _ hw h2⟩⟩
theorem region_quiet_round {F : Fence} {n : Nat} {P : Program} {id : Nat} {Q : Exit → Act → World → Prop} {a : Act} {w : World} {l : List Oper} (hnd : noDefers l = true) (hm : P.follows .mixedOrders = true) (hB : Region.lexB .any l.toArray = true)
    (h : wpQuietIn F n P l.toArray (fun w' => ∃ n, w' = w.drewN n) (fun a' => ∀ w', (∃ n, w' = w.drewN n) → Q .normal a' w') l a) : (Code.region id l.toArray true).wpIn F n P Q a w := by
  simp only [Region.lexB, Bool.and_eq_true] at hB
  refine wpIn_region_any hm (any_of_quiet_round (C := fun w' => ∃ n, w' = w.drewN n) (Q := fun a' => ∀ w', (∃ n, w' = w.drewN n) → Q .normal a' w') hnd (fun _ w' hw' h => h w' hw') _ _ _ _ ⟨1, rfl⟩ ?_)
  have := wpAnyQIn_lex (F := F) (n := n) (C := fun w' => ∃ n, w' = w.drewN n) (md := .any) hB.1 l 0 (Array.replicate l.length false) a (by simp) (by simpa using hB.2) h
  simpa using this

end Go.Proofs.YtgpdahgpopmjiaaDoor.PL
