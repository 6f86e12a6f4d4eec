/- Parts of the laws of sets and branch: functions of the program, each with the proof of what it answers; the conditions are those of each theorem. -/
import Derived.Test.YtjeomiooheoegaaGreatDoorC7
import Derived.ArgAppend
import Derived.Laws.AppendOwn
namespace Go.Proofs.YtjeomiooheoegaaGreatDoor.PD
open Go.RowKit Go.Proofs.YtjeomiooheoegaaGreatDoorW.PrintWords Go.Proofs.YtjeomiooheoegaaGreatDoorW.PrintLast Go.Proofs.YtjeomiooheoegaaGreatDoorW.PrintMore
set_option linter.unusedVariables false
set_option linter.unusedSimpArgs false
/-! ### what stays: the world behind a round -/
/-- all cells stay, but those of the caller's own blocks -/
def KeepA (Pb : Nat → Prop) (W W' : World) : Prop := W.heap.size ≤ W'.heap.size ∧ ∀ b o, ¬ Pb b → W.heap[b]? = some o → o.isCells = true → W'.heap[b]? = some o
/-- .. and those of the block that was handed out -/
def KeepX (Pb : Nat → Prop) (x : Value × List Int) (W W' : World) : Prop := W.heap.size ≤ W'.heap.size ∧ ∀ b o, ¬ Pb b → x.1.ownBlock ≠ some b → W.heap[b]? = some o → o.isCells = true → W'.heap[b]? = some o
theorem KeepA.refl (Pb : Nat → Prop) (W : World) : KeepA Pb W W := ⟨Nat.le_refl _, fun _ _ _ h _ => h⟩
theorem KeepA.trans {Pb : Nat → Prop} {A B C : World} (h : KeepA Pb A B) (k : KeepA Pb B C) : KeepA Pb A C := ⟨Nat.le_trans h.1 k.1, fun b o h1 h3 h4 => k.2 b o h1 (h.2 b o h1 h3 h4) h4⟩
theorem KeepX.trans {Pb : Nat → Prop} {x : Value × List Int} {A B C : World} (h : KeepX Pb x A B) (k : KeepX Pb x B C) : KeepX Pb x A C :=
  ⟨Nat.le_trans h.1 k.1, fun b o h1 h2 h3 h4 => k.2 b o h1 h2 (h.2 b o h1 h2 h3 h4) h4⟩
theorem KeepA.of_below {Pb : Nat → Prop} {W W' : World} (h : Below W.heap.size W W') : KeepA Pb W W' := ⟨h.size, fun b o _ ho _ => (h.block b (Array.getElem?_eq_some_iff.1 ho).1).trans ho⟩
/-- what was there before the thing was made stays -/
theorem KeepX.keep {Pb : Nat → Prop} {x : Value × List Int} {A B C : World} (h : KeepA Pb A B) (k : KeepX Pb x B C) (hx : ∀ b, x.1.ownBlock = some b → A.heap.size ≤ b) : KeepA Pb A C :=
  ⟨Nat.le_trans h.1 k.1, fun b o h1 h3 h4 => k.2 b o h1 (fun e => by
    have := hx b e
    have := (Array.getElem?_eq_some_iff.1 h3).1
    omega) (h.2 b o h1 h3 h4) h4⟩
theorem cell_block {W : World} {a : Addr} {u : Value} (h : W.cell? a = some u) : ∃ o, W.heap[a.block]? = some o ∧ o.isCells = true := by
  unfold World.cell? at h
  split at h
  · rename_i c e f hb
    exact ⟨_, hb, rfl⟩
  · cases h
theorem KeepA.cell {Pb : Nat → Prop} {W W' : World} {a : Addr} {u : Value} (h : KeepA Pb W W') (hP : ¬ Pb a.block) (hc : W.cell? a = some u) : W'.cell? a = some u := by
  obtain ⟨o, ho, hcs⟩ := cell_block hc
  exact (World.cell?_of_block (w := W) ((h.2 _ o hP ho hcs).trans ho.symm)).trans hc
theorem add_block (a : Addr) (j : Nat) : (a.add j).block = a.block := by
  unfold Addr.add
  split <;> rfl
/-- a list that stays -/
def StayI (Pb : Nat → Prop) (W : World) (v : Value) (l : List Int) : Prop := LstI W v l ∧ ∀ k, v.ownBlock = some k → ¬ Pb k
theorem StayI.keep {Pb : Nat → Prop} {W W' : World} {v : Value} {l : List Int} (h : StayI Pb W v l) (hk : KeepA Pb W W') : StayI Pb W' v l := by
  obtain ⟨⟨A, c, rfl, hC, hc⟩, hP⟩ := h
  refine ⟨⟨A, c, rfl, ⟨hC.1, hC.2.1, fun hn => ?_⟩, hc⟩, hP⟩
  obtain ⟨ad, e, hcell⟩ := hC.2.2 hn
  refine ⟨ad, e, fun j p hj => ?_⟩
  obtain ⟨cs, r1, r2, r3⟩ := hcell j p hj
  exact ⟨cs, r1, r2, fun i u hu => hk.cell (by rw [add_block]; exact hP _ (by rw [e]; rfl)) (r3 i u hu)⟩
theorem StayI.nil (Pb : Nat → Prop) (W : World) : StayI Pb W (.slice none 0 0) [] := ⟨LstI.nil W, fun k h => by simp [Value.ownBlock] at h⟩
set_option maxHeartbeats 4000000 in
theorem clipI_calls (A : Option Addr) (n c : Nat) (hn : n ≤ 9000000000000000) (hc : n ≤ c) (w : World) : Calls Tryz.prog 172 #[.slice A n c] w fun e w' => e = .returned (.slice A n n) ∧ w' = w := by
  have h1 : (0 : Int) ≤ (n : Int) := by omega
  have h2 : (n : Int) ≤ (c : Int) := by omega
  go_enter Tryz.func172, Tryz.ntmps172
  go_wp2_with fail
  go_ret
  exact ⟨rfl, rfl⟩
/-- an append onto a full slice, as a step of a region that draws its order -/
theorem step_append_grows {P : Program} {ops : Array Oper} {o : Oper} {a : Act} {w : World} {K : Act → World → Prop} {Q : Exit → Act → World → Prop} {E : Prop}
    (hw : Region.wanted o (yielded ops a.tmps) = true) (s x : Operand) (t : TypeId) (hop : o.op = Op.call { callee := Callee.builtin Builtin.append, args := #[s, x], argTypes := #[t, t] })
    (e : TypeId) (i : TypeInfo) (z : Value) (size bytes : Nat) (h1 : P.underlying t = some (.slice e)) (h2 : P.info? e = some i) (h3 : i.zero = some z) (h4 : i.size = size) (h5 : i.bytes = bytes) (h6 : z.cells.size = size) (h7 : 0 < size)
    (ao : Option Addr) (n cap : Nat) (olds : List Value) (hs : a.eval s = .slice ao n cap) (hnone : ao = none → n = 0 ∧ cap = 0) (hlo : olds.length = n * size) (holds : ∀ b, ao = some b → ∀ j u, olds[j]? = some u → w.cell? (b.add j) = some u)
    (ad : Addr) (m c : Nat) (news : List Value) (hx : a.eval x = .slice (some ad) m c) (hn : news.length = m * size) (hc : ∀ j u, news[j]? = some u → w.cell? (ad.add j) = some u) (h1c : ∀ u ∈ news, u.oneCell' = true)
    (hfull : cap < n + m) (b1 : n + m ≤ maxLen) (b2 : (n + m) * bytes ≤ 140737488355328)
    (hK : ∀ v' w', w'.ownsRow w.heap.size e size v' (n + m) (olds ++ news) → w.grownBy w' none → K (a.put o.dst v') w') :
    if Region.wanted o (yielded ops a.tmps) = true then Oper.wp P o a w K Q else E := by
  rw [if_pos hw]
  cases ao with
  | some b =>
    obtain ⟨v', w', hrun, r1, r2⟩ := run_append_arg_grows (P := P) w t o.type e i z size bytes h1 h2 h3 h4 h5 h6 h7 b n cap olds hlo (holds b rfl) ad m c news hn hc hfull b1 b2
    unfold Oper.wp
    simp [execOp, hop, resolve, invoke, builtin, hs, hx, hrun, Result.andThen]
    exact hK v' w' r1 r2
  | none =>
    obtain ⟨rfl, rfl⟩ := hnone rfl
    obtain rfl : olds = [] := List.eq_nil_of_length_eq_zero (by simpa using hlo)
    obtain ⟨v', w', hrun, r1, r2, _⟩ := run_append_own (P := P) w w.heap.size t o.type e i z size bytes h1 h2 h3 h4 h5 h6 h7 (.slice none 0 0) 0 [] (World.ownsRow_nil w _ e size) ad m c news hn hc h1c b1 b2 (Nat.le_refl _)
    unfold Oper.wp
    simp [execOp, hop, resolve, invoke, builtin, hs, hx, hrun, Result.andThen]
    exact hK v' w' r1 r2
theorem below_of_grown {w w' : World} (h : w.grownBy w' none) : Below w.heap.size w w' := ⟨h.os, h.tape, h.output, h.size, fun k hk => h.block k hk (fun e => by cases e)⟩

end Go.Proofs.YtjeomiooheoegaaGreatDoor.PD
