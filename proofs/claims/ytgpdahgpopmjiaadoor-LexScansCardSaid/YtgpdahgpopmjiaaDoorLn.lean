/- Parts of the laws of lex: functions of the program, each with the proof of what it answers; the conditions are those of each theorem. -/
import Derived.Test.YtgpdahgpopmjiaaDoorLm
import Derived.Test.YtgpdahgpopmjiaaDoorLl
import Derived.Deep.RegionWith
import Derived.Lib.AppendStr
namespace Go.Proofs.YtgpdahgpopmjiaaDoor.PL
open Go.RowKit Go.Proofs.YtgpdahgpopmjiaaDoorW.PrintWords Go.Proofs.YtgpdahgpopmjiaaDoorW.PrintLast Go.Proofs.YtgpdahgpopmjiaaDoorW.PrintMore
set_option linter.unusedVariables false
set_option linter.unusedSimpArgs false
/-! ### Each -/
set_option maxRecDepth 100000 in
set_option maxHeartbeats 4000000 in
theorem each_calls (s : ByteArray) (w : World) : Calls Tryd.prog 13 #[.string s] w fun e w' => e = .returned (.func (.func 27) #[] #[.pointer (some ⟨w.heap.size, 0, none⟩)]) ∧ w' = w.alloc (.cells #[.string s] 9) := by
  have hmf : ∀ (fn : Fn) (first cap : Array Value) (w : World), (Instr.makeFunc fn first cap).run Tryd.prog w = .ok (.func fn first cap) w := fun _ _ _ _ => rfl
  go_enter Tryd.func13, Tryd.ntmps13
  go_wp2_with fail
  go_ret
  exact ⟨rfl, rfl⟩

/-! ### bounds of tokens -/
theorem oneL_n {l : List UInt8} {k : Int} {len : Nat} {v : Int} (h : oneL l = .ok k len v) : -1000000000 ≤ v ∧ v ≤ 1000000000 := by
  have num : ∀ (b : Bool) (d : List UInt8) {k : Int} {len : Nat} {v : Int}, numL b d = .ok k len v → -1000000000 ≤ v ∧ v ≤ 1000000000 := by
    intro b d k len v h
    obtain ⟨_, m, hm, rfl⟩ := numL_val h
    cases b <;> simp <;> omega
  cases l with
  | nil => simp [oneL] at h
  | cons c t =>
    rw [oneL] at h
    split at h
    · injection h with _ _ h; omega
    · split at h
      · exact num _ _ h
      · split at h
        · exact num _ _ h
        · split at h
          · split at h
            · injection h with _ _ h; omega
            · cases h
          · split at h
            · injection h with _ _ h; omega
            · split at h
              · injection h with _ _ h; omega
              · cases h
theorem decD_len : ∀ (d m : Nat), m < 10 ^ (d + 1) → (decD m).length ≤ d + 1
  | 0, m, h => by
    rw [decD, if_pos (by simpa using h)]
    simp
  | d + 1, m, h => by
    rw [decD]
    split
    · simp
    · have := decD_len d (m / 10) (by rw [Nat.div_lt_iff_lt_mul (by decide)]; rw [Nat.pow_succ] at h; exact h)
      rw [List.length_append]
      simp only [List.length_cons, List.length_nil]
      omega
theorem itoaL_len (n : Int) (h : -1000000000 ≤ n ∧ n ≤ 1000000000) : (itoaL n).length ≤ 11 := by
  have := decD_len 9 n.natAbs (by omega)
  unfold itoaL
  split
  · rw [List.length_cons]; omega
  · omega
/-- what is known of each token of a text without fault -/
theorem allL_toks {s : List UInt8} {T : List Tok} {p : Nat} (h : allL s = (T, 0, p)) : ∀ t ∈ T, (-1000000000 ≤ t.n ∧ t.n ≤ 1000000000) ∧ t.text.length ≤ 65536 ∧ (tokText t).length ≤ 65536 := by
  unfold allL at h
  split at h
  · injection h with _ h; injection h with h; cases h
  · rename_i hlen
    obtain ⟨n1, n2, n3⟩ := nextAt_drop s 0 (by omega)
    rw [List.drop_zero] at n1
    rw [n1] at h
    obtain ⟨q1, _, _, _⟩ := allF_spec s _ _ T 0 p n3 h (by omega)
    intro t ht
    obtain ⟨_, a2, _, a4⟩ := q1 t ht
    have hn : -1000000000 ≤ t.n ∧ t.n ≤ 1000000000 := by
      rcases a4 with ⟨_, _, e, _⟩ | e
      · omega
      · exact oneL_n e
    have hx : t.text.length ≤ 65536 := by omega
    refine ⟨hn, hx, ?_⟩
    unfold tokText
    split
    · have := itoaL_len t.n hn; omega
    · exact hx
theorem textB_tok (t : Tok) : textB (tokS t) = ⟨(tokText t).toArray⟩ := by
  unfold textB tokText tokS
  simp only
  split <;> rfl

/-! ### LexJoins: the joined text -/
theorem info5 : (Tryd.prog.info? 5).map (fun i => (i.zero, i.size, i.bytes)) = some (some (.int .u8 0), 1, 1) := by kernel_rfl
def bytesV (l : List UInt8) : List Value := l.map fun c => .int .u8 (c.toNat : Nat)
theorem strCells_bytesV (l : List UInt8) : Lib.strCells ⟨l.toArray⟩ = bytesV l := by
  unfold Lib.strCells bytesV
  simp
theorem joinText_to {T : List Tok} {k : Nat} (h : k < T.length) : joinText (T.take (k + 1)) = joinText (T.take k) ++ tokText T[k] ++ [32] := by
  unfold joinText
  rw [List.take_succ_eq_append_getElem h, List.flatMap_append, List.flatMap_singleton, List.append_assoc]
theorem joinText_len {T : List Tok} (h : ∀ t ∈ T, (tokText t).length ≤ 65536) : ∀ k, k ≤ T.length → (joinText (T.take k)).length ≤ 65537 * k
  | 0, _ => by simp [joinText]
  | k + 1, hk => by
    have := joinText_len h k (by omega)
    have h2 := h T[k] (List.getElem_mem (by omega))
    rw [joinText_to (by omega), List.length_append, List.length_append]
    simp only [List.length_cons, List.length_nil]
    omega

end Go.Proofs.YtgpdahgpopmjiaaDoor.PL
