/- Parts of the laws of lex: functions of the program, each with the proof of what it answers; the conditions are those of each theorem. -/
import Derived.Test.YtgpdahgpopmjiaaDoorLi
import Derived.Defers
import Derived.Recover
namespace Go.Proofs.YtgpdahgpopmjiaaDoor.PL
open Go.RowKit Go.Proofs.YtgpdahgpopmjiaaDoorW.PrintWords Go.Proofs.YtgpdahgpopmjiaaDoorW.PrintLast Go.Proofs.YtgpdahgpopmjiaaDoorW.PrintMore
set_option linter.unusedVariables false
set_option linter.unusedSimpArgs false
/-! ### caught, and the function that catches -/
set_option maxRecDepth 100000 in
set_option maxHeartbeats 4000000 in
theorem caught_idle (p : Addr) (w : World) : CallsD Tryd.prog 19 #[.pointer (some p)] .returning w fun e u' w' => e = .returned (.tuple #[]) ∧ u' = .returning ∧ w' = w := by
  refine callsD_of_wpS Tryd.func19 rfl fun c₀ cs hu => ?_
  apply wpS_seq
  apply wpS_region
  simp [wpOpsS, go_sem, recoverD, hu, Tryd.ntmps19, Exit.thenS]
  apply wpS_seq
  apply wpS_region
  simp [wpOpsS, go_sem, Exit.thenS]
  refine wpS_cond (t := false) (by simp [Act.eval]) ?_
  simp only [Bool.false_eq_true, if_false]
  refine wpS_of_wp (wp_skip ?_)
  cases c₀
  simp_all [bodyPostS, results, Tryd.results19]
theorem allF_zero : ∀ (k n : Nat) (l : List UInt8), (allF k n l).2.1 = 0 → (allF k n l).2.2 = 0
  | 0, _, _, _ => rfl
  | k + 1, n, [], _ => rfl
  | k + 1, n, c :: t, h => by
    rw [allF_succ] at h ⊢
    simp only at h ⊢
    split at h
    · rename_i e he
      exact absurd h (oneL_bad he)
    · rename_i kind len v he
      simp only [he]
      exact allF_zero _ _ _ h
theorem allL_zero (l : List UInt8) (h : (allL l).2.1 = 0) : (allL l).2.2 = 0 := by
  unfold allL at h ⊢
  split
  · rfl
  · rename_i hn
    rw [if_neg hn] at h
    exact allF_zero _ _ _ h
def faultW (w : World) (F : Nat) (why : Int) (i : Nat) : World := ((w.alloc (.cells #[.int .i64 why, .int .i64 (i : Nat)] 40)).setCell ⟨F, 0, none⟩ (.int .i64 why)).setCell ⟨F, 1, none⟩ (.int .i64 (i : Nat))
theorem faultW_facts {w : World} {F : Nat} {c0 c1 : Value} (hF : w.heap[F]? = some (.cells #[c0, c1] 40 (0, 0))) (why : Int) (i : Nat) :
    (faultW w F why i).heap[F]? = some (.cells #[.int .i64 why, .int .i64 (i : Nat)] 40 (0, 0)) ∧ (∀ b, b < w.heap.size → b ≠ F → (faultW w F why i).heap[b]? = w.heap[b]?) ∧ (∀ n0, n0 ≤ F → Below n0 w (faultW w F why i)) ∧
    ∀ (B n1 : Nat) (out : List S28), OutT w B n1 out → F < n1 → F ≠ B → OutT (faultW w F why i) B n1 out := by
  have hF1 : (w.alloc (.cells #[.int .i64 why, .int .i64 (i : Nat)] 40)).heap[F]? = some (.cells #[c0, c1] 40 (0, 0)) := (Below.heap_alloc _ _ F (blk_lt hF)).trans hF
  have hk : ∀ b, b < w.heap.size → b ≠ F → (faultW w F why i).heap[b]? = w.heap[b]? := fun b h1 h2 => (Below.heap_setCell _ _ _ b h2).trans ((Below.heap_setCell _ _ _ b h2).trans (Below.heap_alloc _ _ b h1))
  refine ⟨blk_put (blk_put hF1 0 _ rfl) 1 _ rfl, hk, fun n0 hn => ?_, ?_⟩
  · have := blk_lt hF
    exact (((Below.refl n0 w).alloc (by omega) _).setCell (p := ⟨F, 0, none⟩) hn _).setCell (p := ⟨F, 1, none⟩) hn _
  · rintro B n1 out ⟨v, h1, h2⟩ h3 h4
    exact ⟨v, (hk B h1.lt (fun e => h4 e.symm)).trans h1, ownsRow_setCell_below (ownsRow_setCell_below (h2.alloc _) (a := ⟨F, 0, none⟩) h3 _) (a := ⟨F, 1, none⟩) h3 _⟩
theorem assert_fault (v : Value) (w : World) : (Instr.typeAssert (.iface 40 v) 20 40 true).run Tryd.prog w = .ok (.tuple #[v, .bool true]) w := by kernel_rfl
set_option maxRecDepth 100000 in
set_option maxHeartbeats 1600000 in
theorem caught_panicking (F : Nat) (why : Int) (i : Nat) (w : World) (c0 c1 : Value) (hF : w.heap[F]? = some (.cells #[c0, c1] 40 (0, 0))) :
    CallsD Tryd.prog 19 #[.pointer (some ⟨F, 0, none⟩)] (.panicking [{ v := .iface 40 (.agg #[.int .i64 why, .int .i64 (i : Nat)]), recovered := false }]) w fun e u' w' =>
      e = .returned (.tuple #[]) ∧ u' = .panicking [{ v := .iface 40 (.agg #[.int .i64 why, .int .i64 (i : Nat)]), recovered := true }] ∧ w' = faultW w F why i := by
  have hF1 : (w.alloc (.cells #[.int .i64 why, .int .i64 (i : Nat)] 40)).heap[F]? = some (.cells #[c0, c1] 40 (0, 0)) := (Below.heap_alloc _ _ F (blk_lt hF)).trans hF
  have y0 : (w.alloc (.cells #[.int .i64 why, .int .i64 (i : Nat)] 40)).cell? ⟨F, 0, none⟩ = some c0 := blk_cell hF1 0
  have y1 : (w.alloc (.cells #[.int .i64 why, .int .i64 (i : Nat)] 40)).cell? ⟨F, 1, none⟩ = some c1 := blk_cell hF1 1
  have z0 := blk_frozen hF1 0
  have z1 := blk_frozen hF1 1
  refine callsD_of_wpS Tryd.func19 rfl fun c₀ cs hu => ?_
  simp only [Tryd.ntmps19, List.size_toArray, List.length_cons, List.length_nil, Nat.reduceAdd, Nat.reduceSub, Array.replicate_succ,
     Array.replicate_zero, List.push_toArray, List.append_toArray, List.nil_append, List.cons_append]
  apply wpS_seq
  apply wpS_region
  simp [wpOpsS, go_sem, recoverD, hu, Exit.thenS]
  apply wpS_seq
  apply wpS_region
  simp [wpOpsS, go_sem, Exit.thenS]
  refine wpS_cond (t := true) (by simp [Act.eval]) ?_
  simp only [if_true]
  refine wpS_of_wp ?_
  generalize hQ : (fun e a' w' => bodyPostS Tryd.prog _ c₀ cs _ e a' _ w') = Q
  have HQ := Lib.hid hQ
  clear hQ
  have hta := assert_fault (.agg #[.int .i64 why, .int .i64 (i : Nat)]) w
  go_wp2_with fail
  rw [← HQ.out]
  exact ⟨rfl, _, rfl, _, results_none rfl _ _ _, rfl, rfl, rfl⟩
set_option maxRecDepth 100000 in
set_option maxHeartbeats 4000000 in
theorem scan1_calls (s : ByteArray) (hs : s.size ≤ 65536) (w0 W : World) (hl : LxLaid w0) (hB0 : Below w0.heap.size w0 W) (F S B : Nat) (hF : W.heap[F]? = some (.cells #[.int .i64 0, .int .i64 0] 40 (0, 0))) (hS : Boxed W S 9 (.string s)) (hv : Boxed W B 22 (.slice none 0 0)) (hF0 : w0.heap.size ≤ F) (hn0 : w0.heap.size ≤ B) (hFB : F ≠ B) :
    Calls Tryd.prog 18 #[.pointer (some ⟨F, 0, none⟩), .pointer (some ⟨S, 0, none⟩), .pointer (some ⟨B, 0, none⟩)] W fun e w' => e = .returned (.tuple #[]) ∧ w'.heap[F]? = some (.cells #[.int .i64 (allL (ll s)).2.1, .int .i64 ((allL (ll s)).2.2 : Nat)] 40 (0, 0)) ∧
      OutT w' B W.heap.size ((allL (ll s)).1.map tokS) ∧ (∀ b, b < W.heap.size → b ≠ B → b ≠ F → w'.heap[b]? = W.heap[b]?) ∧ Below w0.heap.size W w' := by
  have hmf : ∀ (fn : Fn) (first cap : Array Value) (w : World), (Instr.makeFunc fn first cap).run Tryd.prog w = .ok (.func fn first cap) w := fun _ _ _ _ => rfl
  have hcS := hS.cell
  have HALL := Lib.hid (all_calls _ yield_scan s hs w0 W hl hB0 B hv hv.lt hn0)
  have HF := Lib.hid hF
  have hFlt := blk_lt hF
  clear hl hB0 hS hv hF
  go_enter_defers Tryd.func18, Tryd.ntmps18
  go_wp2_with fail
  refine HALL.out.mono ?_
  rintro e w1 ⟨he, ho, hk, hb⟩
  have HO := Lib.hid ho; have HK := Lib.hid hk; have HB := Lib.hid hb
  have hF1 := (hk F hFlt hFB).trans HF.out
  clear ho hk hb
  unfold AllEnd at he
  generalize hr : allL (ll s) = r at *
  have HR := Lib.hid hr
  clear hr
  obtain ⟨T, why, i⟩ := r
  by_cases h0 : why = 0
  · rw [if_pos h0] at he
    subst he
    go_wp2_with fail
    refine leaves_cons (f := 19) (args := #[.pointer (some ⟨F, 0, none⟩)]) (by simp) (by simp [go_sem]) ?_
    refine (caught_idle ⟨F, 0, none⟩ _).mono ?_
    rintro e u' w2 ⟨rfl, rfl, rfl⟩
    simp [Leaves, settle, results, Tryd.results18, go_sem]
    have hz := allL_zero (ll s) (by rw [HR.out]; exact h0)
    rw [HR.out] at hz ⊢
    have hz' : i = 0 := hz
    subst hz'
    subst h0
    exact ⟨hF1, HO.out, fun b h1 h2 _ => HK.out b h1 h2, HB.out⟩
  · rw [if_neg h0] at he
    subst he
    unfold thrown
    go_wp2_with fail
    refine leaves_cons (f := 19) (args := #[.pointer (some ⟨F, 0, none⟩)]) (by simp) (by simp [go_sem]) ?_
    refine (caught_panicking F why i _ _ _ hF1).mono ?_
    rintro e u' w2 ⟨rfl, rfl, rfl⟩
    simp [Leaves, settle, results, Tryd.results18, go_sem]
    rw [HR.out]
    obtain ⟨g1, g2, g3, g4⟩ := faultW_facts hF1 why i
    have hsz := HB.out.size
    exact ⟨g1, g4 _ _ _ HO.out hFlt hFB, fun b h1 h2 h3 => (g2 b (by omega) h3).trans (HK.out b h1 h2), HB.out.trans (g3 _ hF0)⟩
set_option maxRecDepth 100000 in
set_option maxHeartbeats 4000000 in
theorem each11_calls (s : ByteArray) (hs : s.size ≤ 65536) (w0 W : World) (hl : LxLaid w0) (hB0 : Below w0.heap.size w0 W) (F S B : Nat) (hF : W.heap[F]? = some (.cells #[.int .i64 0, .int .i64 0] 40 (0, 0))) (hS : Boxed W S 9 (.string s)) (hv : Boxed W B 22 (.slice none 0 0)) (hF0 : w0.heap.size ≤ F) (hn0 : w0.heap.size ≤ B) (hFB : F ≠ B) :
    Calls Tryd.prog 28 #[.pointer (some ⟨F, 0, none⟩), .pointer (some ⟨S, 0, none⟩), .pointer (some ⟨B, 0, none⟩)] W fun e w' => e = .returned (.tuple #[]) ∧ w'.heap[F]? = some (.cells #[.int .i64 (allL (ll s)).2.1, .int .i64 ((allL (ll s)).2.2 : Nat)] 40 (0, 0)) ∧
      OutT w' B W.heap.size ((allL (ll s)).1.map tokS) ∧ (∀ b, b < W.heap.size → b ≠ B → b ≠ F → w'.heap[b]? = W.heap[b]?) ∧ Below w0.heap.size W w' := by
  have hmf : ∀ (fn : Fn) (first cap : Array Value) (w : World), (Instr.makeFunc fn first cap).run Tryd.prog w = .ok (.func fn first cap) w := fun _ _ _ _ => rfl
  have hcS := hS.cell
  have HALL := Lib.hid (all_calls _ yield_each s hs w0 W hl hB0 B hv hv.lt hn0)
  have HF := Lib.hid hF
  have hFlt := blk_lt hF
  clear hl hB0 hS hv hF
  go_enter_defers Tryd.func28, Tryd.ntmps28
  go_wp2_with fail
  refine HALL.out.mono ?_
  rintro e w1 ⟨he, ho, hk, hb⟩
  have HO := Lib.hid ho; have HK := Lib.hid hk; have HB := Lib.hid hb
  have hF1 := (hk F hFlt hFB).trans HF.out
  clear ho hk hb
  unfold AllEnd at he
  generalize hr : allL (ll s) = r at *
  have HR := Lib.hid hr
  clear hr
  obtain ⟨T, why, i⟩ := r
  by_cases h0 : why = 0
  · rw [if_pos h0] at he
    subst he
    go_wp2_with fail
    refine leaves_cons (f := 19) (args := #[.pointer (some ⟨F, 0, none⟩)]) (by simp) (by simp [go_sem]) ?_
    refine (caught_idle ⟨F, 0, none⟩ _).mono ?_
    rintro e u' w2 ⟨rfl, rfl, rfl⟩
    simp [Leaves, settle, results, Tryd.results28, go_sem]
    have hz := allL_zero (ll s) (by rw [HR.out]; exact h0)
    rw [HR.out] at hz ⊢
    have hz' : i = 0 := hz
    subst hz'
    subst h0
    exact ⟨hF1, HO.out, fun b h1 h2 _ => HK.out b h1 h2, HB.out⟩
  · rw [if_neg h0] at he
    subst he
    unfold thrown
    go_wp2_with fail
    refine leaves_cons (f := 19) (args := #[.pointer (some ⟨F, 0, none⟩)]) (by simp) (by simp [go_sem]) ?_
    refine (caught_panicking F why i _ _ _ hF1).mono ?_
    rintro e u' w2 ⟨rfl, rfl, rfl⟩
    simp [Leaves, settle, results, Tryd.results28, go_sem]
    rw [HR.out]
    obtain ⟨g1, g2, g3, g4⟩ := faultW_facts hF1 why i
    have hsz := HB.out.size
    exact ⟨g1, g4 _ _ _ HO.out hFlt hFB, fun b h1 h2 h3 => (g2 b (by omega) h3).trans (HK.out b h1 h2), HB.out.trans (g3 _ hF0)⟩

end Go.Proofs.YtgpdahgpopmjiaaDoor.PL
