/- Parts of the laws of bits: functions of the program, each with the proof of what it answers; the conditions are those of each theorem. -/
import Derived.Test.YtfkbkcdiajjljaaDoorBc
import Derived.Lib.LazyBuf
namespace Go.Proofs.YtfkbkcdiajjljaaDoor.PBitsSteps
open Go.RowKit Go.Proofs.YtfkbkcdiajjljaaDoorW.PrintWords Go.Proofs.YtfkbkcdiajjljaaDoorW.PrintLast Go.Proofs.YtfkbkcdiajjljaaDoorW.PrintMore
set_option linter.unusedVariables false
set_option linter.unusedSimpArgs false
set_option maxHeartbeats 8000000 in
theorem clone_pages (w : World) (gp n c : Nat) (cs : Array Value) (h : w.heap[gp]? = some (.cells cs 86 (0, 0))) (hn : 0 < n) (hn2 : n ≤ 64) (hc : 16 * n ≤ cs.size) (h1 : ∀ i u, i < 16 * n → cs[i]? = some u → u.oneCell' = true) :
    Calls Tryd.prog 63 #[.slice (some ⟨gp, 0, none⟩) n c] w fun e w' => ∃ g' cap cur, e = .returned (.slice (some ⟨g', 0, none⟩) n cap) ∧ w.heap.size ≤ g' ∧ w'.heap[g']? = some (.cells cur 86 (0, 0)) ∧ (∀ i, i < 16 * n → cur[i]? = cs[i]?) ∧ n ≤ cap ∧ Below w.heap.size w w' := by
  have hu := Tryd.underlying73
  obtain ⟨i, z, hi1, hz, hs, hby, hzc⟩ := pagesInfo
  have hown : (w.alloc (.cells #[] 86)).ownsRow w.heap.size 86 16 (.slice (some ⟨w.heap.size, 0, none⟩) 0 0) 0 [] :=
    ⟨rfl, .inr ⟨w.heap.size, 0, #[], rfl, Nat.le_refl _, World.alloc_heap_new _ _, Nat.le_refl _, by decide, rfl, rfl⟩⟩
  have hnews : ∀ j u, (cs.toList.take (16 * n))[j]? = some u → (w.alloc (.cells #[] 86)).cell? ((Addr.mk gp 0 none).add j) = some u := by
    intro j u hj
    rw [List.getElem?_take] at hj
    split at hj
    · rw [add_zero_off, blk_cell ((Below.heap_alloc _ _ gp (blk_lt h)).trans h)]
      rw [← hj]; simp
    · cases hj
  have hone : ∀ u ∈ cs.toList.take (16 * n), u.oneCell' = true := by
    intro u hu
    obtain ⟨q, hq, rfl⟩ := List.mem_iff_getElem.1 hu
    rw [List.length_take] at hq
    refine h1 q _ (by omega) ?_
    rw [List.getElem_take]
    simp
  have hlen : (cs.toList.take (16 * n)).length = n * 16 := by rw [List.length_take, Array.length_toList]; omega
  have hzs : z.cells.size = 16 := by rw [hzc]; simp
  have hml : 0 + n ≤ maxLen := by simp only [maxLen]; omega
  have hle : w.heap.size ≤ (w.alloc (.cells #[] 86)).heap.size := by simp
  have hB0 : Below w.heap.size w (w.alloc (.cells #[] 86)) := (Below.refl _ _).alloc (Nat.le_refl _) _
  go_enter Tryd.func63, Tryd.ntmps63
  go_wp2_with fail
  rw [run_eql_slice_nil _ 73 86 _ n c hu]
  go_wp2_with ((with_reducible refine gate_dst (N := 7) rfl ?_); refine wpList_append_own _ rfl _ _ 73 rfl w.heap.size 86 i z 16 128 hu hi1 hz hs hby hzs (by decide) _ 0 [] rfl hown ⟨gp, 0, none⟩ n c _ rfl hlen hnews hone hml (by omega) hle ?_; intro v' w' hown' hg hnil; obtain ⟨g', cap, cur, rfl, k1, k2, k3, k4, k5, k6⟩ : ∃ g cap cur, v' = .slice (some ⟨g, 0, none⟩) n cap ∧ w.heap.size ≤ g ∧ w'.heap[g]? = some (.cells cur 86 (0, 0)) ∧ n ≤ cap ∧ cap ≤ maxLen ∧ cur.size = cap * 16 ∧ cur.toList.take (n * 16) = [] ++ cs.toList.take (16 * n) := (by rcases hown'.2 with ⟨_, h0⟩ | ⟨g, cap, cur, e, b⟩; omega; exact ⟨g, cap, cur, (by rw [e, Nat.zero_add]), (by rw [Nat.zero_add] at b; exact b)⟩))
  go_ret
  refine ⟨g', cap, cur, rfl, k1, k2, fun j hj => ?_, k3, hB0.grown hg hle (fun k hk => by cases hk; exact Nat.le_refl _)⟩
  have e1 : (cur.toList.take (n * 16))[j]? = (cs.toList.take (16 * n))[j]? := by rw [k6, List.nil_append]
  rw [List.getElem?_take, List.getElem?_take, if_pos (by omega), if_pos hj] at e1
  simpa using e1

end Go.Proofs.YtfkbkcdiajjljaaDoor.PBitsSteps
