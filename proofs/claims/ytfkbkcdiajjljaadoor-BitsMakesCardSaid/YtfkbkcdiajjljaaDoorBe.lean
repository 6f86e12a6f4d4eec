/- Parts of the laws of bits: functions of the program, each with the proof of what it answers; the conditions are those of each theorem. -/
import Derived.Test.YtfkbkcdiajjljaaDoorBd
import Derived.Deep.RegionHeld3
namespace Go.Proofs.YtfkbkcdiajjljaaDoor.PBitsSteps
open Go.RowKit Go.Proofs.YtfkbkcdiajjljaaDoorW.PrintWords Go.Proofs.YtfkbkcdiajjljaaDoorW.PrintLast Go.Proofs.YtfkbkcdiajjljaaDoorW.PrintMore
set_option linter.unusedVariables false
set_option linter.unusedSimpArgs false
/-- what Copy's region keeps -/
def CopyS (w : World) (g gp : Nat) (f r : Int) (n c : Nat) (cs : Array Value) (v : World) : Prop := v.heap[g]? = some (setB f r (some ⟨gp, 0, none⟩) n c) ∧ v.heap[gp]? = some (.cells cs 86 (0, 0)) ∧ Below w.heap.size w v
theorem copyS_all {w : World} {g gp : Nat} {f r : Int} {n c : Nat} {cs : Array Value} {v : World} (h : CopyS w g gp f r n c cs v) :
    v.cell? ⟨g, 0, none⟩ = some (.int .i64 f) ∧ v.cell? ⟨g, 1, none⟩ = some (.int .i64 r) ∧ v.cell? ⟨g, 2, none⟩ = some (.slice (some ⟨gp, 0, none⟩) n c) ∧ CopyS w g gp f r n c cs v :=
  ⟨setB_first h.1, setB_room h.1, setB_pages h.1, h⟩
theorem copyS_below {w : World} {g gp : Nat} {f r : Int} {n c : Nat} {cs : Array Value} {v v' : World} (h : CopyS w g gp f r n c cs v) (hb : Below v.heap.size v v') : CopyS w g gp f r n c cs v' :=
  ⟨(hb.block g (blk_lt h.1)).trans h.1, (hb.block gp (blk_lt h.2.1)).trans h.2.1, below_step h.2.2 hb⟩
set_option maxHeartbeats 16000000 in
theorem copy_raw (w : World) (g gp n c : Nat) (f r : Int) (cs : Array Value) (h0 : w.heap[g]? = some (setB f r (some ⟨gp, 0, none⟩) n c)) (h : w.heap[gp]? = some (.cells cs 86 (0, 0))) (hn : 0 < n) (hn2 : n ≤ 64) (hc : 16 * n ≤ cs.size) (h1 : ∀ i u, i < 16 * n → cs[i]? = some u → u.oneCell' = true) :
    Calls Tryd.prog 36 #[setP g] w fun e w' => ∃ g' gp' cap cur, e = .returned (setP g') ∧ w.heap.size ≤ g' ∧ w.heap.size ≤ gp' ∧ g' ≠ gp' ∧ w'.heap[g']? = some (setB f r (some ⟨gp', 0, none⟩) n cap) ∧ w'.heap[gp']? = some (.cells cur 86 (0, 0)) ∧ (∀ i, i < 16 * n → cur[i]? = cs[i]?) ∧ n ≤ cap ∧ Below w.heap.size w w' := by
  have c0 := setB_first h0; have c1 := setB_room h0; have c2 := setB_pages h0
  have hS : CopyS w g gp f r n c cs w.drew := ⟨h0, h, (Below.refl _ _).drew⟩
  have H := Lib.hid h; have H0 := Lib.hid h0; have H1 := Lib.hid h1
  clear h h0 h1
  have U : setP g = .pointer (some ⟨g, 0, none⟩) := rfl
  rw [U]
  go_enter Tryd.func36, Tryd.ntmps36
  go_wp2_with fail
  go_region_held3 (fun v => v.cell? ⟨g, 0, none⟩ = some (.int .i64 f) ∧ v.cell? ⟨g, 1, none⟩ = some (.int .i64 r) ∧ v.cell? ⟨g, 2, none⟩ = some (.slice (some ⟨gp, 0, none⟩) n c) ∧ CopyS w g gp f r n c cs v)
    (first | exact copyS_all hS | exact copyS_all hS1 | exact copyS_all (copyS_below hS1 ((Below.refl _ _).alloc (Nat.le_refl _) _)))
    (first | (go_at_call 63; refine (clone_pages _ gp n c cs ?_ hn hn2 hc H1.out).mono ?_; (exact hS.2.1); rintro e w1 ⟨gp', cap, cur, rfl, k1, k2, k3, k4, k5⟩; have hS1 := copyS_below hS k5))
  go_wp2_with fail
  go_ret
  refine ⟨w1.heap.size, gp', cap, cur, rfl, ?_, k1, ?_, World.alloc_heap_new _ _, (Below.heap_alloc _ _ gp' (blk_lt k2)).trans k2, k3, k4, ?_⟩
  · have := k5.size; exact this
  · have := blk_lt k2; omega
  · exact hS1.2.2.alloc (by have := k5.size; exact this) _
theorem SetAt.drawn {w : World} {g gp : Nat} {f r : Int} {M : Int → Bool} (h : SetAt w g gp f r M) (m : Nat) : SetAt (w.drewN m) g gp f r M := h.below (Drawn0.below ⟨⟨m, rfl⟩⟩)
/-- a copy: new blocks, the same values -/
theorem SetAt.copy {w : World} {g gp : Nat} {f r : Int} {M : Int → Bool} (h : SetAt w g gp f r M) :
    Calls Tryd.prog 36 #[setP g] w fun e w' => ∃ g' gp', e = .returned (setP g') ∧ w.heap.size ≤ g' ∧ w.heap.size ≤ gp' ∧ SetAt w' g' gp' f r M ∧ Below w.heap.size w w' := by
  obtain ⟨n, c, ws, cs, h1, h2, h3, h4, h5, h6⟩ := h
  have hr := h6.room
  have hsz : 16 * n ≤ cs.size := by
    have := (Array.getElem?_eq_some_iff.1 (h4 (16 * n - 1) (by omega))).1
    omega
  refine (copy_raw w g gp n c f r cs h1 h2 (by omega) (by omega) hsz (fun i u hi hu => ?_)).mono ?_
  · rw [h4 i hi] at hu
    cases hu
    rfl
  · rintro e w' ⟨g', gp', cap, cur, rfl, k1, k2, k3, k4, k5, k6, k7, k8⟩
    exact ⟨g', gp', rfl, k1, k2, ⟨n, cap, ws, cur, k4, k5, k3, fun i hi => (k6 i hi).trans (h4 i hi), k7, h6⟩, k8⟩
set_option maxHeartbeats 4000000 in
theorem SetAt.min {w : World} {g gp : Nat} {f r : Int} {M : Int → Bool} (h : SetAt w g gp f r M) (hL : TabLaid w) :
    Calls Tryd.prog 32 #[setP g] w fun e w' => (∃ n ok, e = .returned (.tuple #[.int .i64 n, .bool ok]) ∧ IsNext M f n ok) ∧ Drawn0 w w' := by
  have hs := h
  obtain ⟨n, c, ws, cs, h1, h2, h3, h4, h5, h6⟩ := h
  have hr := h6.room
  have H := Lib.hid h1; have HS := Lib.hid hs; have HL := Lib.hid hL
  clear h1 h2 h3 h4 h5 h6 hs hL
  have U : setP g = .pointer (some ⟨g, 0, none⟩) := rfl
  rw [U]
  go_enter Tryd.func32, Tryd.ntmps32
  go_wp2_with fail
  refine (bits_First.calls g f r _ n c _ H.out).mono ?_
  rintro e w1 ⟨rfl, ⟨⟨m, rfl⟩⟩⟩
  go_wp2_with fail
  refine (SetAt.next (HS.out.drawn m) (tab_drawn HL.out m) f (by omega)).mono ?_
  rintro e w1 ⟨⟨x, ok, rfl, hx⟩, ⟨⟨m1, rfl⟩⟩⟩
  go_wp2_with fail
  go_ret2
  exact ⟨⟨x, ok, rfl, hx⟩, ⟨⟨_, rfl⟩⟩⟩

end Go.Proofs.YtfkbkcdiajjljaaDoor.PBitsSteps
