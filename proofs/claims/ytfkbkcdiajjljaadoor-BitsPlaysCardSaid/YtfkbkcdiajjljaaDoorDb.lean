/- Parts of the laws of bits: functions of the program, each with the proof of what it answers; the conditions are those of each theorem. -/
import Derived.Test.YtfkbkcdiajjljaaDoorDa
import Derived.Deep.MidRow
import Derived.Test.YtfkbkcdiajjljaaDoorPBitsStepsx2
namespace Go.Proofs.YtfkbkcdiajjljaaDoor.PBitsSteps
open Go.RowKit Go.Proofs.YtfkbkcdiajjljaaDoorW.PrintWords Go.Proofs.YtfkbkcdiajjljaaDoorW.PrintLast Go.Proofs.YtfkbkcdiajjljaaDoorW.PrintMore
set_option linter.unusedVariables false
set_option linter.unusedSimpArgs false
/-! ### ranges that are right -/
def rightL : Int → List S71 → Bool
  | _, [] => true
  | e, s :: t => if s.f0 ≤ e + 1 then false else if s.f1 < s.f0 then false else if s.f1 > 1000000 then false else rightL s.f1 t
def rightS (l : List S71) : Bool := if 4096 < l.length then false else rightL (-1000002) l
theorem rd71 (l : List S71) (i : Nat) (h : i < l.length) : rd_T71 l (i : Int) = l[i] := by
  unfold rd_T71
  rw [Int.toNat_natCast, List.getD_eq_getElem?_getD, List.getElem?_eq_getElem h]
  rfl
theorem right_l0 (l : List S71) (hl : l.length ≤ 4096) : ∀ (d i : Nat) (e : Int), l.length = i + d → -1000002 ≤ e → e ≤ 1000000 → dom_Right.l0 (d + 1) e l (l.length : Int) (i : Int) = some (rightL e (l.drop i))
  | 0, i, e, hd, h1, h2 => by
    simp only [dom_Right.l0]
    rw [if_neg (by omega), List.drop_eq_nil_of_le (by omega)]
    rfl
  | d + 1, i, e, hd, h1, h2 => by
    have hi : i < l.length := by omega
    rw [List.drop_eq_getElem_cons hi]
    simp only [dom_Right.l0]
    rw [if_pos (by omega), if_pos (by omega), if_pos (by omega), rd71 l i hi]
    rw [show wrap64 (e + 1) = e + 1 from IntWalk.wrap64_in _ (by omega)]
    unfold rightL
    generalize l[i] = s
    by_cases c1 : s.f0 ≤ e + 1
    · rw [if_pos c1, if_pos c1]
    · rw [if_neg c1, if_neg c1]
      by_cases c2 : s.f1 < s.f0
      · rw [if_pos c2, if_pos c2]
      · rw [if_neg c2, if_neg c2]
        by_cases c3 : s.f1 > 1000000
        · rw [if_pos c3, if_pos c3]
        · rw [if_neg c3, if_neg c3]
          rw [show wrap64 ((i : Int) + 1) = ((i + 1 : Nat) : Int) from IntWalk.wrap64_in _ (by omega)]
          exact right_l0 l hl d (i + 1) s.f1 (by omega) (by omega) (by omega)
theorem right_f (l : List S71) : dom_Right.f (l.length + 1) l = some (rightS l) := by
  unfold dom_Right.f rightS
  by_cases h : 4096 < l.length
  · rw [if_pos (by omega), if_pos h]
  · rw [if_neg (by omega), if_neg h]
    exact right_l0 l (by omega) l.length 0 _ (by omega) (by omega) (by omega)
theorem right_calls (A : Option Addr) (c : Nat) (l : List S71) (w : World) (h : Kd.C k71 w A l.length l) (hc : l.length ≤ c) :
    Calls Tryd.prog 69 #[.slice A l.length c] w fun e w' => e = .returned (.bool (rightS l)) ∧ Below w.heap.size w w' :=
  dom_Right.calls _ A c l _ w h hc (right_f l)
/-- ranges as they are taken: the very slice, or nil -/
def takenV (A : Option Addr) (c : Nat) (l : List S71) : Value := if rightS l then .slice A l.length c else .slice none 0 0
set_option maxHeartbeats 4000000 in
theorem taken_calls (A : Option Addr) (c : Nat) (l : List S71) (w : World) (h : Kd.C k71 w A l.length l) (hc : l.length ≤ c) :
    Calls Tryd.prog 65 #[.slice A l.length c] w fun e w' => e = .returned (takenV A c l) ∧ Below w.heap.size w w' := by
  unfold takenV
  cases hR : rightS l with
  | true =>
    go_enter Tryd.func65, Tryd.ntmps65
    go_wp2_with fail
    refine (right_calls A c l _ h hc).mono ?_
    rw [hR]
    rintro e w1 ⟨rfl, hb⟩
    go_wp2_with fail
    go_ret
    exact ⟨rfl, hb⟩
  | false =>
    go_enter Tryd.func65, Tryd.ntmps65
    go_wp2_with fail
    refine (right_calls A c l _ h hc).mono ?_
    rw [hR]
    rintro e w1 ⟨rfl, hb⟩
    go_wp2_with fail
    go_ret
    exact ⟨rfl, hb⟩
theorem right_head {s : S71} {l : List S71} (h : rightS (s :: l) = true) : -1000000 ≤ s.f0 ∧ s.f0 ≤ s.f1 ∧ s.f1 ≤ 1000000 := by
  unfold rightS at h
  split at h
  · cases h
  · unfold rightL at h
    split at h
    · cases h
    · split at h
      · cases h
      · split at h
        · cases h
        · omega
/-- the least: of ranges that are right -/
def minS (l : List S71) : Int × Bool := if rightS l then (match l with | [] => (0, false) | s :: _ => (s.f0, true)) else (0, false)

theorem k71_head {w : World} {A : Option Addr} {n : Nat} {s : S71} {t : List S71} (h : Kd.C k71 w A n (s :: t)) : n = t.length + 1 ∧ ∃ ad, A = some ad ∧ w.cell? ad = some (.int .i64 s.f0) ∧ w.cell? ⟨ad.block, ad.off + 1, none⟩ = some (.int .i64 s.f1) := by
  have hn : n = t.length + 1 := by have := h.1; simpa using this.symm
  obtain ⟨ad, e, h0, h1⟩ := at_T71 h 0 (by omega) (by omega)
  refine ⟨hn, ad, e, ?_, ?_⟩
  · have := h0; rw [show (0 : Int).toNat * 2 = 0 from rfl, show ad.add 0 = ad by simp [Addr.add]] at this; exact this
  · have := h1; rw [show (0 : Int).toNat * 2 = 0 from rfl, show ad.add 0 = ad by simp [Addr.add]] at this; exact this
set_option maxHeartbeats 8000000 in
theorem next_min_some (A : Option Addr) (c : Nat) (s : S71) (t : List S71) (w : World) (h : Kd.C k71 w A (s :: t).length (s :: t)) (hc : (s :: t).length ≤ c) (hR : rightS (s :: t) = true) :
    Calls Tryd.prog 64 #[.slice A (s :: t).length c, .int .i64 (-1000000)] w fun e w' => e = .returned (.tuple #[.int .i64 s.f0, .bool true]) ∧ Below w.heap.size w w' := by
  have hs := right_head hR
  obtain ⟨hn, ad, rfl, a0, a1⟩ := k71_head h
  have hlen : (s :: t).length ≤ 4096 := by
    unfold rightS at hR
    split at hR
    · cases hR
    · omega
  have H := Lib.hid h; have HC := Lib.hid hc; have HR := Lib.hid hR
  clear h hc hR
  have hp1 : decide ((-1000000 : Int) ≤ s.f1) = true := decide_eq_true (by omega)
  go_enter Tryd.func64, Tryd.ntmps64
  go_wp2_with fail
  go_step3
  go_wp2_with fail
  go_step3
  go_wp2_with fail
  refine (taken_calls _ c (s :: t) _ H.out HC.out).mono ?_
  unfold takenV
  rw [HR.out, if_pos rfl]
  rintro e w1 ⟨rfl, hb⟩
  have b0 : w1.cell? ad = some (.int .i64 s.f0) := (hb.cell (World.block_lt_of_cell? w _ a0)).trans a0
  have b1 : w1.cell? ⟨ad.block, ad.off + 1, none⟩ = some (.int .i64 s.f1) := (hb.cell (World.block_lt_of_cell? w _ a1)).trans a1
  have HB := Lib.hid hb
  clear hb a0 a1
  generalize hm : (s :: t).length = m at *
  have hm1 : 1 ≤ m := by rw [← hm]; simp
  have HM := Lib.hid hm
  clear hm hn
  go_wp2_with fail
  go_loopw [6, 7, 13] (fun a b i wr => a = .int .i64 0 ∧ b = .bool false ∧ i = .int .i64 0 ∧ wr = w1) (fun _ _ _ _ => 0)
  case atStart => exact ⟨rfl, rfl, rfl, rfl⟩
  case round =>
    obtain ⟨rfl, rfl, rfl, rfl⟩ := hrel
    have hd : decide ((0 : Int) < (m : Int)) = true := decide_eq_true (by omega)
    go_wp2_with fail
    all_goals go_ret2
    · exact ⟨rfl, HB.out.alloc (HB.out.size) _⟩
    · exact ⟨by rw [show s.f0 = -1000000 by omega]; rfl, HB.out.alloc (HB.out.size) _⟩
set_option maxHeartbeats 8000000 in
theorem next_min_none (A : Option Addr) (c : Nat) (l : List S71) (w : World) (h : Kd.C k71 w A l.length l) (hc : l.length ≤ c) (hN : l = [] ∨ rightS l = false) :
    Calls Tryd.prog 64 #[.slice A l.length c, .int .i64 (-1000000)] w fun e w' => e = .returned (.tuple #[.int .i64 0, .bool false]) ∧ Below w.heap.size w w' := by
  have hV : ∃ A1 c1, takenV A c l = .slice A1 0 c1 := by
    unfold takenV
    rcases hN with rfl | hN
    · split
      · exact ⟨_, _, rfl⟩
      · exact ⟨_, _, rfl⟩
    · rw [hN]; exact ⟨_, _, rfl⟩
  have H := Lib.hid h; have HC := Lib.hid hc
  clear h hc hN
  go_enter Tryd.func64, Tryd.ntmps64
  go_wp2_with fail
  go_step3
  go_wp2_with fail
  go_step3
  go_wp2_with fail
  refine (taken_calls _ c l _ H.out HC.out).mono ?_
  obtain ⟨A1, c1, hV⟩ := hV
  rw [hV]
  clear hV
  rintro e w1 ⟨rfl, hb⟩
  have HB := Lib.hid hb
  clear hb
  go_wp2_with fail
  go_loopw [6, 7, 13] (fun a b i wr => a = .int .i64 0 ∧ b = .bool false ∧ i = .int .i64 0 ∧ wr = w1) (fun _ _ _ _ => 0)
  case atStart => exact ⟨rfl, rfl, rfl, rfl⟩
  case round =>
    obtain ⟨rfl, rfl, rfl, rfl⟩ := hrel
    go_wp2_with fail
    rw [Exit.noGoto_ret]
    go_ret2
    exact ⟨rfl, HB.out⟩
set_option maxHeartbeats 4000000 in
theorem min_calls (A : Option Addr) (c : Nat) (l : List S71) (w : World) (h : Kd.C k71 w A l.length l) (hc : l.length ≤ c) :
    Calls Tryd.prog 38 #[.slice A l.length c] w fun e w' => e = .returned (.tuple #[.int .i64 (minS l).1, .bool (minS l).2]) ∧ Below w.heap.size w w' := by
  by_cases hN : l = [] ∨ rightS l = false
  · have e : minS l = (0, false) := by
      unfold minS
      rcases hN with rfl | hN
      · split <;> rfl
      · rw [hN]; rfl
    rw [e]
    have HX := Lib.hid (next_min_none A c l w h hc hN)
    clear h hc hN
    go_enter Tryd.func38, Tryd.ntmps38
    go_wp2_with fail
    refine HX.out.mono ?_
    rintro e w1 ⟨rfl, hb⟩
    go_wp2_with fail
    go_ret2
    exact ⟨rfl, hb⟩
  · obtain ⟨h1, h2⟩ := not_or.1 hN
    have h2 : rightS l = true := by simpa using h2
    cases l with
    | nil => exact absurd rfl h1
    | cons s t =>
      have e : minS (s :: t) = (s.f0, true) := by unfold minS; rw [h2]; rfl
      rw [e]
      have HX := Lib.hid (next_min_some A c s t w h hc h2)
      clear h hc hN h1 h2
      go_enter Tryd.func38, Tryd.ntmps38
      go_wp2_with fail
      refine HX.out.mono ?_
      rintro e w1 ⟨rfl, hb⟩
      go_wp2_with fail
      go_ret2
      exact ⟨rfl, hb⟩
/-- the greatest -/
def maxS (l : List S71) : Int × Bool := if rightS l then (match l.getLast? with | none => (0, false) | some s => (s.f1, true)) else (0, false)
set_option maxHeartbeats 4000000 in
theorem max_calls (A : Option Addr) (c : Nat) (l : List S71) (w : World) (h : Kd.C k71 w A l.length l) (hc : l.length ≤ c) :
    Calls Tryd.prog 39 #[.slice A l.length c] w fun e w' => e = .returned (.tuple #[.int .i64 (maxS l).1, .bool (maxS l).2]) ∧ Below w.heap.size w w' := by
  by_cases hN : l = [] ∨ rightS l = false
  · have e : maxS l = (0, false) := by
      unfold maxS
      rcases hN with rfl | hN
      · split <;> rfl
      · rw [hN]; rfl
    rw [e]
    have hV : ∃ A1 c1, takenV A c l = .slice A1 0 c1 := by
      unfold takenV
      rcases hN with rfl | hN
      · split
        · exact ⟨_, _, rfl⟩
        · exact ⟨_, _, rfl⟩
      · rw [hN]; exact ⟨_, _, rfl⟩
    have HX := Lib.hid (taken_calls A c l w h hc)
    clear h hc hN
    obtain ⟨A1, c1, hV⟩ := hV
    rw [hV] at HX
    clear hV
    go_enter Tryd.func39, Tryd.ntmps39
    go_wp2_with fail
    refine HX.out.mono ?_
    rintro e w1 ⟨rfl, hb⟩
    go_wp2_with fail
    go_ret2
    exact ⟨rfl, hb⟩
  · obtain ⟨h1, h2⟩ := not_or.1 hN
    have h2 : rightS l = true := by simpa using h2
    have hV : takenV A c l = .slice A l.length c := by unfold takenV; rw [h2, if_pos rfl]
    have HX := Lib.hid (taken_calls A c l w h hc)
    rw [hV] at HX
    rcases snoc_cases l with rfl | ⟨ys, s, rfl⟩
    · exact absurd rfl h1
    · have e : maxS (ys ++ [s]) = (s.f1, true) := by unfold maxS; rw [h2]; simp
      rw [e]
      have hm : (ys ++ [s]).length = ys.length + 1 := by simp
      have hm2 : ys.length + 1 ≤ 4096 := by
        unfold rightS at h2
        split at h2
        · cases h2
        · omega
      obtain ⟨ad, rfl, a0, a1⟩ := at_T71 h (ys.length : Int) (by omega) (by omega)
      rw [rd71 _ _ (by omega)] at a1
      rw [show (ys ++ [s])[ys.length]'(by omega) = s by simp] at a1
      rw [Int.toNat_natCast] at a1
      clear a0 h hc hN h1 h2 e hV
      rw [hm] at HX ⊢
      generalize ys.length = m at *
      go_enter Tryd.func39, Tryd.ntmps39
      go_wp2_with fail
      refine HX.out.mono ?_
      rintro e w1 ⟨rfl, hb⟩
      have b1 := (hb.cell (World.block_lt_of_cell? w _ a1)).trans a1
      clear a1
      go_wp2_with fail
      go_ret2
      exact ⟨rfl, hb⟩

end Go.Proofs.YtfkbkcdiajjljaaDoor.PBitsSteps

namespace Go.Proofs.YtfkbkcdiajjljaaDoor.PBitsSteps
open Go.RowKit Go.Proofs.YtfkbkcdiajjljaaDoorW.PrintWords Go.Proofs.YtfkbkcdiajjljaaDoorW.PrintLast Go.Proofs.YtfkbkcdiajjljaaDoorW.PrintMore
set_option linter.unusedVariables false
set_option linter.unusedSimpArgs false
theorem C_keep {W W' : World} {g n : Nat} {l : List S71} (h : Kd.C k71 W (some ⟨g, 0, none⟩) n l) (e : W'.heap[g]? = W.heap[g]?) : Kd.C k71 W' (some ⟨g, 0, none⟩) n l := by
  refine ⟨h.1, h.2.1, fun hn => ?_⟩
  obtain ⟨ad, ea, hc⟩ := h.2.2 hn
  injection ea with ea
  subst ea
  refine ⟨_, rfl, fun j p hj => ?_⟩
  obtain ⟨c, h1, h2, h3⟩ := hc j p hj
  refine ⟨c, h1, ?_, fun i u hu => ?_⟩
  · obtain rfl := k71_open h2
    exact k71_mk _ _
  · rw [← h3 i u hu, add_zero_off]
    exact World.cell?_of_block (a := ⟨g, _, none⟩) e
set_option maxHeartbeats 8000000 in
theorem clone_ranges (w : World) (ad : Addr) (c : Nat) (l : List S71) (h : Kd.C k71 w (some ad) l.length l) (hn : 0 < l.length) (hn2 : l.length ≤ 4096) :
    Calls Tryd.prog 66 #[.slice (some ad) l.length c] w fun e w' => ∃ g' cap, e = .returned (.slice (some ⟨g', 0, none⟩) l.length cap) ∧ w.heap.size ≤ g' ∧ g' < w'.heap.size ∧ Kd.C k71 w' (some ⟨g', 0, none⟩) l.length l ∧ Below w.heap.size w w' := by
  have hu := Tryd.underlying22
  obtain ⟨i, hi1, hz, hs, hby⟩ := info_parts Tryd.info71
  have hown : (w.alloc (.cells #[] 71)).ownsRow w.heap.size 71 2 (.slice (some ⟨w.heap.size, 0, none⟩) 0 0) 0 [] :=
    ⟨rfl, .inr ⟨w.heap.size, 0, #[], rfl, Nat.le_refl _, World.alloc_heap_new _ _, Nat.le_refl _, by decide, rfl, rfl⟩⟩
  have hC2 : Kd.C k71 (w.alloc (.cells #[] 71)) (some ad) l.length l := Kd.C_below h ((Below.refl _ _).alloc (Nat.le_refl _) _)
  obtain ⟨news, hreps, hnews⟩ := ReadsRow.inner_ hC2
  have hone : ∀ u ∈ news, u.oneCell' = true := by
    intro u hu
    obtain ⟨q, hq, rfl⟩ := List.mem_iff_getElem.1 hu
    have hql : q / 2 < l.length := by have := hreps.1; change news.length = l.length * 2 at this; omega
    have hc := hreps.2 (q / 2) _ (List.getElem?_eq_getElem hql)
    have e := k71_open hc
    have e2 : ((news.drop (q / 2 * 2)).take 2)[q % 2]? = some news[q] := by
      rw [List.getElem?_take, if_pos (Nat.mod_lt _ (by decide)), List.getElem?_drop, show q / 2 * 2 + q % 2 = q by omega, List.getElem?_eq_getElem hq]
    rw [show ((news.drop (q / 2 * 2)).take 2) = _ from e] at e2
    rcases Nat.mod_two_eq_zero_or_one q with h0 | h0 <;> rw [h0] at e2 <;> simp at e2 <;> rw [← e2] <;> rfl
  have hlen : news.length = l.length * 2 := hreps.1
  have hml : 0 + l.length ≤ maxLen := by simp only [maxLen]; omega
  have hle : w.heap.size ≤ (w.alloc (.cells #[] 71)).heap.size := by simp
  have hB0 : Below w.heap.size w (w.alloc (.cells #[] 71)) := (Below.refl _ _).alloc (Nat.le_refl _) _
  have HREPS := Lib.hid hreps
  have HN := Lib.hid hn
  clear hreps h hC2 hn
  generalize hm : l.length = m at *
  go_enter Tryd.func66, Tryd.ntmps66
  go_wp2_with fail
  rw [run_eql_slice_nil _ 22 71 _ m c hu]
  go_wp2_with ((with_reducible refine gate_dst (N := 7) rfl ?_); refine wpList_append_own _ rfl _ _ 22 rfl w.heap.size 71 i _ 2 16 hu hi1 hz hs hby rfl (by decide) _ 0 [] rfl hown ad m c _ rfl hlen hnews hone hml (by omega) hle ?_; intro v' w' hown' hg hnil; obtain ⟨g', cap, rfl, hown2⟩ : ∃ g cap, v' = .slice (some ⟨g, 0, none⟩) m cap ∧ w'.ownsRow w.heap.size 71 2 (.slice (some ⟨g, 0, none⟩) m cap) m news := (by rw [Nat.zero_add, List.nil_append] at hown'; rcases hown'.2 with ⟨_, h0⟩ | ⟨g, cap, cur, e, b⟩; exact absurd h0 (by have := HN.out; omega); exact ⟨g, cap, e, e ▸ hown'⟩))
  go_ret
  have hb := hB0.grown hg hle (fun k hk => by cases hk; exact Nat.le_refl _)
  obtain ⟨A, c2, e1, hC⟩ := own_reads_row (ps := l) hown2 (HREPS.out.imp_ (fun p cs hp => by obtain rfl := k71_open hp; exact k71_mk w' p)) hm
  injection e1 with e1 e2 e3
  subst e1
  exact ⟨g', cap, rfl, own_base hown2 g' rfl, own_lt hown2 g' rfl, hC, hb⟩

set_option maxHeartbeats 4000000 in
theorem dom_each_calls (ad : Addr) (c : Nat) (l : List S71) (w : World) (h : Kd.C k71 w (some ad) l.length l) (hc : l.length ≤ c) (hn : 0 < l.length) (hR : rightS l = true) :
    Calls Tryd.prog 40 #[.slice (some ad) l.length c] w fun e w' => ∃ B g' cap, e = .returned (.func (.func 67) #[] #[.pointer (some ⟨B, 0, none⟩)]) ∧ (w.heap.size ≤ B ∧ w.heap.size ≤ g' ∧ g' < w'.heap.size) ∧ Boxed w' B 22 (.slice (some ⟨g', 0, none⟩) l.length cap) ∧ Kd.C k71 w' (some ⟨g', 0, none⟩) l.length l ∧ Below w.heap.size w w' := by
  have hmf : ∀ (fn : Fn) (first cap : Array Value) (w : World), (Instr.makeFunc fn first cap).run Tryd.prog w = .ok (.func fn first cap) w := fun _ _ _ _ => rfl
  have hn2 : l.length ≤ 4096 := by
    unfold rightS at hR
    split at hR
    · cases hR
    · omega
  have hT := taken_calls _ c l w h hc
  unfold takenV at hT
  rw [hR, if_pos rfl] at hT
  have HT := Lib.hid hT; have HC := Lib.hid h; have HN := Lib.hid hn; have HN2 := Lib.hid hn2
  clear hT h hc hn hn2 hR
  go_enter Tryd.func40, Tryd.ntmps40
  go_wp2_with fail
  refine HT.out.mono ?_
  rintro e w1 ⟨rfl, hb⟩
  go_wp2_with fail
  refine (clone_ranges w1 ad c l (Kd.C_below HC.out hb) HN.out HN2.out).mono ?_
  rintro e w2 ⟨g', cap, rfl, k1, k2, k3, k4⟩
  go_wp2_with fail
  go_ret
  have hb2 : Below w.heap.size w w2 := below_step hb k4
  refine ⟨w2.heap.size, g', cap, rfl, ⟨hb2.size, Nat.le_trans hb.size k1, ?_⟩, Boxed.new _ _ _, ?_, hb2.alloc hb2.size _⟩
  · simp; omega
  · exact Kd.C_below k3 ((Below.refl _ _).alloc (Nat.le_refl _) _)
def span (s : S71) : List Int := (List.range (s.f1 - s.f0 + 1).toNat).map (fun (i : Nat) => s.f0 + (i : Int))
def spanAll (l : List S71) : List Int := l.flatMap span
theorem spanAll_snoc (l : List S71) (s : S71) : spanAll (l ++ [s]) = spanAll l ++ span s := by simp [spanAll]
def spanTo (s : S71) (j : Nat) : List Int := (List.range j).map (fun (i : Nat) => s.f0 + (i : Int))
theorem spanTo_succ (s : S71) (j : Nat) : spanTo s (j + 1) = spanTo s j ++ [s.f0 + j] := by simp [spanTo, List.range_succ]
theorem mem_span (s : S71) (x : Int) : x ∈ span s ↔ s.f0 ≤ x ∧ x ≤ s.f1 := by
  unfold span
  simp only [List.mem_map, List.mem_range]
  constructor
  · rintro ⟨i, hi, rfl⟩; omega
  · intro h; exact ⟨(x - s.f0).toNat, by omega, by omega⟩
theorem mem_spanAll (l : List S71) (x : Int) : x ∈ spanAll l ↔ ∃ s ∈ l, s.f0 ≤ x ∧ x ≤ s.f1 := by
  unfold spanAll
  simp only [List.mem_flatMap, mem_span]
def keepsCells (gp : Nat) (W W' : World) : Prop := W.heap.size ≤ W'.heap.size ∧ ∀ b o, b ≠ gp → W.heap[b]? = some o → o.isCells = true → W'.heap[b]? = some o
abbrev Elt (l : List S71) := { x : Int // x ∈ spanAll l }

theorem rightL_mem : ∀ (l : List S71) (e : Int), -1000002 ≤ e → rightL e l = true → ∀ s ∈ l, -1000000 ≤ s.f0 ∧ e + 1 < s.f0 ∧ s.f0 ≤ s.f1 ∧ s.f1 ≤ 1000000
  | [], _, _, _, s, hs => by cases hs
  | t :: l, e, he, h, s, hs => by
    unfold rightL at h
    split at h
    · cases h
    · split at h
      · cases h
      · split at h
        · cases h
        · rcases List.mem_cons.1 hs with rfl | hs
          · omega
          · have := rightL_mem l t.f1 (by omega) h s hs
            omega
theorem right_mem {l : List S71} (h : rightS l = true) : l.length ≤ 4096 ∧ rightL (-1000002) l = true ∧ ∀ s ∈ l, -1000000 ≤ s.f0 ∧ s.f0 ≤ s.f1 ∧ s.f1 ≤ 1000000 := by
  unfold rightS at h
  split at h
  · cases h
  · refine ⟨by omega, h, fun s hs => ?_⟩
    have := rightL_mem l _ (by omega) h s hs
    omega
theorem spanAll_take (l : List S71) (k : Nat) (hk : k < l.length) : spanAll (l.take (k + 1)) = spanAll (l.take k) ++ span l[k] := by
  rw [List.take_succ_eq_append_getElem hk, spanAll_snoc]
theorem spanAll_len (l : List S71) (k : Nat) (hk : k < l.length) (j : Nat) (hj : j < (l[k].f1 - l[k].f0 + 1).toNat) : (spanAll (l.take k) ++ spanTo l[k] j).length < (spanAll l).length := by
  have e : spanAll l = spanAll (l.take (k + 1)) ++ spanAll (l.drop (k + 1)) := by
    unfold spanAll
    rw [← List.flatMap_append, List.take_append_drop]
  rw [e, spanAll_take l k hk]
  simp only [List.length_append, span, spanTo, List.length_map, List.length_range]
  omega
attribute [local go_sem] Oper.semAt_some
open Go.Shelf in
set_option maxRecDepth 100000 in
set_option maxHeartbeats 4000000 in
theorem dom_each_stops (n : Nat) (hn : 1 ≤ n) (B g gp : Nat) (cap : Nat) (l : List S71) (w : World) (hc : Boxed w B 22 (.slice (some ⟨g, 0, none⟩) l.length cap)) (hC : Kd.C k71 w (some ⟨g, 0, none⟩) l.length l) (hg : g < w.heap.size ∧ ∃ o, w.heap[g]? = some o ∧ o.isCells = true) (hgp : gp < w.heap.size ∧ B ≠ gp ∧ g ≠ gp) (hR : rightS l = true) :
    SeqStopsK Fence.wide n Tryd.prog 67 #[.pointer (some ⟨B, 0, none⟩)] (fun x : Elt l => #[.int .i64 x.1]) (keepsCells gp)
      (fun xs => xs.map (·.1) = spanAll l) (fun _ => True) (spanAll l).length w := fun lo J Jx W hW hJ hJx hY h0 => by
  refine callsIn_of_wp Tryd.func67 rfl trivial ?_ rfl
  simp only [Tryd.ntmps67, List.size_toArray, List.length_cons, List.length_nil, Nat.reduceAdd, Nat.reduceSub, Array.replicate_succ, Array.replicate_zero, List.push_toArray, List.append_toArray, List.nil_append, List.cons_append]
  obtain ⟨hl1, _, hl3⟩ := right_mem hR
  have hbW := boxed_below hc hW
  have hCW := Kd.C_below hC hW
  obtain ⟨hg1, og, hg2, hg3⟩ := hg
  have hgW : W.heap[g]? = some og := (hW.block g hg1).trans hg2
  have hcW := hbW.cell
  have HC := Lib.hid hCW; have HB := Lib.hid hbW; have HJ := Lib.hid hJ; have HY := Lib.hid hY; have HL3 := Lib.hid hl3
  have HGP := Lib.hid (show gp < W.heap.size ∧ B ≠ gp ∧ g ≠ gp from ⟨Nat.lt_of_lt_of_le hgp.1 hW.size, hgp.2⟩)
  have HGW := Lib.hid hgW; have HG3 := Lib.hid hg3
  clear hc hC hR hW hbW hCW hJ hJx hY hl3 hgp hgW hg2 hg3
  generalize hm : l.length = m at *
  have HM := Lib.hid hm; clear hm
  gi_wp2
  gi_loopw [8] (fun i wr => ∃ (k : Nat) (pre : List (Elt l)), i = .int .i64 k ∧ k ≤ m ∧ Hid (pre.map (·.1) = spanAll (l.take k)) ∧ J pre wr ∧ Hid (W.heap.size ≤ wr.heap.size) ∧ Hid (wr.heap[g]? = some og) ∧ Hid (Kd.C k71 wr (some ⟨g, 0, none⟩) m l))
    (fun i _ => (m - (intOf i).toNat))
  case atStart => exact ⟨0, [], rfl, by omega, Lib.hid rfl, h0, Lib.hid (Nat.le_refl _), HGW, HC⟩
  case round =>
    obtain ⟨k, pre, rfl, hk, hpre, hJp, hsz, hgk, hCk⟩ := hrel
    by_cases hkm : k < m
    · have hkl : k < l.length := by rw [HM.out]; exact hkm
      obtain ⟨ad, e1, a0, a1⟩ := at_T71 hCk.out (k : Int) (by omega) (by omega)
      injection e1 with e1
      subst e1
      rw [rd71 l k hkl, Int.toNat_natCast, add_zero_off] at a0 a1
      have hsb := HL3.out _ (List.getElem_mem hkl)
      have hstep := spanAll_take l k hkl
      have hslen := spanAll_len l k hkl
      have hmem : ∀ x, l[k].f0 ≤ x → x ≤ l[k].f1 → x ∈ spanAll l := fun x h1 h2 => (mem_spanAll l x).2 ⟨_, List.getElem_mem hkl, h1, h2⟩
      have HST := Lib.hid hstep; have HSL := Lib.hid hslen; have HMM := Lib.hid hmem
      clear hstep hslen hmem
      generalize l[k] = s at *
      have hnew := World.alloc_heap_new wr (.cells #[.int .i64 s.f0, .int .i64 s.f1] 71)
      have HNEW := Lib.hid hnew; clear hnew
      gi_wp2
      generalize hrb : wr.heap.size = rb at HNEW ⊢
      have HRB := Lib.hid hrb; clear hrb
      have hgrb : gp ≠ rb := by have := hsz.out; have := HRB.out; have := HGP.out; omega
      gi_loopw [5] (fun i w2 => ∃ (j : Nat) (pre : List (Elt l)), i = .int .i64 (s.f0 + j) ∧ s.f0 + j ≤ s.f1 + 1 ∧ Hid (pre.map (·.1) = spanAll (l.take k) ++ spanTo s j) ∧ J pre w2 ∧ Hid (W.heap.size ≤ w2.heap.size) ∧ Hid (w2.heap[g]? = some og) ∧ Hid (Kd.C k71 w2 (some ⟨g, 0, none⟩) m l) ∧ Hid (w2.heap[rb]? = some (.cells #[.int .i64 s.f0, .int .i64 s.f1] 71 (0, 0))) ∧ w2.cell? ⟨rb, 1, none⟩ = some (.int .i64 s.f1))
        (fun i _ => (s.f1 + 1 - intOf i).toNat)
      case atStart =>
        exact ⟨0, pre, by simp, by omega, Lib.hid (by rw [hpre.out]; simp [spanTo]), HJ.out _ _ _ none hJp (World.grownBy_alloc _ _ none) (fun r h => by cases h), Lib.hid (by have := hsz.out; simp; omega), Lib.hid ((Below.heap_alloc _ _ g (blk_lt hgk.out)).trans hgk.out), Lib.hid (Kd.C_below hCk.out ((Below.refl _ _).alloc (Nat.le_refl _) _)), HNEW, (blk_cell HNEW.out 1).trans rfl⟩
      case round =>
        obtain ⟨j, pre2, rfl, hj, hpre2, hJ2, hsz2, hgk2, hC2, hr2, hcell2⟩ := hrel
        by_cases hle : s.f0 + j ≤ s.f1
        · have hplen : pre2.length < (spanAll l).length := by
            have h1 := HSL.out j (by omega)
            rw [← hpre2.out, List.length_map] at h1
            exact h1
          obtain ⟨fn, tmps, assign, body, hy, hR2⟩ := HY.out pre2 ⟨s.f0 + j, HMM.out _ (by omega) hle⟩ wr hJ2 hplen
          dsimp only at hy
          gi_wp2
          refine hR2.mono ?_
          rintro e W' (⟨rfl, hJ', hk'⟩ | ⟨rfl, hJx'⟩)
          · have hgp := HGP.out
            have hr' := hk'.2 rb _ (fun e => hgrb e.symm) hr2.out rfl
            have hgg := hk'.2 g og hgp.2.2 hgk2.out HG3.out
            have hC' : Kd.C k71 W' (some ⟨g, 0, none⟩) m l := C_keep hC2.out (hgg.trans hgk2.out.symm)
            have hc' : W'.cell? ⟨rb, 1, none⟩ = some (.int .i64 s.f1) := (blk_cell hr' 1).trans rfl
            have hsz' : W.heap.size ≤ W'.heap.size := Nat.le_trans hsz2.out hk'.1
            have HR' := Lib.hid hr'; have HGG := Lib.hid hgg; have HC' := Lib.hid hC'; have HSZ' := Lib.hid hsz'; have HJ' := Lib.hid hJ'
            clear hk' hr' hgg hC' hsz' hJ'
            gi_wp2
            go_roundw
            case rel => exact ⟨j + 1, _, by go_num, by omega, Lib.hid (by rw [List.map_append, hpre2.out, spanTo_succ, List.append_assoc]; rfl), HJ'.out, HSZ', HGG, HC', HR', hc'⟩
            case measure => simp [intOf]; omega
          · gi_wp2
            refine bodyPost_ret (results_none rfl _ _ _) rfl ?_
            exact ⟨⟨_, rfl⟩, .inr ⟨_, trivial, hJx'⟩⟩
        · have hjj : j = (s.f1 - s.f0 + 1).toNat := by omega
          gi_wp2
          go_roundw
          case rel => exact ⟨k + 1, pre2, by go_num, by omega, Lib.hid (by rw [hpre2.out, HST.out, hjj]; rfl), hJ2, hsz2, hgk2, hC2⟩
          case measure => simp [intOf]; omega
    · obtain rfl : k = m := by omega
      gi_wp2
      go_end0
      exact ⟨⟨_, rfl⟩, .inl ⟨_, by rw [hpre.out, List.take_of_length_le (by rw [HM.out]; exact Nat.le_refl _)], hJp⟩⟩

end Go.Proofs.YtfkbkcdiajjljaaDoor.PBitsSteps

namespace Go.Proofs.YtfkbkcdiajjljaaDoor.PBitsSteps
open Go.RowKit Go.Proofs.YtfkbkcdiajjljaaDoorW.PrintWords Go.Proofs.YtfkbkcdiajjljaaDoorW.PrintLast Go.Proofs.YtfkbkcdiajjljaaDoorW.PrintMore
set_option linter.unusedVariables false
set_option linter.unusedSimpArgs false
/-! ### bits.Of -/
theorem new_set (lo hi : Int) (w : World) (h1 : -1000000 ≤ lo) (h2 : hi ≤ 1000000) (h3 : lo ≤ hi) (h4 : hi - lo < 65536) :
    Calls Tryd.prog 17 #[.int .i64 lo, .int .i64 hi] w fun e w' => ∃ g gp, e = .returned (.tuple #[setP g, .int .i64 0]) ∧ (w.heap.size ≤ g ∧ w.heap.size ≤ gp) ∧ SetAt w' g gp lo (hi - lo + 1) (fun _ => false) ∧ Below w.heap.size w w' := by
  refine (bits_New.made lo hi w h1 h2 h3 h4).mono ?_
  rintro e w' ⟨rfl, rfl⟩
  refine ⟨w.heap.size + 1, w.heap.size, rfl, ⟨by omega, by omega⟩, ⟨((hi - lo + 1 + 1024 - 1) / 1024).toNat, ((hi - lo + 1 + 1024 - 1) / 1024).toNat, fun _ => 0, madeCells (Array.replicate 16 (Value.int .u64 0)) (((hi - lo + 1 + 1024 - 1) / 1024).toNat * 16), ?_, ?_, by omega, ?_, Nat.le_refl _, ?_⟩, ?_⟩
  · have := World.alloc_heap_new (w.alloc (.cells (madeCells (Array.replicate 16 (Value.int .u64 0)) (((hi - lo + 1 + 1024 - 1) / 1024).toNat * 16)) 86)) (.cells #[.int .i64 lo, .int .i64 (hi - lo + 1), .slice (some ⟨w.heap.size, 0, none⟩) ((hi - lo + 1 + 1024 - 1) / 1024).toNat ((hi - lo + 1 + 1024 - 1) / 1024).toNat] 75)
    rw [World.size_alloc] at this
    exact this
  · exact (Below.heap_alloc _ _ w.heap.size (by rw [World.size_alloc]; omega)).trans (World.alloc_heap_new _ _)
  · intro i hi
    exact made_get _ i hi
  · exact ⟨fun _ _ => by simp, by omega, fun p _ => by simp, fun v hv => by cases hv⟩
  · exact ((Below.refl _ _).alloc (Nat.le_refl _) _).alloc (by simp) _
theorem keepsCells_set (W : World) (m gp i : Nat) (u : Value) : KeepsOthers W ((W.drewN m).setCell ⟨gp, i, none⟩ u) ∧ keepsCells gp W ((W.drewN m).setCell ⟨gp, i, none⟩ u) := by
  have k : KeepsOthers W ((W.drewN m).setCell ⟨gp, i, none⟩ u) := KeepsOthers.trans (show KeepsOthers W (W.drewN m) from ⟨Nat.le_refl _, fun _ _ h _ => h⟩) (KeepsOthers.setCell (W.drewN m) ⟨gp, i, none⟩ u)
  refine ⟨k, k.size, fun b o hb ho _ => ?_⟩
  exact (Below.heap_setCell _ ⟨gp, i, none⟩ u b hb).trans ho
theorem keepsCells_trans {gp : Nat} {A B C : World} (h : keepsCells gp A B) (k : keepsCells gp B C) : keepsCells gp A C := ⟨Nat.le_trans h.1 k.1, fun b o hb ho hc => k.2 b o hb (h.2 b o hb ho hc) hc⟩
theorem keepsCells_put {gp : Nat} (W : World) (l : Nat) (o o' : Obj) (hl : W.heap[l]? = some o) (ho : o.isCells = false) : keepsCells gp W (W.putObj l o') := by
  refine ⟨by simp, fun b p _ hp hc => ?_⟩
  by_cases e : l = b
  · subst e
    rw [hl] at hp
    cases hp
    rw [ho] at hc
    cases hc
  · first | exact (World.putObj_heap_other e).trans hp | exact (World.putObj_heap_other (fun h => e h.symm)).trans hp
theorem SetAt.ext {w : World} {g gp : Nat} {f r : Int} {M M' : Int → Bool} (h : SetAt w g gp f r M) (e : ∀ x, M x = M' x) : SetAt w g gp f r M' := by
  obtain rfl : M = M' := funext e
  exact h
theorem ownFrom_setAt {β : Type} (n g gp : Nat) (hg : g < n) (hgp : gp < n) (f r : Int) (F : β → Int → Bool) : OwnFrom n (fun s W => SetAt W g gp f r (F s)) := by
  intro s W W' row hs hg2 hr
  have hl := hs.lt
  exact hs.keep (hg2.block g hl.1 (fun e => by have := (hr g e.symm).1; omega)) (hg2.block gp hl.2.1 (fun e => by have := (hr gp e.symm).1; omega))
def elts {l : List S71} (pre : List (Elt l)) : List Int := pre.map (·.1)
def inL (l : List Int) (x : Int) : Bool := decide (x ∈ l)
def firstS (l : List S71) : Int := (minS l).1
def lastS (l : List S71) : Int := (maxS l).1
def okS (l : List S71) : Bool := rightS l && !l.isEmpty
theorem minS_ok (l : List S71) : (minS l).2 = okS l := by
  unfold minS okS
  cases rightS l
  · rfl
  · cases l <;> rfl
/-- what stands of ranges that are right, and some -/
theorem ok_bounds {l : List S71} (h : okS l = true) : rightS l = true ∧ 0 < l.length ∧ l.length ≤ 4096 ∧ -1000000 ≤ firstS l ∧ firstS l ≤ lastS l ∧ lastS l ≤ 1000000 ∧ ∀ x ∈ spanAll l, firstS l ≤ x ∧ x ≤ lastS l := by
  unfold okS at h
  rw [Bool.and_eq_true] at h
  obtain ⟨hR, hne⟩ := h
  obtain ⟨h1, h2, h3⟩ := right_mem hR
  have hsort : ∀ (l : List S71) (e : Int), -1000002 ≤ e → rightL e l = true → ∀ s ∈ l, ∀ y ∈ l.getLast?, e < s.f0 ∧ s.f1 ≤ y.f1 := by
    intro l
    induction l with
    | nil => intro e he h s hs; cases hs
    | cons t l ih =>
      intro e he h s hs y hy
      have hm := rightL_mem (t :: l) e he h
      have h' : rightL t.f1 l = true := by
        unfold rightL at h
        split at h
        · cases h
        · split at h
          · cases h
          · split at h
            · cases h
            · exact h
      have ht := hm t (by simp)
      cases l with
      | nil =>
        simp at hy hs
        subst hy; subst hs
        omega
      | cons u l =>
        rw [List.getLast?_cons_cons] at hy
        rcases List.mem_cons.1 hs with rfl | hs
        · have := ih s.f1 (by omega) h' u (by simp) y hy
          have := hm u (by simp)
          omega
        · have := ih t.f1 (by omega) h' s hs y hy
          omega
  cases l with
  | nil => cases hne
  | cons t l =>
    have e1 : firstS (t :: l) = t.f0 := by unfold firstS minS; rw [hR]; rfl
    obtain ⟨y, hy⟩ : ∃ y, (t :: l).getLast? = some y := ⟨_, List.getLast?_eq_some_getLast (List.cons_ne_nil t l)⟩
    have e2 : lastS (t :: l) = y.f1 := by unfold lastS maxS; rw [hR, if_pos rfl, hy]
    have hs := hsort (t :: l) _ (by omega) h2
    have hy' : y ∈ (t :: l).getLast? := hy
    have h' : rightL t.f1 l = true := by
      unfold rightL at h2
      split at h2
      · cases h2
      · split at h2
        · cases h2
        · split at h2
          · cases h2
          · exact h2
    have ht := h3 t (by simp)
    have hymem : y ∈ t :: l := List.mem_of_getLast? hy
    have hy3 := h3 y hymem
    have hty := hs t (by simp) y hy'
    refine ⟨hR, by simp, h1, by omega, by omega, by omega, fun x hx => ?_⟩
    obtain ⟨s, hsm, hx1, hx2⟩ := (mem_spanAll _ _).1 hx
    have hsy := hs s hsm y hy'
    rcases List.mem_cons.1 hsm with rfl | hsm'
    · omega
    · have := rightL_mem l t.f1 (by omega) h' s hsm'
      omega
theorem cells_of_cell {w : World} {b i : Nat} {v : Value} (h : w.cell? ⟨b, i, none⟩ = some v) : ∃ o, w.heap[b]? = some o ∧ o.isCells = true := by
  unfold World.cell? at h
  cases hb : w.heap[b]? with
  | none => simp [hb] at h
  | some o =>
    cases o with
    | cells cs t fz => exact ⟨_, rfl, rfl⟩
    | _ => simp [hb] at h

attribute [local go_sem] Oper.semAt_some
set_option maxHeartbeats 4000000 in
theorem of_dom (A : Option Addr) (c : Nat) (l : List S71) (w : World) (h : Kd.C k71 w A l.length l) (hc : l.length ≤ c) (hN : okS l = false) :
    Calls Tryd.prog 7 #[.slice A l.length c] w fun e w' => e = .returned (.tuple #[.pointer none, .int .i64 20]) ∧ Below w.heap.size w w' := by
  have hm := min_calls A c l w h hc
  have e := minS_ok l
  rw [hN] at e
  rw [e] at hm
  have HM := Lib.hid hm
  clear hm h hc hN e
  generalize (minS l).1 = x at *
  go_enter Tryd.func7, Tryd.ntmps7
  go_wp2_with fail
  refine HM.out.mono ?_
  rintro e w1 ⟨rfl, hb⟩
  go_wp2_with fail
  go_ret2
  exact ⟨rfl, hb⟩
theorem maxS_ok {l : List S71} (h : okS l = true) : (maxS l).2 = true := by
  unfold okS at h
  rw [Bool.and_eq_true] at h
  unfold maxS
  rw [h.1, if_pos rfl]
  rcases snoc_cases l with rfl | ⟨ys, s, rfl⟩
  · cases h.2
  · simp
set_option maxHeartbeats 4000000 in
theorem of_full (A : Option Addr) (c : Nat) (l : List S71) (w : World) (h : Kd.C k71 w A l.length l) (hc : l.length ≤ c) (hN : okS l = true) (hbig : 65536 ≤ lastS l - firstS l) :
    Calls Tryd.prog 7 #[.slice A l.length c] w fun e w' => e = .returned (.tuple #[.pointer none, .int .i64 4]) ∧ Below w.heap.size w w' := by
  have hm := min_calls A c l w h hc
  have e := minS_ok l
  rw [hN] at e
  rw [e] at hm
  have hx := maxS_ok hN
  have hb := ok_bounds hN
  have HM : Hid (Calls Tryd.prog 38 #[.slice A l.length c] w fun e w' => e = .returned (.tuple #[.int .i64 (firstS l), .bool true]) ∧ Below w.heap.size w w') := hm
  have HC := Lib.hid h; have HCC := Lib.hid hc; have HX := Lib.hid hx
  have hlast : (maxS l).1 = lastS l := rfl
  have HLAST := Lib.hid hlast
  obtain ⟨b1, b2, b3, b4, b5, b6, b7⟩ := hb
  clear hm h hc hN e hx b1 b7 hlast
  go_enter Tryd.func7, Tryd.ntmps7
  go_wp2_with fail
  refine HM.out.mono ?_
  rintro e w1 ⟨rfl, hb1⟩
  go_wp2_with fail
  refine (max_calls A c l _ (Kd.C_below HC.out hb1) HCC.out).mono ?_
  rw [HX.out, HLAST.out]
  rintro e w2 ⟨rfl, hb2⟩
  have HB := Lib.hid (below_step hb1 hb2)
  clear hb1 hb2
  generalize firstS l = lo at *
  generalize lastS l = hi at *
  go_wp2_with fail
  refine (bits_New.full lo hi _ b4 b6 b5 hbig).mono ?_
  rintro e w3 ⟨rfl, rfl⟩
  go_wp2_with fail
  go_ret2
  exact ⟨rfl, HB.out.alloc HB.out.size _⟩
open Go.Shelf in
set_option maxRecDepth 100000 in
set_option maxHeartbeats 4000000 in
theorem of_made (A : Option Addr) (c : Nat) (l : List S71) (w : World) (h : Kd.C k71 w A l.length l) (hc : l.length ≤ c) (hN : okS l = true) (hsm : lastS l - firstS l < 65536) :
    Calls Tryd.prog 7 #[.slice A l.length c] w fun e w' => ∃ g gp, e = .returned (.tuple #[setP g, .int .i64 0]) ∧ (w.heap.size ≤ g ∧ w.heap.size ≤ gp) ∧ SetAt w' g gp (firstS l) (lastS l - firstS l + 1) (inL (spanAll l)) ∧ Below w.heap.size w w' := by
  have hm := min_calls A c l w h hc
  have e := minS_ok l
  rw [hN] at e
  rw [e] at hm
  have hx := maxS_ok hN
  have hb := ok_bounds hN
  have HM : Hid (Calls Tryd.prog 38 #[.slice A l.length c] w fun e w' => e = .returned (.tuple #[.int .i64 (firstS l), .bool true]) ∧ Below w.heap.size w w') := hm
  have HC := Lib.hid h; have HCC := Lib.hid hc; have HX := Lib.hid hx
  have hlast : (maxS l).1 = lastS l := rfl
  have HLAST := Lib.hid hlast
  obtain ⟨b1, b2, b3, b4, b5, b6, b7⟩ := hb
  have HR := Lib.hid b1; have HIN := Lib.hid b7
  clear hm h hc hN e hx b1 b7 hlast
  refine (callsIn_wide (n := 5)).1 ?_
  refine callsIn_of_wp_marks Tryd.func7 rfl trivial ?_ rfl
  simp only [Tryd.ntmps7, List.size_toArray, List.length_cons, List.length_nil, Nat.reduceAdd, Nat.reduceSub, Array.replicate_succ, Array.replicate_zero, List.push_toArray, List.append_toArray, List.nil_append, List.cons_append]
  refine wpIn_wide.2 ?_
  go_wp2_with fail
  refine HM.out.mono ?_
  rintro e w1 ⟨rfl, hb1⟩
  go_wp2_with fail
  refine (max_calls A c l _ (Kd.C_below HC.out hb1) HCC.out).mono ?_
  rw [HX.out, HLAST.out]
  rintro e w2 ⟨rfl, hb2⟩
  have hb3 := below_step hb1 hb2
  have HC2 := Lib.hid (Kd.C_below HC.out hb3)
  have HB := Lib.hid hb3
  clear hb1 hb2 hb3
  generalize hlo : firstS l = lo at *
  generalize hhi : lastS l = hi at *
  have HLO := Lib.hid hlo; have HHI := Lib.hid hhi
  clear hlo hhi
  go_wp2_with fail
  refine (new_set lo hi _ b4 b6 b5 hsm).mono ?_
  rintro e w3 ⟨g, gp, rfl, ⟨k1, k2⟩, k3, k4⟩
  have U : setP g = .pointer (some ⟨g, 0, none⟩) := rfl
  rw [U]
  have hC3 := Kd.C_below HC2.out k4
  have hb3 := below_step HB.out k4
  have hbox := Boxed.new w3 23 (.pointer (some ⟨g, 0, none⟩))
  have hB4 : Below w3.heap.size w3 (w3.alloc (.cells #[.pointer (some ⟨g, 0, none⟩)] 23)) := (Below.refl _ _).alloc (Nat.le_refl _) _
  go_wp2_with fail
  obtain ⟨ad, rfl, -⟩ := hC3.2.2 b2
  refine (dom_each_calls ad c l _ (Kd.C_below hC3 hB4) HCC.out b2 HR.out).mono ?_
  rintro e W0 ⟨B, g', cap, rfl, ⟨q1, q2, q3⟩, q4, q5, q6⟩
  go_wp2_with fail
  rw [World.size_alloc] at q1 q2
  have hs4 := (k3.below hB4).below q6
  have hb4 := boxed_below hbox q6
  have hbW : Below w.heap.size w W0 := below_step (below_step hb3 hB4) q6
  have hlt := k3.lt
  have hw3 := q6.size
  rw [World.size_alloc] at hw3
  have hw23 := hb3.size
  obtain ⟨ad', ea, a0, -⟩ := at_T71 q5 0 (by omega) (by omega)
  injection ea with ea
  subst ea
  rw [add_zero_off] at a0
  have hst := dom_each_stops (5 - 1) (by decide) B g' gp cap l W0 q4 q5 ⟨q3, cells_of_cell a0⟩ ⟨by omega, by omega, by omega⟩ HR.out
  have HS4 := Lib.hid hs4; have HB4 := Lib.hid hb4; have HBW := Lib.hid hbW
  have hg0 : w.heap.size ≤ g ∧ w.heap.size ≤ gp := by have := HB.out.size; omega
  clear hs4 hb4 hbW a0 q4 q5 q6 hbox hB4 k3 k4 hC3 hb3
  generalize hbs : w3.heap.size = bs at *
  refine (wpIn_wide (n := 5)).1 ?_
  refine wpIn_rangeFunc_ownF rfl (by decide) (gf := 67) (lb := #[.pointer (some ⟨B, 0, none⟩)]) rfl trivial (enters_of Tryd.func67 (by kernel_rfl) rfl)
    hst (fun h k => keepsCells_trans h k)
    (fun W l o o' _ ho hoc _ => keepsCells_put W l o o' ho hoc)
    (Below.refl _ _) (fun _ => rfl)
    (fun (pre : List (Elt l)) W => (SetAt W g gp lo (hi - lo + 1) (inL (elts pre)) ∧ Boxed W bs 23 (.pointer (some ⟨g, 0, none⟩))) ∧ Below w.heap.size w W)
    (fun _ _ _ => False)
    (OwnFrom.and (OwnFrom.and (ownFrom_setAt _ g gp (by omega) (by omega) _ _ (fun pre : List (Elt l) => inL (elts pre))) (Own.from (boxed_own bs 23 (fun _ => .pointer (some ⟨g, 0, none⟩))) _)) (ownFrom_below (Nat.le_refl _) HBW.out.size))
    (fun _ _ _ _ _ hs _ _ => hs)
    ⟨⟨HS4.out, HB4.out⟩, HBW.out⟩
    (fun x => { tmps := #[.slice (some ad) l.length c, undef, .pointer none, .int .i64 0, .int .i64 lo, .bool true, .int .i64 hi, .bool true, .pointer (some ⟨bs, 0, none⟩), .int .i64 0, .int .i64 x.1, .tuple #[.int .i64 lo, .bool true], .slice (some ad) l.length c, .tuple #[.int .i64 lo, .bool true], .int .i64 lo, .bool true, .bool true, .bool false, .tuple #[.int .i64 hi, .bool true], .slice (some ad) l.length c, .tuple #[.int .i64 hi, .bool true], .int .i64 hi, .bool true, .tuple #[.pointer (some ⟨g, 0, none⟩), .int .i64 0], .int .i64 lo, .int .i64 hi, .tuple #[.pointer (some ⟨g, 0, none⟩), .int .i64 0], .pointer (some ⟨g, 0, none⟩), .int .i64 0, .int .i64 0, .bool false, undef, .slice (some ad) l.length c, .func (.func 67) #[] #[.pointer (some ⟨B, 0, none⟩)], .int .i64 x.1, undef, undef, undef, undef], defers := [] }) ?assign ?body ?done ?stop
  case assign =>
    intro l x W K hK
    gi_wp2
    exact hK
  case body =>
    rintro lo' pre x W ⟨⟨hs, hbx⟩, hB⟩ hlt
    have hc := hbx.cell
    have hx := HIN.out x.1 x.2
    have HS := Lib.hid hs; have HBX := Lib.hid hbx; have HBB := Lib.hid hB
    clear hs hbx hB hst
    gi_wp2_with (rw [← U]; refine ⟨trivial, (CallsIn.inRound lo' (callsIn_wide.2 (HS.out.add x.1 (by omega)))).mono ?_⟩; rintro e w' ⟨rfl, ⟨m, i, u, rfl⟩, hs'⟩)
    obtain ⟨k1', k2'⟩ := keepsCells_set W m gp i u
    refine ⟨k1', k2', ⟨hs'.ext (fun y => ?_), ?_⟩, ?_⟩
    · unfold inL elts
      rw [List.map_append, Bool.eq_iff_iff]
      simp [or_comm]
    · exact k2'.2 bs _ (by omega) HBX.out rfl
    · exact (pw_below_drewN HBB.out m).setCell (p := ⟨gp, i, none⟩) hg0.2 u
  case done =>
    rintro D xs W hD hS ⟨⟨hs, hbx⟩, hB⟩ hK
    have hc := hbx.cell
    have HS := Lib.hid hs; have HBX := Lib.hid hbx; have HBB := Lib.hid hB; have HSX := Lib.hid hS; have HK := Lib.hid hK
    clear hs hbx hB hst hS
    gi_wp2_with fail
    go_wp2_with fail
    refine ⟨by simp, .inl ⟨_, _, rfl, run_takeDeferred hK, ?_⟩⟩
    refine ⟨_, by simp [results, Tryd.results7, go_sem]; rfl, ?_⟩
    refine ⟨g, gp, rfl, hg0, ?_, HBB.out.trans (belowK_b (w := w) (Nat.le_refl _) W D _ _ (by have := HBW.out.size; omega) hK rfl rfl)⟩
    have hsD := HS.out.keep (w' := W.putObj D (.deferred none)) (World.putObj_heap_other (by omega)) (World.putObj_heap_other (by omega))
    have e : elts xs = spanAll l := HSX.out
    rw [e] at hsD
    rw [HLO.out, HHI.out]
    exact hsD
  case stop =>
    rintro D c pre W _ _ h _
    exact h.elim

end Go.Proofs.YtfkbkcdiajjljaaDoor.PBitsSteps

namespace Go.Proofs.YtfkbkcdiajjljaaDoor.PBitsSteps
open Go.RowKit Go.Proofs.YtfkbkcdiajjljaaDoorW.PrintWords Go.Proofs.YtfkbkcdiajjljaaDoorW.PrintLast Go.Proofs.YtfkbkcdiajjljaaDoorW.PrintMore
set_option linter.unusedVariables false
set_option linter.unusedSimpArgs false
/-! ### Words -/
def wordsTo (ws : Nat → Nat) (k : Nat) : List Value := (List.range k).map (fun j => Value.int .u64 (ws j : Nat))
def pageOf (ws : Nat → Nat) (k : Nat) : List Value := (List.range 16).map (fun j => Value.int .u64 (ws (k * 16 + j) : Nat))
theorem wordsTo_len (ws : Nat → Nat) (k : Nat) : (wordsTo ws k).length = k := by simp [wordsTo]
theorem pageOf_len (ws : Nat → Nat) (k : Nat) : (pageOf ws k).length = 16 := by simp [pageOf]
theorem wordsTo_page (ws : Nat → Nat) (k : Nat) : wordsTo ws (k * 16) ++ pageOf ws k = wordsTo ws ((k + 1) * 16) := by
  apply List.ext_getElem
  · simp [wordsTo, pageOf]; omega
  · intro i h1 h2
    rw [List.getElem_append]
    split
    · simp [wordsTo]
    · rename_i h
      rw [wordsTo_len] at h
      simp only [pageOf, wordsTo, List.getElem_map, List.getElem_range, List.length_map, List.length_range]
      congr 3
      omega
theorem page_range {w : World} {gp n : Nat} {ws : Nat → Nat} {cs : Array Value} (h : w.heap[gp]? = some (.cells cs 86 (0, 0))) (hc : ∀ i, i < 16 * n → cs[i]? = some (.int .u64 (ws i : Nat))) (k : Nat) (hk : k < n) : w.rangeAt gp (k * 16) (pageOf ws k) := by
  intro j v hj
  rw [blk_cell h]
  have hjl : j < 16 := by have := (List.getElem?_eq_some_iff.1 hj).1; rw [pageOf_len] at this; exact this
  rw [hc _ (by omega), ← hj]
  simp [pageOf, List.getElem?_map, List.getElem?_range, hjl]
theorem Tryd.info72 : (Tryd.prog.info? 72).map (fun i => (i.zero, i.size, i.bytes)) = some (some (.int .u64 0), 1, 8) := by kernel_rfl
theorem there_new (w : World) (cs : Array Value) (t : TypeId) (m : Nat) (h : m ≤ cs.size) : (w.alloc (.cells cs t)).there w.heap.size 0 m := by
  intro j hj
  have hn := World.alloc_heap_new w (.cells cs t)
  refine ⟨?_, blk_frozen hn _⟩
  rw [blk_cell hn, Array.getElem?_eq_getElem (by omega)]
  rfl
theorem below_setCells {B : Nat} {w : World} (b : Nat) (hb : B ≤ b) : ∀ (vs : List Value) (o : Nat) (W : World), Below B w W → Below B w (W.setCells b o vs)
  | [], _, _, h => h
  | v :: vs, o, W, h => below_setCells b hb vs (o + 1) _ (h.setCell (p := ⟨b, o, none⟩) hb v)
theorem pageOf_one (ws : Nat → Nat) (k : Nat) : ∀ v ∈ pageOf ws k, v.oneCell' = true := by
  intro v hv
  simp only [pageOf, List.mem_map] at hv
  obtain ⟨j, _, rfl⟩ := hv
  rfl
/-- a page copied into a new block: what it reads, and that the elder blocks lie as they lay -/
theorem page_copied (wr : World) (cs : Array Value) (t : TypeId) (vs : List Value) (h : vs.length ≤ cs.size) (W : World) (e : (wr.alloc (.cells cs t)).setCells wr.heap.size 0 vs = W) :
    W.rangeAt wr.heap.size 0 vs ∧ Below wr.heap.size wr W := by
  subst e
  exact ⟨World.rangeAt_setCells_same _ _ _ _ (there_new wr cs t _ h), below_setCells _ (Nat.le_refl _) vs 0 _ ((Below.refl _ _).alloc (Nat.le_refl _) _)⟩
set_option maxRecDepth 100000 in
set_option maxHeartbeats 8000000 in
theorem words_raw (w : World) (g gp n c : Nat) (f r : Int) (ws : Nat → Nat) (cs : Array Value) (h0 : w.heap[g]? = some (setB f r (some ⟨gp, 0, none⟩) n c)) (h : w.heap[gp]? = some (.cells cs 86 (0, 0))) (hcs : ∀ i, i < 16 * n → cs[i]? = some (.int .u64 (ws i : Nat))) (hr : (n : Int) = (r + 1023) / 1024 ∧ 0 < r ∧ r ≤ 65536) :
    Calls Tryd.prog 37 #[setP g] w fun e w' => ∃ g2 cs2, e = .returned (.slice (some ⟨g2, 0, none⟩) ((r + 63) / 64).toNat ((r + 63) / 64).toNat) ∧ w.heap.size ≤ g2 ∧ w'.heap[g2]? = some (.cells cs2 72 (0, 0)) ∧ (∀ i : Nat, (i : Int) < (r + 63) / 64 → cs2[i]? = some (.int .u64 (ws i : Nat))) ∧ Below w.heap.size w w' := by
  obtain ⟨i0, hi, hz0, hz1, hz2⟩ := info_parts Tryd.info72
  obtain ⟨i1, z1, hi1, hzz, hs1, hby1, hzc⟩ := pagesInfo
  have hu86 := Tryd.underlying86
  have c0 := setB_pages h0; have c1 := setB_room h0
  have H0 := Lib.hid h0; have H := Lib.hid h; have HC := Lib.hid hcs
  have HLT := Lib.hid (show g < w.heap.size ∧ gp < w.heap.size from ⟨blk_lt h0, blk_lt h⟩)
  clear h0 h hcs
  have U : setP g = .pointer (some ⟨g, 0, none⟩) := rfl
  rw [U]
  go_enter Tryd.func37, Tryd.ntmps37
  go_wp2_with fail
  go_loopw [3, 14] (fun o i wr => ∃ k : Nat, i = .int .i64 k ∧ k ≤ n ∧ wr.ownsRow w.heap.size 72 1 o (k * 16) (wordsTo ws (k * 16)) ∧ Hid (wr.heap[g]? = some (setB f r (some ⟨gp, 0, none⟩) n c)) ∧ Hid (wr.heap[gp]? = some (.cells cs 86 (0, 0))) ∧ Hid (Below w.heap.size w wr))
    (fun _ i _ => n - (intOf i).toNat)
  case atStart => exact ⟨0, rfl, by omega, by simpa [wordsTo] using World.ownsRow_nil _ _ _ _, H0, H, Lib.hid (Below.refl _ _)⟩
  case round =>
    obtain ⟨k, rfl, hk, hrow, hh0, hh, hB⟩ := hrel
    obtain ⟨A, cap, rfl⟩ := row_form hrow
    by_cases hkn : k < n
    · have hrg := page_range hh.out HC.out k hkn
      have HROW := Lib.hid hrow
      clear hrow
      go_wp2_with (first
        | (with_reducible refine gate_dst (N := 17) rfl ?_); refine wpList_load_mid rfl 86 _ rfl gp (k * 16) rfl (pageOf ws k) _ hrg hu86 rfl (by rw [hi1, pageOf_len]; simp [hs1]) ?_
        | (with_reducible refine gate_store (t := 86) (p := 5) rfl ?_); refine wpList_store_mid rfl 86 _ _ rfl wr.heap.size 0 (pageOf ws k).toArray rfl rfl (there_new _ _ _ _ (by simp [pageOf_len])) (by rw [hi1]; simp [hs1, pageOf_len]) (all_oneCell_toArray (pageOf_one ws k)) ?_; generalize hW : World.setCells (World.alloc wr _) wr.heap.size 0 _ = W; obtain ⟨p1, p2⟩ := page_copied wr _ _ (pageOf ws k) (by simp [pageOf_len]) W hW; (have hrowW : W.ownsRow w.heap.size 72 1 (.slice A (k * 16) cap) (k * 16) (wordsTo ws (k * 16)) := own_move HROW.out (fun j hj => p2.block j (own_lt HROW.out j hj))); (have hnews : ∀ j u, (pageOf ws k)[j]? = some u → W.cell? ((Addr.mk wr.heap.size 0 none).add j) = some u := fun j u hj => (by have := p1 j u hj; rw [Nat.zero_add] at this; rw [add_zero_off]; exact this)); have hszW := p2.size; clear hW hrg p1
        | (with_reducible refine gate_dst (N := 20) rfl ?_); refine wpList_append_own _ rfl _ _ 65 rfl w.heap.size 72 i0 _ 1 8 Tryd.underlying65 hi hz0 hz1 hz2 rfl (by decide) _ _ _ rfl hrowW ⟨wr.heap.size, 0, none⟩ 16 16 (pageOf ws k) rfl (by simp [pageOf_len]) hnews (pageOf_one ws k) (by simp only [maxLen]; omega) (by omega) (by have := hB.out.size; omega) ?_; intro v' w' hown' hg hnil; obtain ⟨A', cap', rfl⟩ := row_form hown')
      go_roundw
      case rel =>
        have hBW : Below w.heap.size w w' := (below_step hB.out p2).grown hg (by have := hB.out.size; omega) (fun j e => own_base hrowW j e)
        rw [wordsTo_page] at hown'
        have e : k * 16 + 16 = (k + 1) * 16 := by omega
        rw [← e] at hown'
        have hne : ∀ b, b < w.heap.size → some b ≠ (Value.slice A (k * 16) cap).ownBlock := fun b hb e => by have := own_base hrowW b e.symm; omega
        exact ⟨k + 1, by go_num, by omega, by rw [← e]; exact hown', Lib.hid ((hBW.block g HLT.out.1).trans H0.out), Lib.hid ((hBW.block gp HLT.out.2).trans H.out), Lib.hid hBW⟩
      case measure => simp [intOf]; omega
    · obtain rfl : k = n := by omega
      have e1 : ((k : Nat) : Int) = (r + 1023) / 1024 := hr.1
      have hn : (((r + 63) / 64).toNat : Int) = (r + 63) / 64 := by omega
      have hle : ((r + 63) / 64).toNat ≤ k * 16 := by omega
      obtain ⟨g2, cap2, hA⟩ : ∃ g2 cap2, Value.slice A (k * 16) cap = .slice (some ⟨g2, 0, none⟩) (k * 16) cap2 := by
        rcases hrow.2 with ⟨_, h0⟩ | ⟨g2, cap2, _, e, _⟩
        · omega
        · exact ⟨g2, cap2, e⟩
      rw [hA] at hrow ⊢
      have hcap := own_cap hrow
      have c5 := setB_room hh0.out
      have HROW := Lib.hid hrow
      clear hrow hA
      go_wp2_with fail
      go_ret
      obtain ⟨g3, cap3, cur, e5, b1, b2, b3, b4, b5, b6⟩ : ∃ g cap cur, Value.slice (some ⟨g2, 0, none⟩) (k * 16) cap2 = .slice (some ⟨g, 0, none⟩) (k * 16) cap ∧ w.heap.size ≤ g ∧ wr.heap[g]? = some (.cells cur 72 (0, 0)) ∧ k * 16 ≤ cap ∧ cap ≤ maxLen ∧ cur.size = cap * 1 ∧ cur.toList.take (k * 16 * 1) = wordsTo ws (k * 16) := by
        rcases HROW.out.2 with ⟨_, h0⟩ | h
        · omega
        · exact h
      injection e5 with e5
      injection e5 with e5
      injection e5 with e5
      subst e5
      refine ⟨g2, cur, by rw [show r + 63 = r + 64 - 1 by omega]; rfl, b1, b2, fun i hi => ?_, hB.out⟩
      have hik : i < k * 16 := by omega
      have e7 : (cur.toList.take (k * 16 * 1))[i]? = (wordsTo ws (k * 16))[i]? := by rw [b6]
      rw [List.getElem?_take, if_pos (by omega)] at e7
      rw [← Array.getElem?_toList, e7]
      simp [wordsTo, hik]
/-- one word of what the values are -/
def wordN (M : Int → Bool) (b : Int) : Nat → Nat
  | 0 => 0
  | k + 1 => wordN M b k + if M (b + k) then 2 ^ k else 0
theorem wordN_lt (M : Int → Bool) (b : Int) : ∀ k, wordN M b k < 2 ^ k
  | 0 => by simp [wordN]
  | k + 1 => by
    have := wordN_lt M b k
    rw [wordN, Nat.pow_succ]
    split <;> omega
theorem wordN_bit (M : Int → Bool) (b : Int) : ∀ k j, j < k → (wordN M b k).testBit j = M (b + j)
  | 0, _, h => by omega
  | k + 1, j, h => by
    have hl := wordN_lt M b k
    rw [wordN]
    by_cases e : j = k
    · subst e
      cases hm : M (b + j)
      · simp only [Bool.false_eq_true, if_false, Nat.add_zero]
        exact Nat.testBit_lt_two_pow hl
      · simp only [if_true]
        rw [Nat.add_comm, Nat.testBit_two_pow_add_eq, Nat.testBit_lt_two_pow hl]
        rfl
    · have ih := wordN_bit M b k j (by omega)
      split
      · rw [Nat.add_comm, Nat.testBit_two_pow_add_gt (by omega)]
        exact ih
      · exact ih
theorem wordN_eq (M : Int → Bool) (b : Int) (x : Nat) (hx : x < 2 ^ 64) (h : ∀ j, j < 64 → x.testBit j = M (b + j)) : x = wordN M b 64 := by
  apply Nat.eq_of_testBit_eq
  intro j
  by_cases hj : j < 64
  · rw [h j hj, wordN_bit M b 64 j hj]
  · rw [Nat.testBit_lt_two_pow (Nat.lt_of_lt_of_le hx (Nat.pow_le_pow_right (by decide) (by omega))), Nat.testBit_lt_two_pow (Nat.lt_of_lt_of_le (wordN_lt M b 64) (Nat.pow_le_pow_right (by decide) (by omega)))]
/-- the bits as words: one behind the other -/
theorem SetAt.words {w : World} {g gp : Nat} {f r : Int} {M : Int → Bool} (h : SetAt w g gp f r M) :
    Calls Tryd.prog 37 #[setP g] w fun e w' => ∃ g2 cs2, e = .returned (.slice (some ⟨g2, 0, none⟩) ((r + 63) / 64).toNat ((r + 63) / 64).toNat) ∧ w.heap.size ≤ g2 ∧ w'.heap[g2]? = some (.cells cs2 72 (0, 0)) ∧ (∀ i : Nat, (i : Int) < (r + 63) / 64 → cs2[i]? = some (.int .u64 (wordN M (f + 64 * i) 64 : Nat))) ∧ Below w.heap.size w w' := by
  obtain ⟨n, c, ws, cs, h1, h2, h3, h4, h5, h6⟩ := h
  have hr := h6.room
  refine (words_raw w g gp n c f r ws cs h1 h2 h4 ⟨hr.1, hr.2.1, hr.2.2.1⟩).mono ?_
  rintro e w' ⟨g2, cs2, rfl, k1, k2, k3, k4⟩
  refine ⟨g2, cs2, rfl, k1, k2, fun i hi => ?_, k4⟩
  rw [k3 i hi, ← wordN_eq M (f + 64 * i) (ws i) (h6.wf i (by omega)) (fun j hj => ?_)]
  have := h6.bit (64 * i + j) (by omega)
  rw [show (64 * i + j) / 64 = i by omega, show (64 * i + j) % 64 = j by omega] at this
  rw [this]
  congr 1
  omega

end Go.Proofs.YtfkbkcdiajjljaaDoor.PBitsSteps

namespace Go.Proofs.YtfkbkcdiajjljaaDoor.PBitsSteps
open Go.RowKit Go.Proofs.YtfkbkcdiajjljaaDoorW.PrintWords Go.Proofs.YtfkbkcdiajjljaaDoorW.PrintLast Go.Proofs.YtfkbkcdiajjljaaDoorW.PrintMore
set_option linter.unusedVariables false
set_option linter.unusedSimpArgs false
/-! ### the ranges of the values of ranges that are right are these ranges -/
theorem sorted_ext : ∀ (xs ys : List Int), xs.Pairwise (· < ·) → ys.Pairwise (· < ·) → (∀ x, x ∈ xs ↔ x ∈ ys) → xs = ys
  | [], [], _, _, _ => rfl
  | [], y :: ys, _, _, h => by have := (h y).2 (by simp); cases this
  | x :: xs, [], _, _, h => by have := (h x).1 (by simp); cases this
  | x :: xs, y :: ys, hx, hy, h => by
    rw [List.pairwise_cons] at hx hy
    have e : x = y := by
      have h1 := (h x).1 (by simp)
      have h2 := (h y).2 (by simp)
      rw [List.mem_cons] at h1 h2
      rcases h1 with h1 | h1
      · exact h1
      · rcases h2 with h2 | h2
        · exact h2.symm
        · have := hy.1 x h1
          have := hx.1 y h2
          omega
    subst e
    congr 1
    refine sorted_ext xs ys hx.2 hy.2 (fun z => ?_)
    have h3 := h z
    simp only [List.mem_cons] at h3
    constructor
    · intro hz
      rcases h3.1 (.inr hz) with h4 | h4
      · have := hx.1 z hz; omega
      · exact h4
    · intro hz
      rcases h3.2 (.inr hz) with h4 | h4
      · have := hy.1 z hz; omega
      · exact h4
theorem mem_vals (M : Int → Bool) (f r : Int) (hin : ∀ v, M v = true → f ≤ v ∧ v < f + r) (x : Int) : x ∈ vals M f r ↔ M x = true := by
  unfold vals valsTo
  rw [List.mem_filter, List.mem_map]
  constructor
  · exact fun h => h.2
  · intro h
    have := hin x h
    exact ⟨⟨(x - f).toNat, by rw [List.mem_range]; omega, by omega⟩, h⟩
theorem vals_sorted (M : Int → Bool) (f r : Int) : (vals M f r).Pairwise (· < ·) := by
  unfold vals valsTo
  refine List.Pairwise.filter _ ?_
  rw [List.pairwise_map]
  exact List.Pairwise.imp (fun h => by omega) List.pairwise_lt_range
theorem span_sorted (s : S71) : (span s).Pairwise (· < ·) := by
  unfold span
  rw [List.pairwise_map]
  exact List.Pairwise.imp (fun h => by omega) List.pairwise_lt_range
theorem rightL_cons {e : Int} {s : S71} {l : List S71} (h : rightL e (s :: l) = true) : rightL s.f1 l = true ∧ e + 1 < s.f0 ∧ s.f0 ≤ s.f1 ∧ s.f1 ≤ 1000000 := by
  unfold rightL at h
  split at h
  · cases h
  · split at h
    · cases h
    · split at h
      · cases h
      · exact ⟨h, by omega, by omega, by omega⟩
theorem spanAll_sorted : ∀ (l : List S71) (e : Int), -1000002 ≤ e → rightL e l = true → (spanAll l).Pairwise (· < ·)
  | [], _, _, _ => List.Pairwise.nil
  | s :: l, e, he, h => by
    obtain ⟨h1, h2, h3, h4⟩ := rightL_cons h
    have e1 : spanAll (s :: l) = span s ++ spanAll l := by simp [spanAll]
    rw [e1, List.pairwise_append]
    refine ⟨span_sorted s, spanAll_sorted l s.f1 (by omega) h1, fun a ha b hb => ?_⟩
    rw [mem_span] at ha
    obtain ⟨t, ht, hb1, _⟩ := (mem_spanAll _ _).1 hb
    have := rightL_mem l s.f1 (by omega) h1 t ht
    omega
theorem vals_spanAll {l : List S71} (h : okS l = true) : vals (inL (spanAll l)) (firstS l) (lastS l - firstS l + 1) = spanAll l := by
  obtain ⟨b1, b2, b3, b4, b5, b6, b7⟩ := ok_bounds h
  refine sorted_ext _ _ (vals_sorted _ _ _) (spanAll_sorted l _ (by omega) (right_mem b1).2.1) (fun x => ?_)
  rw [mem_vals _ _ _ (fun v hv => by
    have := b7 v (of_decide_eq_true hv)
    omega)]
  unfold inL
  exact decide_eq_true_iff
theorem rg_spanTo (s : S71) (out : List S71) (h : ∀ ys t, out = ys ++ [t] → t.f1 + 1 ≠ s.f0) : ∀ j : Nat, (spanTo s (j + 1)).foldl rgStep out = out ++ [⟨s.f0, s.f0 + j⟩]
  | 0 => by
    have e : spanTo s 1 = [s.f0 + (0 : Nat)] := by simp [spanTo]
    rw [e, List.foldl_cons, List.foldl_nil]
    rcases snoc_cases out with rfl | ⟨ys, t, rfl⟩
    · rw [rgStep_nil, show s.f0 + ((0 : Nat) : Int) = s.f0 by omega]; rfl
    · have hne := h ys t rfl
      rw [rgStep_miss ys t _ (by omega), show s.f0 + ((0 : Nat) : Int) = s.f0 by omega]
  | j + 1 => by
    rw [spanTo_succ, List.foldl_append, rg_spanTo s out h j, List.foldl_cons, List.foldl_nil]
    rw [rgStep_hit out ⟨s.f0, s.f0 + (j : Int)⟩ _ (by show s.f0 + (j : Int) + 1 = _; omega)]
theorem rg_span (s : S71) (out : List S71) (hs : s.f0 ≤ s.f1) (h : ∀ ys t, out = ys ++ [t] → t.f1 + 1 ≠ s.f0) : (span s).foldl rgStep out = out ++ [s] := by
  obtain ⟨j, hj⟩ : ∃ j, (s.f1 - s.f0 + 1).toNat = j + 1 := ⟨(s.f1 - s.f0).toNat, by omega⟩
  have e : span s = spanTo s (j + 1) := by unfold span spanTo; rw [hj]
  rw [e, rg_spanTo s out h j, show s.f0 + (j : Int) = s.f1 by omega]
theorem rg_spanAll_go : ∀ (l : List S71) (e : Int) (out : List S71), -1000002 ≤ e → rightL e l = true → (∀ ys t, out = ys ++ [t] → t.f1 = e) → (spanAll l).foldl rgStep out = out ++ l
  | [], _, out, _, _, _ => by simp [spanAll]
  | s :: l, e, out, he, h, ho => by
    obtain ⟨h1, h2, h3, h4⟩ := rightL_cons h
    have e1 : spanAll (s :: l) = span s ++ spanAll l := by simp [spanAll]
    rw [e1, List.foldl_append, rg_span s out h3 (fun ys t e2 => by have := ho ys t e2; omega), rg_spanAll_go l s.f1 (out ++ [s]) (by omega) h1 (fun ys t e2 => by
      have := List.append_inj_right' e2 rfl
      simp at this
      rw [← this])]
    simp
theorem rg_ok {l : List S71} (h : okS l = true) : rg (vals (inL (spanAll l)) (firstS l) (lastS l - firstS l + 1)) = l := by
  rw [vals_spanAll h]
  obtain ⟨b1, _⟩ := ok_bounds h
  have := rg_spanAll_go l _ [] (by omega) (right_mem b1).2.1 (fun ys t e => by
    have := congrArg List.length e
    simp at this)
  exact this

end Go.Proofs.YtfkbkcdiajjljaaDoor.PBitsSteps

namespace Go.Proofs.YtfkbkcdiajjljaaDoor.PBitsSteps
open Go.RowKit Go.Proofs.YtfkbkcdiajjljaaDoorW.PrintWords Go.Proofs.YtfkbkcdiajjljaaDoorW.PrintLast Go.Proofs.YtfkbkcdiajjljaaDoorW.PrintMore
set_option linter.unusedVariables false
set_option linter.unusedSimpArgs false
theorem in_f (x : Int) : jigsawref02_in.f x = some (decide (-1000000 ≤ x ∧ x ≤ 1000000)) := by
  unfold jigsawref02_in.f
  by_cases h : x ≥ -1000000
  · rw [if_pos h]
    congr 1
    rw [Bool.eq_iff_iff]
    simp only [decide_eq_true_eq]
    omega
  · rw [if_neg h, decide_eq_false (by omega)]
theorem refRight_l0 (l : List S71) (hl : l.length ≤ 4096) : ∀ (d i : Nat) (e : Int), l.length = i + d → (i = 0 ∧ e = -1000002 ∨ 0 < i ∧ (rd_T71 l ((i - 1 : Nat) : Int)).f1 = e ∧ -1000000 ≤ e ∧ e ≤ 1000000) → jigsawref02_Right.l0 (d + 1) l (i : Int) = some (rightL e (l.drop i))
  | 0, i, e, hd, _ => by
    simp only [jigsawref02_Right.l0]
    rw [if_neg (by omega), List.drop_eq_nil_of_le (by omega)]
    rfl
  | d + 1, i, e, hd, he => by
    have hi : i < l.length := by omega
    have ih := refRight_l0 l hl d (i + 1) l[i].f1 (by omega)
    rw [List.drop_eq_getElem_cons hi]
    rw [jigsawref02_Right.l0]
    rw [if_pos (by omega), if_pos (by omega), in_f, Option.bind_some, rd71 l i hi, in_f]
    rw [show wrap64 ((i : Int) + 1) = ((i + 1 : Nat) : Int) from IntWalk.wrap64_in _ (by omega)]
    rw [show ((i + 1 - 1 : Nat) : Int) = (i : Int) by omega, rd71 l i hi] at ih
    unfold rightL
    generalize l[i] = s at *
    by_cases c1 : -1000000 ≤ s.f0 ∧ s.f0 ≤ 1000000
    · rw [decide_eq_true c1, if_pos rfl, Option.bind_some]
      by_cases c2 : -1000000 ≤ s.f1 ∧ s.f1 ≤ 1000000
      · rw [decide_eq_true c2, if_pos rfl]
        by_cases c3 : s.f0 > s.f1
        · rw [if_pos c3]
          by_cases c4 : s.f0 ≤ e + 1
          · rw [if_pos c4]
          · rw [if_neg c4, if_pos c3]
        · rw [if_neg c3]
          have ih := ih (.inr ⟨by omega, rfl, c2.1, c2.2⟩)
          rcases he with ⟨rfl, rfl⟩ | ⟨h0, h1, h2, h3⟩
          · rw [if_neg (by omega), ih, if_neg (by omega), if_neg (by omega), if_neg (by omega)]
          · rw [if_pos (by omega)]
            rw [show wrap64 ((i : Int) - 1) = ((i - 1 : Nat) : Int) by rw [show (i : Int) - 1 = ((i - 1 : Nat) : Int) by omega]; exact IntWalk.wrap64_in _ (by omega)]
            rw [if_pos (by omega), if_pos (by omega), h1]
            rw [show wrap64 (e + 1) = e + 1 from IntWalk.wrap64_in _ (by omega)]
            by_cases c4 : s.f0 ≤ e + 1
            · rw [if_pos c4, if_pos c4]
            · rw [if_neg c4, if_neg c4, ih, if_neg (by omega), if_neg (by omega)]
      · rw [decide_eq_false c2, if_neg (by simp)]
        by_cases c4 : s.f0 ≤ e + 1
        · rw [if_pos c4]
        · rw [if_neg c4]
          by_cases c5 : s.f1 < s.f0
          · rw [if_pos c5]
          · rw [if_neg c5, if_pos (by omega)]
    · rw [decide_eq_false c1, if_neg (by simp)]
      by_cases c4 : s.f0 ≤ e + 1
      · rw [if_pos c4]
      · rw [if_neg c4]
        by_cases c5 : s.f1 < s.f0
        · rw [if_pos c5]
        · rw [if_neg c5, if_pos (by omega)]
theorem refRight_f (l : List S71) : jigsawref02_Right.f (l.length + 1) l = some (rightS l) := by
  unfold jigsawref02_Right.f rightS
  by_cases h : 4096 < l.length
  · rw [if_pos (by omega), if_pos h]
  · rw [if_neg (by omega), if_neg h]
    exact refRight_l0 l (by omega) l.length 0 _ (by omega) (.inl ⟨rfl, rfl⟩)
theorem refRight_calls (A : Option Addr) (c : Nat) (l : List S71) (w : World) (h : Kd.C k71 w A l.length l) (hc : l.length ≤ c) :
    Calls Tryd.prog 14 #[.slice A l.length c] w fun e w' => e = .returned (.bool (rightS l)) ∧ Below w.heap.size w w' :=
  (jigsawref02_Right.calls _ A c l _ w h hc (refRight_f l)).mono fun _ _ ⟨he, hb⟩ => ⟨he, by first | exact hb | exact hb.below⟩

end Go.Proofs.YtfkbkcdiajjljaaDoor.PBitsSteps

namespace Go.Proofs.YtfkbkcdiajjljaaDoor.PBitsSteps
open Go.RowKit Go.Proofs.YtfkbkcdiajjljaaDoorW.PrintWords Go.Proofs.YtfkbkcdiajjljaaDoorW.PrintLast Go.Proofs.YtfkbkcdiajjljaaDoorW.PrintMore
set_option linter.unusedVariables false
set_option linter.unusedSimpArgs false
/-! ### known -/
theorem SetAt.first {w : World} {g gp : Nat} {f r : Int} {M : Int → Bool} (h : SetAt w g gp f r M) : Calls Tryd.prog 10 #[setP g] w fun e w' => e = .returned (.int .i64 f) ∧ Drawn0 w w' := by
  obtain ⟨n, c, ws, cs, h1, h2⟩ := h
  exact bits_First.calls g f r _ n c w h1
theorem SetAt.room {w : World} {g gp : Nat} {f r : Int} {M : Int → Bool} (h : SetAt w g gp f r M) : Calls Tryd.prog 11 #[setP g] w fun e w' => e = .returned (.int .i64 r) ∧ Drawn0 w w' := by
  obtain ⟨n, c, ws, cs, h1, h2⟩ := h
  exact bits_Room.calls g f r _ n c w h1
theorem SetAt.del2 {w : World} {g gp : Nat} {f r : Int} {M : Int → Bool} (h : SetAt w g gp f r M) (v : Int) (B : Nat) (hB : B ≤ gp) :
    Calls Tryd.prog 23 #[setP g, .int .i64 v] w fun e w' => e = .returned (.tuple #[.bool (M v), .int .i64 0]) ∧ SetAt w' g gp f r (fun x => M x && !(x == v)) ∧ (∀ b, b ≠ gp → w'.heap[b]? = w.heap[b]?) ∧ Below B w w' := by
  refine (h.del v).mono ?_
  rintro e w' ⟨rfl, hd, hs⟩
  refine ⟨rfl, hs, ?_⟩
  rcases hd with ⟨⟨m, rfl⟩⟩ | ⟨m, i, u, rfl⟩
  · exact ⟨fun _ _ => rfl, pw_below_drewN (Below.refl _ _) m⟩
  · exact ⟨fun b hb => Below.heap_setCell _ ⟨gp, i, none⟩ u b hb, (pw_below_drewN (Below.refl _ _) m).setCell (p := ⟨gp, i, none⟩) hB u⟩
theorem drawn_heap {w w' : World} (h : Drawn0 w w') : w'.heap = w.heap := by
  obtain ⟨⟨m, rfl⟩⟩ := h
  rfl
theorem drawn_below {B : Nat} {w w' : World} (h : Drawn0 w w') : Below B w w' := by
  obtain ⟨⟨m, rfl⟩⟩ := h
  exact pw_below_drewN (Below.refl _ _) m
def knownL : List S71 := [⟨1, 3⟩, ⟨7, 7⟩]
theorem knownL_C (w : World) : Kd.C k71 (w.alloc (.cells #[.int .i64 1, .int .i64 3, .int .i64 7, .int .i64 7] 71)) (some ⟨w.heap.size, 0, none⟩) 2 knownL := by
  have hr : Reps (k71.K w) 2 knownL (flat71 knownL) := flat71_reps w _
  refine ⟨rfl, by decide, fun _ => ⟨_, rfl, fun j p hj => ?_⟩⟩
  have hn := World.alloc_heap_new w (.cells #[.int .i64 1, .int .i64 3, .int .i64 7, .int .i64 7] 71)
  match j, hj with
  | 0, hj =>
    obtain rfl : (⟨1, 3⟩ : S71) = p := by simpa [knownL] using hj
    refine ⟨_, rfl, k71_mk _ _, fun i u hu => ?_⟩
    rw [add_zero_off]
    refine (blk_cell hn _).trans ?_
    match i, hu with
    | 0, hu => exact hu
    | 1, hu => exact hu
  | 1, hj =>
    obtain rfl : (⟨7, 7⟩ : S71) = p := by simpa [knownL] using hj
    refine ⟨_, rfl, k71_mk _ _, fun i u hu => ?_⟩
    rw [add_zero_off]
    refine (blk_cell hn _).trans ?_
    match i, hu with
    | 0, hu => exact hu
    | 1, hu => exact hu
theorem knownL_ok : okS knownL = true ∧ firstS knownL = 1 ∧ lastS knownL = 7 := by decide
def knownM (x : Int) : Bool := x == 1 || x == 2 || x == 3 || x == 7
theorem knownL_M (x : Int) : inL (spanAll knownL) x = knownM x := by
  unfold inL knownM
  rw [Bool.eq_iff_iff]
  have e : spanAll knownL = [1, 2, 3, 7] := by decide
  rw [e]
  simp [or_assoc]
theorem knownW : wordN knownM 1 64 = 71 ∧ wordN (fun x => knownM x && !(x == 2)) 1 64 = 69 := by decide
theorem known_next {n : Int} {ok : Bool} (h : IsNext (fun x => knownM x && !(x == 2)) 4 n ok) : n = 7 ∧ ok = true := by
  rcases h with ⟨rfl, h1, h2, _⟩ | ⟨_, _, h⟩
  · refine ⟨?_, rfl⟩
    have : knownM n = true := by
      rw [Bool.and_eq_true] at h2
      exact h2.1
    unfold knownM at this
    simp at this
    omega
  · have := h 7 (by omega)
    cases this

set_option maxRecDepth 100000 in
set_option maxHeartbeats 8000000 in
theorem known_calls (w : World) (hL : TabLaid w) : Calls Tryd.prog 8 #[] w fun e w' => e = .returned (.bool true) ∧ Below w.heap.size w w' := by
  have hz : 0 < w.heap.size := World.block_lt_of_cell? w _ (hL 0 (by decide))
  have hC := knownL_C w
  have hB1 : Below w.heap.size w (w.alloc (.cells #[.int .i64 1, .int .i64 3, .int .i64 7, .int .i64 7] 71)) := (Below.refl _ _).alloc (Nat.le_refl _) _
  have hsz : (w.alloc (.cells #[.int .i64 1, .int .i64 3, .int .i64 7, .int .i64 7] 71)).heap.size = w.heap.size + 1 := World.size_alloc _ _
  have hof := of_made _ 2 knownL _ hC (by decide) knownL_ok.1 (by rw [knownL_ok.2.1, knownL_ok.2.2]; decide)
  rw [knownL_ok.2.1, knownL_ok.2.2, hsz] at hof
  have HOF : Hid (Calls Tryd.prog 7 #[.slice (some ⟨w.heap.size, 0, none⟩) 2 2] (w.alloc (.cells #[.int .i64 1, .int .i64 3, .int .i64 7, .int .i64 7] 71)) fun e w' => ∃ g gp, e = .returned (.tuple #[setP g, .int .i64 0]) ∧ (w.heap.size + 1 ≤ g ∧ w.heap.size + 1 ≤ gp) ∧ SetAt w' g gp 1 (7 - 1 + 1) (inL (spanAll knownL)) ∧ Below (w.heap.size + 1) (w.alloc (.cells #[.int .i64 1, .int .i64 3, .int .i64 7, .int .i64 7] 71)) w') := hof
  have HL := Lib.hid hL; have HB1 := Lib.hid hB1
  clear hof hL hB1 hC hsz
  go_enter Tryd.func8, Tryd.ntmps8
  go_wp2_with fail
  refine HOF.out.mono ?_
  rintro e w1 ⟨g, gp, rfl, ⟨k1, k2⟩, k3, k4⟩
  have hs1 : SetAt w1 g gp 1 7 knownM := k3.ext knownL_M
  have hb1 : Below w.heap.size w w1 := HB1.out.trans (k4.mono (by omega))
  have U : setP g = .pointer (some ⟨g, 0, none⟩) := rfl
  have HS1 := Lib.hid hs1; have HB2 := Lib.hid hb1
  clear hs1 hb1 k3 k4
  rw [U]
  go_wp2_with fail
  rw [← U]
  refine HS1.out.first.mono ?_
  rintro e w2 ⟨rfl, hd2⟩
  have HS2 := Lib.hid (HS1.out.below hd2.below)
  have HB3 := Lib.hid (HB2.out.trans (drawn_below hd2))
  rw [U]
  go_wp2_with fail
  rw [← U]
  refine HS2.out.room.mono ?_
  rintro e w3 ⟨rfl, hd3⟩
  have HS3 := Lib.hid (HS2.out.below hd3.below)
  have HB4 := Lib.hid (HB3.out.trans (drawn_below hd3))
  clear hd2 hd3
  rw [U]
  go_wp2_with fail
  rw [← U]
  refine HS3.out.words.mono ?_
  rintro e w4 ⟨g2, cs2, rfl, q1, q2, q3, q4⟩
  rw [show (((7 : Int) + 63) / 64).toNat = 1 by decide]
  have w71 : w4.heap[g2]? = some (.cells cs2 72 (0, 0)) ∧ cs2[0]? = some (.int .u64 71) := ⟨q2, by
    have := q3 0 (by decide)
    rw [show (1 : Int) + 64 * ((0 : Nat) : Int) = 1 by decide, knownW.1] at this
    exact this⟩
  have W71 := Lib.hid w71
  have HS4 := Lib.hid (HS3.out.below q4)
  have HB5 := Lib.hid (below_step HB4.out q4)
  have hg2 : gp < w4.heap.size ∧ g2 < w4.heap.size ∧ gp ≠ g2 := ⟨HS4.out.lt.2.1, blk_lt q2, by have := HS3.out.lt.2.1; omega⟩
  clear q2 q3 q4 w71 q1
  rw [U]
  go_wp2_with fail
  rw [← U]
  refine (HS4.out.del2 2 w.heap.size (by omega)).mono ?_
  rintro e w5 ⟨rfl, hs5, hk5, hb5⟩
  rw [show knownM 2 = true by decide]
  have HS5 := Lib.hid hs5; have HK5 := Lib.hid hk5; have HB6 := Lib.hid (HB5.out.trans hb5)
  clear hs5 hk5 hb5
  rw [U]
  go_wp2_with fail
  rw [← U]
  refine (HS5.out.add_out 9 (by omega)).mono ?_
  rintro e w6 ⟨rfl, hd6⟩
  have HS6 := Lib.hid (HS5.out.below hd6.below)
  have HB7 := Lib.hid (HB6.out.trans (drawn_below hd6))
  have HH6 := Lib.hid (drawn_heap hd6)
  clear hd6
  rw [U]
  go_wp2_with fail
  rw [← U]
  refine (HS6.out.next (tab_keep HL.out (HB7.out.block 0 hz)) 4 (by omega)).mono ?_
  rintro e w7 ⟨⟨n, ok, rfl, hn⟩, hd7⟩
  obtain ⟨rfl, rfl⟩ := known_next hn
  have HS7 := Lib.hid (HS6.out.below hd7.below)
  have HB8 := Lib.hid (HB7.out.trans (drawn_below hd7))
  have HH7 := Lib.hid (drawn_heap hd7)
  clear hd7 hn
  rw [U]
  go_wp2_with fail
  rw [← U]
  refine HS7.out.words.mono ?_
  rintro e w8 ⟨g3, cs3, rfl, p1, p2, p3, p4⟩
  rw [show (((7 : Int) + 63) / 64).toNat = 1 by decide]
  have e7 : w7.heap[g2]? = some (.cells cs2 72 (0, 0)) := by
    rw [HH7.out, HH6.out]
    exact (HK5.out g2 (fun e => hg2.2.2 e.symm)).trans W71.out.1
  have e8 : w8.heap[g2]? = some (.cells cs2 72 (0, 0)) := (p4.block g2 (blk_lt e7)).trans e7
  have c71 : w8.cell? ⟨g2, 0, none⟩ = some (.int .u64 71) := (blk_cell e8 0).trans W71.out.2
  have c69 : w8.cell? ⟨g3, 0, none⟩ = some (.int .u64 69) := by
    refine (blk_cell p2 0).trans ?_
    have := p3 0 (by decide)
    rw [show (1 : Int) + 64 * ((0 : Nat) : Int) = 1 by decide, knownW.2] at this
    exact this
  have HB9 := Lib.hid (below_step HB8.out p4)
  clear p1 p2 p3 p4 e7 e8
  go_wp2_with fail
  go_ret
  exact ⟨rfl, HB9.out⟩

end Go.Proofs.YtfkbkcdiajjljaaDoor.PBitsSteps
