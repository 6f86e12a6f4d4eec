/- Parts of the laws of bits: functions of the program, each with the proof of what it answers; the conditions are those of each theorem. -/
import Derived.Test.YtfkbkcdiajjljaaDoorBi
namespace Go.Proofs.YtfkbkcdiajjljaaDoor.PBitsSteps
open Go.RowKit Go.Proofs.YtfkbkcdiajjljaaDoorW.PrintWords Go.Proofs.YtfkbkcdiajjljaaDoorW.PrintLast Go.Proofs.YtfkbkcdiajjljaaDoorW.PrintMore
set_option linter.unusedVariables false
set_option linter.unusedSimpArgs false
theorem C_keep {W W' : World} {g n : Nat} {l : List S71} (h : Kd.C k71 W (some ⟨g, 0, none⟩) n l) (e : W'.heap[g]? = W.heap[g]?) : Kd.C k71 W' (some ⟨g, 0, none⟩) n l := by
  refine ⟨h.1, h.2.1, fun hn => ?_⟩
  obtain ⟨ad, ea, hc⟩ := h.2.2 hn
  injection ea with ea
  subst ea
  refine ⟨_, rfl, fun j p hj => ?_⟩
  obtain ⟨c, h1, h2, h3⟩ := hc j p hj
  refine ⟨c, h1, ?_, fun i u hu => ?_⟩
  · obtain rfl := k71_open h2
    exact k71_mk _ _
  · rw [← h3 i u hu, add_zero_off]
    exact World.cell?_of_block (a := ⟨g, _, none⟩) e
set_option maxHeartbeats 8000000 in
theorem clone_ranges (w : World) (ad : Addr) (c : Nat) (l : List S71) (h : Kd.C k71 w (some ad) l.length l) (hn : 0 < l.length) (hn2 : l.length ≤ 4096) :
    Calls Tryd.prog 66 #[.slice (some ad) l.length c] w fun e w' => ∃ g' cap, e = .returned (.slice (some ⟨g', 0, none⟩) l.length cap) ∧ w.heap.size ≤ g' ∧ g' < w'.heap.size ∧ Kd.C k71 w' (some ⟨g', 0, none⟩) l.length l ∧ Below w.heap.size w w' := by
  have hu := Tryd.underlying22
  obtain ⟨i, hi1, hz, hs, hby⟩ := info_parts Tryd.info71
  have hown : (w.alloc (.cells #[] 71)).ownsRow w.heap.size 71 2 (.slice (some ⟨w.heap.size, 0, none⟩) 0 0) 0 [] :=
    ⟨rfl, .inr ⟨w.heap.size, 0, #[], rfl, Nat.le_refl _, World.alloc_heap_new _ _, Nat.le_refl _, by decide, rfl, rfl⟩⟩
  have hC2 : Kd.C k71 (w.alloc (.cells #[] 71)) (some ad) l.length l := Kd.C_below h ((Below.refl _ _).alloc (Nat.le_refl _) _)
  obtain ⟨news, hreps, hnews⟩ := ReadsRow.inner_ hC2
  have hone : ∀ u ∈ news, u.oneCell' = true := by
    intro u hu
    obtain ⟨q, hq, rfl⟩ := List.mem_iff_getElem.1 hu
    have hql : q / 2 < l.length := by have := hreps.1; change news.length = l.length * 2 at this; omega
    have hc := hreps.2 (q / 2) _ (List.getElem?_eq_getElem hql)
    have e := k71_open hc
    have e2 : ((news.drop (q / 2 * 2)).take 2)[q % 2]? = some news[q] := by
      rw [List.getElem?_take, if_pos (Nat.mod_lt _ (by decide)), List.getElem?_drop, show q / 2 * 2 + q % 2 = q by omega, List.getElem?_eq_getElem hq]
    rw [show ((news.drop (q / 2 * 2)).take 2) = _ from e] at e2
    rcases Nat.mod_two_eq_zero_or_one q with h0 | h0 <;> rw [h0] at e2 <;> simp at e2 <;> rw [← e2] <;> rfl
  have hlen : news.length = l.length * 2 := hreps.1
  have hml : 0 + l.length ≤ maxLen := by simp only [maxLen]; omega
  have hle : w.heap.size ≤ (w.alloc (.cells #[] 71)).heap.size := by simp
  have hB0 : Below w.heap.size w (w.alloc (.cells #[] 71)) := (Below.refl _ _).alloc (Nat.le_refl _) _
  have HREPS := Lib.hid hreps
  have HN := Lib.hid hn
  clear hreps h hC2 hn
  generalize hm : l.length = m at *
  go_enter Tryd.func66, Tryd.ntmps66
  go_wp2_with fail
  rw [run_eql_slice_nil _ 22 71 _ m c hu]
  go_wp2_with ((with_reducible refine gate_dst (N := 7) rfl ?_); refine wpList_append_own _ rfl _ _ 22 rfl w.heap.size 71 i _ 2 16 hu hi1 hz hs hby rfl (by decide) _ 0 [] rfl hown ad m c _ rfl hlen hnews hone hml (by omega) hle ?_; intro v' w' hown' hg hnil; obtain ⟨g', cap, rfl, hown2⟩ : ∃ g cap, v' = .slice (some ⟨g, 0, none⟩) m cap ∧ w'.ownsRow w.heap.size 71 2 (.slice (some ⟨g, 0, none⟩) m cap) m news := (by rw [Nat.zero_add, List.nil_append] at hown'; rcases hown'.2 with ⟨_, h0⟩ | ⟨g, cap, cur, e, b⟩; exact absurd h0 (by have := HN.out; omega); exact ⟨g, cap, e, e ▸ hown'⟩))
  go_ret
  have hb := hB0.grown hg hle (fun k hk => by cases hk; exact Nat.le_refl _)
  obtain ⟨A, c2, e1, hC⟩ := own_reads_row (ps := l) hown2 (HREPS.out.imp_ (fun p cs hp => by obtain rfl := k71_open hp; exact k71_mk w' p)) hm
  injection e1 with e1 e2 e3
  subst e1
  exact ⟨g', cap, rfl, own_base hown2 g' rfl, own_lt hown2 g' rfl, hC, hb⟩

set_option maxHeartbeats 4000000 in
theorem dom_each_calls (ad : Addr) (c : Nat) (l : List S71) (w : World) (h : Kd.C k71 w (some ad) l.length l) (hc : l.length ≤ c) (hn : 0 < l.length) (hR : rightS l = true) :
    Calls Tryd.prog 40 #[.slice (some ad) l.length c] w fun e w' => ∃ B g' cap, e = .returned (.func (.func 67) #[] #[.pointer (some ⟨B, 0, none⟩)]) ∧ (w.heap.size ≤ B ∧ w.heap.size ≤ g' ∧ g' < w'.heap.size) ∧ Boxed w' B 22 (.slice (some ⟨g', 0, none⟩) l.length cap) ∧ Kd.C k71 w' (some ⟨g', 0, none⟩) l.length l ∧ Below w.heap.size w w' := by
  have hmf : ∀ (fn : Fn) (first cap : Array Value) (w : World), (Instr.makeFunc fn first cap).run Tryd.prog w = .ok (.func fn first cap) w := fun _ _ _ _ => rfl
  have hn2 : l.length ≤ 4096 := by
    unfold rightS at hR
    split at hR
    · cases hR
    · omega
  have hT := taken_calls _ c l w h hc
  unfold takenV at hT
  rw [hR, if_pos rfl] at hT
  have HT := Lib.hid hT; have HC := Lib.hid h; have HN := Lib.hid hn; have HN2 := Lib.hid hn2
  clear hT h hc hn hn2 hR
  go_enter Tryd.func40, Tryd.ntmps40
  go_wp2_with fail
  refine HT.out.mono ?_
  rintro e w1 ⟨rfl, hb⟩
  go_wp2_with fail
  refine (clone_ranges w1 ad c l (Kd.C_below HC.out hb) HN.out HN2.out).mono ?_
  rintro e w2 ⟨g', cap, rfl, k1, k2, k3, k4⟩
  go_wp2_with fail
  go_ret
  have hb2 : Below w.heap.size w w2 := below_step hb k4
  refine ⟨w2.heap.size, g', cap, rfl, ⟨hb2.size, Nat.le_trans hb.size k1, ?_⟩, Boxed.new _ _ _, ?_, hb2.alloc hb2.size _⟩
  · simp; omega
  · exact Kd.C_below k3 ((Below.refl _ _).alloc (Nat.le_refl _) _)
def span (s : S71) : List Int := (List.range (s.f1 - s.f0 + 1).toNat).map (fun (i : Nat) => s.f0 + (i : Int))
def spanAll (l : List S71) : List Int := l.flatMap span
theorem spanAll_snoc (l : List S71) (s : S71) : spanAll (l ++ [s]) = spanAll l ++ span s := by simp [spanAll]
def spanTo (s : S71) (j : Nat) : List Int := (List.range j).map (fun (i : Nat) => s.f0 + (i : Int))
theorem spanTo_succ (s : S71) (j : Nat) : spanTo s (j + 1) = spanTo s j ++ [s.f0 + j] := by simp [spanTo, List.range_succ]
theorem mem_span (s : S71) (x : Int) : x ∈ span s ↔ s.f0 ≤ x ∧ x ≤ s.f1 := by
  unfold span
  simp only [List.mem_map, List.mem_range]
  constructor
  · rintro ⟨i, hi, rfl⟩; omega
  · intro h; exact ⟨(x - s.f0).toNat, by omega, by omega⟩
theorem mem_spanAll (l : List S71) (x : Int) : x ∈ spanAll l ↔ ∃ s ∈ l, s.f0 ≤ x ∧ x ≤ s.f1 := by
  unfold spanAll
  simp only [List.mem_flatMap, mem_span]
def keepsCells (gp : Nat) (W W' : World) : Prop := W.heap.size ≤ W'.heap.size ∧ ∀ b o, b ≠ gp → W.heap[b]? = some o → o.isCells = true → W'.heap[b]? = some o
abbrev Elt (l : List S71) := { x : Int // x ∈ spanAll l }

theorem rightL_mem : ∀ (l : List S71) (e : Int), -1000002 ≤ e → rightL e l = true → ∀ s ∈ l, -1000000 ≤ s.f0 ∧ e + 1 < s.f0 ∧ s.f0 ≤ s.f1 ∧ s.f1 ≤ 1000000
  | [], _, _, _, s, hs => by cases hs
  | t :: l, e, he, h, s, hs => by
    unfold rightL at h
    split at h
    · cases h
    · split at h
      · cases h
      · split at h
        · cases h
        · rcases List.mem_cons.1 hs with rfl | hs
          · omega
          · have := rightL_mem l t.f1 (by omega) h s hs
            omega
theorem right_mem {l : List S71} (h : rightS l = true) : l.length ≤ 4096 ∧ rightL (-1000002) l = true ∧ ∀ s ∈ l, -1000000 ≤ s.f0 ∧ s.f0 ≤ s.f1 ∧ s.f1 ≤ 1000000 := by
  unfold rightS at h
  split at h
  · cases h
  · refine ⟨by omega, h, fun s hs => ?_⟩
    have := rightL_mem l _ (by omega) h s hs
    omega
theorem spanAll_take (l : List S71) (k : Nat) (hk : k < l.length) : spanAll (l.take (k + 1)) = spanAll (l.take k) ++ span l[k] := by
  rw [List.take_succ_eq_append_getElem hk, spanAll_snoc]
theorem spanAll_len (l : List S71) (k : Nat) (hk : k < l.length) (j : Nat) (hj : j < (l[k].f1 - l[k].f0 + 1).toNat) : (spanAll (l.take k) ++ spanTo l[k] j).length < (spanAll l).length := by
  have e : spanAll l = spanAll (l.take (k + 1)) ++ spanAll (l.drop (k + 1)) := by
    unfold spanAll
    rw [← List.flatMap_append, List.take_append_drop]
  rw [e, spanAll_take l k hk]
  simp only [List.length_append, span, spanTo, List.length_map, List.length_range]
  omega
attribute [local go_sem] Oper.semAt_some
open Go.Shelf in
set_option maxRecDepth 100000 in
set_option maxHeartbeats 4000000 in
theorem dom_each_stops (n : Nat) (hn : 1 ≤ n) (B g gp : Nat) (cap : Nat) (l : List S71) (w : World) (hc : Boxed w B 22 (.slice (some ⟨g, 0, none⟩) l.length cap)) (hC : Kd.C k71 w (some ⟨g, 0, none⟩) l.length l) (hg : g < w.heap.size ∧ ∃ o, w.heap[g]? = some o ∧ o.isCells = true) (hgp : gp < w.heap.size ∧ B ≠ gp ∧ g ≠ gp) (hR : rightS l = true) :
    SeqStopsK Fence.wide n Tryd.prog 67 #[.pointer (some ⟨B, 0, none⟩)] (fun x : Elt l => #[.int .i64 x.1]) (keepsCells gp)
      (fun xs => xs.map (·.1) = spanAll l) (fun _ => True) (spanAll l).length w := fun lo J Jx W hW hJ hJx hY h0 => by
  refine callsIn_of_wp Tryd.func67 rfl trivial ?_ rfl
  simp only [Tryd.ntmps67, List.size_toArray, List.length_cons, List.length_nil, Nat.reduceAdd, Nat.reduceSub, Array.replicate_succ, Array.replicate_zero, List.push_toArray, List.append_toArray, List.nil_append, List.cons_append]
  obtain ⟨hl1, _, hl3⟩ := right_mem hR
  have hbW := boxed_below hc hW
  have hCW := Kd.C_below hC hW
  obtain ⟨hg1, og, hg2, hg3⟩ := hg
  have hgW : W.heap[g]? = some og := (hW.block g hg1).trans hg2
  have hcW := hbW.cell
  have HC := Lib.hid hCW; have HB := Lib.hid hbW; have HJ := Lib.hid hJ; have HY := Lib.hid hY; have HL3 := Lib.hid hl3
  have HGP := Lib.hid (show gp < W.heap.size ∧ B ≠ gp ∧ g ≠ gp from ⟨Nat.lt_of_lt_of_le hgp.1 hW.size, hgp.2⟩)
  have HGW := Lib.hid hgW; have HG3 := Lib.hid hg3
  clear hc hC hR hW hbW hCW hJ hJx hY hl3 hgp hgW hg2 hg3
  generalize hm : l.length = m at *
  have HM := Lib.hid hm; clear hm
  gi_wp2
  gi_loopw [8] (fun i wr => ∃ (k : Nat) (pre : List (Elt l)), i = .int .i64 k ∧ k ≤ m ∧ Hid (pre.map (·.1) = spanAll (l.take k)) ∧ J pre wr ∧ Hid (W.heap.size ≤ wr.heap.size) ∧ Hid (wr.heap[g]? = some og) ∧ Hid (Kd.C k71 wr (some ⟨g, 0, none⟩) m l))
    (fun i _ => (m - (intOf i).toNat))
  case atStart => exact ⟨0, [], rfl, by omega, Lib.hid rfl, h0, Lib.hid (Nat.le_refl _), HGW, HC⟩
  case round =>
    obtain ⟨k, pre, rfl, hk, hpre, hJp, hsz, hgk, hCk⟩ := hrel
    by_cases hkm : k < m
    · have hkl : k < l.length := by rw [HM.out]; exact hkm
      obtain ⟨ad, e1, a0, a1⟩ := at_T71 hCk.out (k : Int) (by omega) (by omega)
      injection e1 with e1
      subst e1
      rw [rd71 l k hkl, Int.toNat_natCast, add_zero_off] at a0 a1
      have hsb := HL3.out _ (List.getElem_mem hkl)
      have hstep := spanAll_take l k hkl
      have hslen := spanAll_len l k hkl
      have hmem : ∀ x, l[k].f0 ≤ x → x ≤ l[k].f1 → x ∈ spanAll l := fun x h1 h2 => (mem_spanAll l x).2 ⟨_, List.getElem_mem hkl, h1, h2⟩
      have HST := Lib.hid hstep; have HSL := Lib.hid hslen; have HMM := Lib.hid hmem
      clear hstep hslen hmem
      generalize l[k] = s at *
      have hnew := World.alloc_heap_new wr (.cells #[.int .i64 s.f0, .int .i64 s.f1] 71)
      have HNEW := Lib.hid hnew; clear hnew
      gi_wp2
      generalize hrb : wr.heap.size = rb at HNEW ⊢
      have HRB := Lib.hid hrb; clear hrb
      have hgrb : gp ≠ rb := by have := hsz.out; have := HRB.out; have := HGP.out; omega
      gi_loopw [5] (fun i w2 => ∃ (j : Nat) (pre : List (Elt l)), i = .int .i64 (s.f0 + j) ∧ s.f0 + j ≤ s.f1 + 1 ∧ Hid (pre.map (·.1) = spanAll (l.take k) ++ spanTo s j) ∧ J pre w2 ∧ Hid (W.heap.size ≤ w2.heap.size) ∧ Hid (w2.heap[g]? = some og) ∧ Hid (Kd.C k71 w2 (some ⟨g, 0, none⟩) m l) ∧ Hid (w2.heap[rb]? = some (.cells #[.int .i64 s.f0, .int .i64 s.f1] 71 (0, 0))) ∧ w2.cell? ⟨rb, 1, none⟩ = some (.int .i64 s.f1))
        (fun i _ => (s.f1 + 1 - intOf i).toNat)
      case atStart =>
        exact ⟨0, pre, by simp, by omega, Lib.hid (by rw [hpre.out]; simp [spanTo]), HJ.out _ _ _ none hJp (World.grownBy_alloc _ _ none) (fun r h => by cases h), Lib.hid (by have := hsz.out; simp; omega), Lib.hid ((Below.heap_alloc _ _ g (blk_lt hgk.out)).trans hgk.out), Lib.hid (Kd.C_below hCk.out ((Below.refl _ _).alloc (Nat.le_refl _) _)), HNEW, (blk_cell HNEW.out 1).trans rfl⟩
      case round =>
        obtain ⟨j, pre2, rfl, hj, hpre2, hJ2, hsz2, hgk2, hC2, hr2, hcell2⟩ := hrel
        by_cases hle : s.f0 + j ≤ s.f1
        · have hplen : pre2.length < (spanAll l).length := by
            have h1 := HSL.out j (by omega)
            rw [← hpre2.out, List.length_map] at h1
            exact h1
          obtain ⟨fn, tmps, assign, body, hy, hR2⟩ := HY.out pre2 ⟨s.f0 + j, HMM.out _ (by omega) hle⟩ wr hJ2 hplen
          dsimp only at hy
          gi_wp2
          refine hR2.mono ?_
          rintro e W' (⟨rfl, hJ', hk'⟩ | ⟨rfl, hJx'⟩)
          · have hgp := HGP.out
            have hr' := hk'.2 rb _ (fun e => hgrb e.symm) hr2.out rfl
            have hgg := hk'.2 g og hgp.2.2 hgk2.out HG3.out
            have hC' : Kd.C k71 W' (some ⟨g, 0, none⟩) m l := C_keep hC2.out (hgg.trans hgk2.out.symm)
            have hc' : W'.cell? ⟨rb, 1, none⟩ = some (.int .i64 s.f1) := (blk_cell hr' 1).trans rfl
            have hsz' : W.heap.size ≤ W'.heap.size := Nat.le_trans hsz2.out hk'.1
            have HR' := Lib.hid hr'; have HGG := Lib.hid hgg; have HC' := Lib.hid hC'; have HSZ' := Lib.hid hsz'; have HJ' := Lib.hid hJ'
            clear hk' hr' hgg hC' hsz' hJ'
            gi_wp2
            go_roundw
            case rel => exact ⟨j + 1, _, by go_num, by omega, Lib.hid (by rw [List.map_append, hpre2.out, spanTo_succ, List.append_assoc]; rfl), HJ'.out, HSZ', HGG, HC', HR', hc'⟩
            case measure => simp [intOf]; omega
          · gi_wp2
            refine bodyPost_ret (results_none rfl _ _ _) rfl ?_
            exact ⟨⟨_, rfl⟩, .inr ⟨_, trivial, hJx'⟩⟩
        · have hjj : j = (s.f1 - s.f0 + 1).toNat := by omega
          gi_wp2
          go_roundw
          case rel => exact ⟨k + 1, pre2, by go_num, by omega, Lib.hid (by rw [hpre2.out, HST.out, hjj]; rfl), hJ2, hsz2, hgk2, hC2⟩
          case measure => simp [intOf]; omega
    · obtain rfl : k = m := by omega
      gi_wp2
      go_end0
      exact ⟨⟨_, rfl⟩, .inl ⟨_, by rw [hpre.out, List.take_of_length_le (by rw [HM.out]; exact Nat.le_refl _)], hJp⟩⟩

end Go.Proofs.YtfkbkcdiajjljaaDoor.PBitsSteps
