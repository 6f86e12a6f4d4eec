/- Parts of the laws of dom: functions of the program, each with the proof of what it answers; the conditions are those of each theorem. -/
import Derived.Test.YtnfdppkbbfdmnaaGreatDoorC10
import Derived.RangeFuncNested
import Derived.RangeFuncBound
import Derived.RangeFuncCalls
import Derived.RangeFuncLeaves
import Derived.Shelf.Abstract
import Derived.Shelf.RegionOpen
import Derived.OwnWalkIn
import Derived.TacticsInMore
import Derived.LoopNIn
import Derived.LoopIn
namespace Go.Proofs.YtnfdppkbbfdmnaaGreatDoor.PD
open Go.RowKit Go.Proofs.YtnfdppkbbfdmnaaGreatDoorW.PrintWords Go.Proofs.YtnfdppkbbfdmnaaGreatDoorW.PrintLast Go.Proofs.YtnfdppkbbfdmnaaGreatDoorW.PrintMore
set_option linter.unusedVariables false
set_option linter.unusedSimpArgs false
/-! ### the iterator of Each -/
theorem C_keep {W W' : World} {g n : Nat} {l : List S57} (h : Kd.C k57 W (some ⟨g, 0, none⟩) n l) (e : W'.heap[g]? = W.heap[g]?) : Kd.C k57 W' (some ⟨g, 0, none⟩) n l := by
  refine ⟨h.1, h.2.1, fun hn => ?_⟩
  obtain ⟨ad, ea, hc⟩ := h.2.2 hn
  injection ea with ea
  subst ea
  refine ⟨_, rfl, fun j p hj => ?_⟩
  obtain ⟨c, h1, h2, h3⟩ := hc j p hj
  refine ⟨c, h1, ?_, fun i u hu => ?_⟩
  · obtain rfl := k57_open h2
    exact k57_mk _ _
  · rw [← h3 i u hu, add_zero_off]
    exact World.cell?_of_block (a := ⟨g, _, none⟩) e
def span (s : S57) : List Int := (List.range (s.f1 - s.f0 + 1).toNat).map (fun (i : Nat) => s.f0 + (i : Int))
def spanAll (l : List S57) : List Int := l.flatMap span
theorem spanAll_snoc (l : List S57) (s : S57) : spanAll (l ++ [s]) = spanAll l ++ span s := by simp [spanAll]
def spanTo (s : S57) (j : Nat) : List Int := (List.range j).map (fun (i : Nat) => s.f0 + (i : Int))
theorem spanTo_succ (s : S57) (j : Nat) : spanTo s (j + 1) = spanTo s j ++ [s.f0 + j] := by simp [spanTo, List.range_succ]
theorem mem_span (s : S57) (x : Int) : x ∈ span s ↔ s.f0 ≤ x ∧ x ≤ s.f1 := by
  unfold span
  simp only [List.mem_map, List.mem_range]
  constructor
  · rintro ⟨i, hi, rfl⟩; omega
  · intro h; exact ⟨(x - s.f0).toNat, by omega, by omega⟩
theorem mem_spanAll (l : List S57) (x : Int) : x ∈ spanAll l ↔ ∃ s ∈ l, s.f0 ≤ x ∧ x ≤ s.f1 := by
  unfold spanAll
  simp only [List.mem_flatMap, mem_span]
def keepsCells (gp : Nat) (W W' : World) : Prop := W.heap.size ≤ W'.heap.size ∧ ∀ b o, b ≠ gp → W.heap[b]? = some o → o.isCells = true → W'.heap[b]? = some o
abbrev Elt (l : List S57) := { x : Int // x ∈ spanAll l }
theorem spanAll_take (l : List S57) (k : Nat) (hk : k < l.length) : spanAll (l.take (k + 1)) = spanAll (l.take k) ++ span l[k] := by
  rw [List.take_succ_eq_append_getElem hk, spanAll_snoc]
theorem spanAll_len (l : List S57) (k : Nat) (hk : k < l.length) (j : Nat) (hj : j < (l[k].f1 - l[k].f0 + 1).toNat) : (spanAll (l.take k) ++ spanTo l[k] j).length < (spanAll l).length := by
  have e : spanAll l = spanAll (l.take (k + 1)) ++ spanAll (l.drop (k + 1)) := by
    unfold spanAll
    rw [← List.flatMap_append, List.take_append_drop]
  rw [e, spanAll_take l k hk]
  simp only [List.length_append, span, spanTo, List.length_map, List.length_range]
  omega
theorem span_pre {l : List S57} {k j : Nat} {s : S57} (h : spanAll (l.take (k + 1)) = spanAll (l.take k) ++ span s) (hj : j < (s.f1 - s.f0 + 1).toNat) : spanAll (l.take k) ++ spanTo s j ++ [s.f0 + j] <+: spanAll l := by
  have e : spanAll l = spanAll (l.take (k + 1)) ++ spanAll (l.drop (k + 1)) := by
    unfold spanAll
    rw [← List.flatMap_append, List.take_append_drop]
  obtain ⟨d, hd⟩ : ∃ d, (s.f1 - s.f0 + 1).toNat = (j + 1) + d := ⟨(s.f1 - s.f0 + 1).toNat - (j + 1), by omega⟩
  have hs : ∃ r, span s = spanTo s (j + 1) ++ r := by
    unfold span spanTo
    rw [hd, List.range_add, List.map_append]
    exact ⟨_, rfl⟩
  obtain ⟨r, hr⟩ := hs
  rw [e, h, hr, spanTo_succ]
  exact ⟨r ++ spanAll (l.drop (k + 1)), by simp⟩
attribute [local go_sem] Oper.semAt_some
open Go.Shelf in
set_option maxRecDepth 100000 in
set_option maxHeartbeats 4000000 in
theorem dom_each_stops (n : Nat) (hn : 1 ≤ n) (B g gp : Nat) (cap : Nat) (l : List S57) (w : World) (hc : Boxed w B 23 (.slice (some ⟨g, 0, none⟩) l.length cap)) (hC : Kd.C k57 w (some ⟨g, 0, none⟩) l.length l) (hg : g < w.heap.size ∧ ∃ o, w.heap[g]? = some o ∧ o.isCells = true) (hgp : gp < w.heap.size ∧ B ≠ gp ∧ g ≠ gp) (hR : rightS l = true) :
    SeqStopsK Fence.wide n Tryz.prog 73 #[.pointer (some ⟨B, 0, none⟩)] (fun x : Elt l => #[.int .i64 x.1]) (keepsCells gp)
      (fun xs => xs.map (·.1) = spanAll l) (fun pre => pre.map (·.1) <+: spanAll l) (spanAll l).length w := fun lo J Jx W hW hJ hJx hY h0 => by
  refine callsIn_of_wp Tryz.func73 rfl trivial ?_ rfl
  simp only [Tryz.ntmps73, List.size_toArray, List.length_cons, List.length_nil, Nat.reduceAdd, Nat.reduceSub, Array.replicate_succ, Array.replicate_zero, List.push_toArray, List.append_toArray, List.nil_append, List.cons_append]
  have hl1 := right_le hR
  have hl3 := right_mem hR
  have hbW := boxed_below hc hW
  have hCW := Kd.C_below hC hW
  obtain ⟨hg1, og, hg2, hg3⟩ := hg
  have hgW : W.heap[g]? = some og := (hW.block g hg1).trans hg2
  have hcW := hbW.cell
  have HC := Lib.hid hCW; have HB := Lib.hid hbW; have HJ := Lib.hid hJ; have HY := Lib.hid hY; have HL3 := Lib.hid hl3
  have HGP := Lib.hid (show gp < W.heap.size ∧ B ≠ gp ∧ g ≠ gp from ⟨Nat.lt_of_lt_of_le hgp.1 hW.size, hgp.2⟩)
  have HGW := Lib.hid hgW; have HG3 := Lib.hid hg3
  clear hc hC hR hW hbW hCW hJ hJx hY hl3 hgp hgW hg2 hg3
  generalize hm : l.length = m at *
  have HM := Lib.hid hm; clear hm
  gi_wp2
  gi_loopw [8] (fun i wr => ∃ (k : Nat) (pre : List (Elt l)), i = .int .i64 k ∧ k ≤ m ∧ Hid (pre.map (·.1) = spanAll (l.take k)) ∧ J pre wr ∧ Hid (W.heap.size ≤ wr.heap.size) ∧ Hid (wr.heap[g]? = some og) ∧ Hid (Kd.C k57 wr (some ⟨g, 0, none⟩) m l))
    (fun i _ => (m - (intOf i).toNat))
  case atStart => exact ⟨0, [], rfl, by omega, Lib.hid rfl, h0, Lib.hid (Nat.le_refl _), HGW, HC⟩
  case round =>
    obtain ⟨k, pre, rfl, hk, hpre, hJp, hsz, hgk, hCk⟩ := hrel
    by_cases hkm : k < m
    · have hkl : k < l.length := by rw [HM.out]; exact hkm
      obtain ⟨ad, e1, a0, a1⟩ := at_T57 hCk.out (k : Int) (by omega) (by omega)
      injection e1 with e1
      subst e1
      rw [rd57 l k hkl, Int.toNat_natCast, add_zero_off] at a0 a1
      have hsb := HL3.out _ (List.getElem_mem hkl)
      have hstep := spanAll_take l k hkl
      have hslen := spanAll_len l k hkl
      have hmem : ∀ x, l[k].f0 ≤ x → x ≤ l[k].f1 → x ∈ spanAll l := fun x h1 h2 => (mem_spanAll l x).2 ⟨_, List.getElem_mem hkl, h1, h2⟩
      have HST := Lib.hid hstep; have HSL := Lib.hid hslen; have HMM := Lib.hid hmem
      clear hstep hslen hmem
      generalize l[k] = s at *
      have hnew := World.alloc_heap_new wr (.cells #[.int .i64 s.f0, .int .i64 s.f1] 57)
      have HNEW := Lib.hid hnew; clear hnew
      gi_wp2
      generalize hrb : wr.heap.size = rb at HNEW ⊢
      have HRB := Lib.hid hrb; clear hrb
      have hgrb : gp ≠ rb := by have := hsz.out; have := HRB.out; have := HGP.out; omega
      gi_loopw [5] (fun i w2 => ∃ (j : Nat) (pre : List (Elt l)), i = .int .i64 (s.f0 + j) ∧ s.f0 + j ≤ s.f1 + 1 ∧ Hid (pre.map (·.1) = spanAll (l.take k) ++ spanTo s j) ∧ J pre w2 ∧ Hid (W.heap.size ≤ w2.heap.size) ∧ Hid (w2.heap[g]? = some og) ∧ Hid (Kd.C k57 w2 (some ⟨g, 0, none⟩) m l) ∧ Hid (w2.heap[rb]? = some (.cells #[.int .i64 s.f0, .int .i64 s.f1] 57 (0, 0))) ∧ w2.cell? ⟨rb, 1, none⟩ = some (.int .i64 s.f1))
        (fun i _ => (s.f1 + 1 - intOf i).toNat)
      case atStart =>
        exact ⟨0, pre, by simp, by omega, Lib.hid (by rw [hpre.out]; simp [spanTo]), HJ.out _ _ _ none hJp (World.grownBy_alloc _ _ none) (fun r h => by cases h), Lib.hid (by have := hsz.out; simp; omega), Lib.hid ((Below.heap_alloc _ _ g (blk_lt hgk.out)).trans hgk.out), Lib.hid (Kd.C_below hCk.out ((Below.refl _ _).alloc (Nat.le_refl _) _)), HNEW, (blk_cell HNEW.out 1).trans rfl⟩
      case round =>
        obtain ⟨j, pre2, rfl, hj, hpre2, hJ2, hsz2, hgk2, hC2, hr2, hcell2⟩ := hrel
        by_cases hle : s.f0 + j ≤ s.f1
        · have hplen : pre2.length < (spanAll l).length := by
            have h1 := HSL.out j (by omega)
            rw [← hpre2.out, List.length_map] at h1
            exact h1
          obtain ⟨fn, tmps, assign, body, hy, hR2⟩ := HY.out pre2 ⟨s.f0 + j, HMM.out _ (by omega) hle⟩ wr hJ2 hplen
          dsimp only at hy
          gi_wp2
          refine hR2.mono ?_
          rintro e W' (⟨rfl, hJ', hk'⟩ | ⟨rfl, hJx'⟩)
          · have hgp := HGP.out
            have hr' := hk'.2 rb _ (fun e => hgrb e.symm) hr2.out rfl
            have hgg := hk'.2 g og hgp.2.2 hgk2.out HG3.out
            have hC' : Kd.C k57 W' (some ⟨g, 0, none⟩) m l := C_keep hC2.out (hgg.trans hgk2.out.symm)
            have hc' : W'.cell? ⟨rb, 1, none⟩ = some (.int .i64 s.f1) := (blk_cell hr' 1).trans rfl
            have hsz' : W.heap.size ≤ W'.heap.size := Nat.le_trans hsz2.out hk'.1
            have HR' := Lib.hid hr'; have HGG := Lib.hid hgg; have HC' := Lib.hid hC'; have HSZ' := Lib.hid hsz'; have HJ' := Lib.hid hJ'
            clear hk' hr' hgg hC' hsz' hJ'
            gi_wp2
            go_roundw
            case rel => exact ⟨j + 1, _, by go_num, by omega, Lib.hid (by rw [List.map_append, hpre2.out, spanTo_succ, List.append_assoc]; rfl), HJ'.out, HSZ', HGG, HC', HR', hc'⟩
            case measure => simp [intOf]; omega
          · gi_wp2
            refine bodyPost_ret (results_none rfl _ _ _) rfl ?_
            exact ⟨⟨_, rfl⟩, .inr ⟨_, by rw [List.map_append, hpre2.out]; exact span_pre HST.out (by omega), hJx'⟩⟩
        · have hjj : j = (s.f1 - s.f0 + 1).toNat := by omega
          gi_wp2
          go_roundw
          case rel => exact ⟨k + 1, pre2, by go_num, by omega, Lib.hid (by rw [hpre2.out, HST.out, hjj]; rfl), hJ2, hsz2, hgk2, hC2⟩
          case measure => simp [intOf]; omega
    · obtain rfl : k = m := by omega
      gi_wp2
      go_end0
      exact ⟨⟨_, rfl⟩, .inl ⟨_, by rw [hpre.out, List.take_of_length_le (by rw [HM.out]; exact Nat.le_refl _)], hJp⟩⟩

end Go.Proofs.YtnfdppkbbfdmnaaGreatDoor.PD

namespace Go.Proofs.YtnfdppkbbfdmnaaGreatDoor.PD
open Go.RowKit Go.Proofs.YtnfdppkbbfdmnaaGreatDoorW.PrintWords Go.Proofs.YtnfdppkbbfdmnaaGreatDoorW.PrintLast Go.Proofs.YtnfdppkbbfdmnaaGreatDoorW.PrintMore
set_option linter.unusedVariables false
set_option linter.unusedSimpArgs false
/-! ### the fixed calls -/
theorem kn1 : normS (points [5, 1, 2, 2]) = ([⟨1, 2⟩, ⟨5, 5⟩], 0) := by rfl
theorem kn2 : spanS 1 9 = ([⟨1, 9⟩], 0) := by rfl
theorem kn3 : takenL [⟨1, 9⟩] = ([⟨1, 9⟩] : List S57) := by rfl
theorem kn4 : restL (-1000000) (takenL [⟨3, 5⟩]) = ([⟨-1000000, 2⟩, ⟨6, 1000000⟩] : List S57) := by rfl
theorem kn6 : nextL (takenL [⟨1, 2⟩, ⟨7, 9⟩]) 3 = (7, true) := by rfl
theorem kn5 : bothL (takenL [⟨1, 9⟩]) [⟨-1000000, 2⟩, ⟨6, 1000000⟩] = ([⟨1, 2⟩, ⟨6, 9⟩] : List S57) := by
  simp [kn3, bothL, some1]
  rfl
theorem decB_small (n : Nat) (h : n < 10) : decB (n : Nat) = ⟨#[UInt8.ofNat (48 + n)]⟩ := by
  unfold decB Lib.itoa
  rw [if_neg (by omega)]
  have : Lib.decDigits ((n : Nat) : Int).toNat = [UInt8.ofNat (48 + n)] := by
    rw [Int.toNat_natCast]
    unfold Lib.decDigits
    rw [dif_pos h]
  rw [this]
theorem kn7 : textT [⟨1, 2⟩, ⟨5, 5⟩] = ⟨#[49, 46, 46, 50, 44, 53]⟩ := by
  have e1 := decB_small 1 (by omega)
  have e2 := decB_small 2 (by omega)
  have e5 := decB_small 5 (by omega)
  show rngT ⟨1, 2⟩ ++ (⟨#[44]⟩ ++ rngT ⟨5, 5⟩ ++ ⟨#[]⟩) = _
  unfold rngT
  rw [if_pos (by decide), if_neg (by decide)]
  show decB ((1 : Nat) : Int) ++ (⟨#[46, 46]⟩ ++ decB ((2 : Nat) : Int)) ++ (⟨#[44]⟩ ++ decB ((5 : Nat) : Int) ++ ⟨#[]⟩) = _
  rw [e1, e2, e5]
  rfl
theorem kn8 : textT [⟨1, 2⟩, ⟨6, 9⟩] = ⟨#[49, 46, 46, 50, 44, 54, 46, 46, 57]⟩ := by
  have e1 := decB_small 1 (by omega)
  have e2 := decB_small 2 (by omega)
  have e6 := decB_small 6 (by omega)
  have e9 := decB_small 9 (by omega)
  show rngT ⟨1, 2⟩ ++ (⟨#[44]⟩ ++ rngT ⟨6, 9⟩ ++ ⟨#[]⟩) = _
  unfold rngT
  rw [if_pos (by decide), if_pos (by decide)]
  show decB ((1 : Nat) : Int) ++ (⟨#[46, 46]⟩ ++ decB ((2 : Nat) : Int)) ++ (⟨#[44]⟩ ++ (decB ((6 : Nat) : Int) ++ (⟨#[46, 46]⟩ ++ decB ((9 : Nat) : Int))) ++ ⟨#[]⟩) = _
  rw [e1, e2, e6, e9]
  rfl

end Go.Proofs.YtnfdppkbbfdmnaaGreatDoor.PD
