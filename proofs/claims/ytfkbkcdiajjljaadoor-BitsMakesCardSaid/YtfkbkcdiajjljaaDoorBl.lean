/- Parts of the laws of bits: functions of the program, each with the proof of what it answers; the conditions are those of each theorem. -/
import Derived.Test.YtfkbkcdiajjljaaDoorBk
import Derived.Deep.MidRow
namespace Go.Proofs.YtfkbkcdiajjljaaDoor.PBitsSteps
open Go.RowKit Go.Proofs.YtfkbkcdiajjljaaDoorW.PrintWords Go.Proofs.YtfkbkcdiajjljaaDoorW.PrintLast Go.Proofs.YtfkbkcdiajjljaaDoorW.PrintMore
set_option linter.unusedVariables false
set_option linter.unusedSimpArgs false
/-! ### Words -/
def wordsTo (ws : Nat → Nat) (k : Nat) : List Value := (List.range k).map (fun j => Value.int .u64 (ws j : Nat))
def pageOf (ws : Nat → Nat) (k : Nat) : List Value := (List.range 16).map (fun j => Value.int .u64 (ws (k * 16 + j) : Nat))
theorem wordsTo_len (ws : Nat → Nat) (k : Nat) : (wordsTo ws k).length = k := by simp [wordsTo]
theorem pageOf_len (ws : Nat → Nat) (k : Nat) : (pageOf ws k).length = 16 := by simp [pageOf]
theorem wordsTo_page (ws : Nat → Nat) (k : Nat) : wordsTo ws (k * 16) ++ pageOf ws k = wordsTo ws ((k + 1) * 16) := by
  apply List.ext_getElem
  · simp [wordsTo, pageOf]; omega
  · intro i h1 h2
    rw [List.getElem_append]
    split
    · simp [wordsTo]
    · rename_i h
      rw [wordsTo_len] at h
      simp only [pageOf, wordsTo, List.getElem_map, List.getElem_range, List.length_map, List.length_range]
      congr 3
      omega
theorem page_range {w : World} {gp n : Nat} {ws : Nat → Nat} {cs : Array Value} (h : w.heap[gp]? = some (.cells cs 86 (0, 0))) (hc : ∀ i, i < 16 * n → cs[i]? = some (.int .u64 (ws i : Nat))) (k : Nat) (hk : k < n) : w.rangeAt gp (k * 16) (pageOf ws k) := by
  intro j v hj
  rw [blk_cell h]
  have hjl : j < 16 := by have := (List.getElem?_eq_some_iff.1 hj).1; rw [pageOf_len] at this; exact this
  rw [hc _ (by omega), ← hj]
  simp [pageOf, List.getElem?_map, List.getElem?_range, hjl]
theorem Tryd.info72 : (Tryd.prog.info? 72).map (fun i => (i.zero, i.size, i.bytes)) = some (some (.int .u64 0), 1, 8) := by kernel_rfl
theorem there_new (w : World) (cs : Array Value) (t : TypeId) (m : Nat) (h : m ≤ cs.size) : (w.alloc (.cells cs t)).there w.heap.size 0 m := by
  intro j hj
  have hn := World.alloc_heap_new w (.cells cs t)
  refine ⟨?_, blk_frozen hn _⟩
  rw [blk_cell hn, Array.getElem?_eq_getElem (by omega)]
  rfl
theorem below_setCells {B : Nat} {w : World} (b : Nat) (hb : B ≤ b) : ∀ (vs : List Value) (o : Nat) (W : World), Below B w W → Below B w (W.setCells b o vs)
  | [], _, _, h => h
  | v :: vs, o, W, h => below_setCells b hb vs (o + 1) _ (h.setCell (p := ⟨b, o, none⟩) hb v)
theorem pageOf_one (ws : Nat → Nat) (k : Nat) : ∀ v ∈ pageOf ws k, v.oneCell' = true := by
  intro v hv
  simp only [pageOf, List.mem_map] at hv
  obtain ⟨j, _, rfl⟩ := hv
  rfl
/-- a page copied into a new block: what it reads, and that the elder blocks lie as they lay -/
theorem page_copied (wr : World) (cs : Array Value) (t : TypeId) (vs : List Value) (h : vs.length ≤ cs.size) (W : World) (e : (wr.alloc (.cells cs t)).setCells wr.heap.size 0 vs = W) :
    W.rangeAt wr.heap.size 0 vs ∧ Below wr.heap.size wr W := by
  subst e
  exact ⟨World.rangeAt_setCells_same _ _ _ _ (there_new wr cs t _ h), below_setCells _ (Nat.le_refl _) vs 0 _ ((Below.refl _ _).alloc (Nat.le_refl _) _)⟩
set_option maxRecDepth 100000 in
set_option maxHeartbeats 8000000 in
theorem words_raw (w : World) (g gp n c : Nat) (f r : Int) (ws : Nat → Nat) (cs : Array Value) (h0 : w.heap[g]? = some (setB f r (some ⟨gp, 0, none⟩) n c)) (h : w.heap[gp]? = some (.cells cs 86 (0, 0))) (hcs : ∀ i, i < 16 * n → cs[i]? = some (.int .u64 (ws i : Nat))) (hr : (n : Int) = (r + 1023) / 1024 ∧ 0 < r ∧ r ≤ 65536) :
    Calls Tryd.prog 37 #[setP g] w fun e w' => ∃ g2 cs2, e = .returned (.slice (some ⟨g2, 0, none⟩) ((r + 63) / 64).toNat ((r + 63) / 64).toNat) ∧ w.heap.size ≤ g2 ∧ w'.heap[g2]? = some (.cells cs2 72 (0, 0)) ∧ (∀ i : Nat, (i : Int) < (r + 63) / 64 → cs2[i]? = some (.int .u64 (ws i : Nat))) ∧ Below w.heap.size w w' := by
  obtain ⟨i0, hi, hz0, hz1, hz2⟩ := info_parts Tryd.info72
  obtain ⟨i1, z1, hi1, hzz, hs1, hby1, hzc⟩ := pagesInfo
  have hu86 := Tryd.underlying86
  have c0 := setB_pages h0; have c1 := setB_room h0
  have H0 := Lib.hid h0; have H := Lib.hid h; have HC := Lib.hid hcs
  have HLT := Lib.hid (show g < w.heap.size ∧ gp < w.heap.size from ⟨blk_lt h0, blk_lt h⟩)
  clear h0 h hcs
  have U : setP g = .pointer (some ⟨g, 0, none⟩) := rfl
  rw [U]
  go_enter Tryd.func37, Tryd.ntmps37
  go_wp2_with fail
  go_loopw [3, 14] (fun o i wr => ∃ k : Nat, i = .int .i64 k ∧ k ≤ n ∧ wr.ownsRow w.heap.size 72 1 o (k * 16) (wordsTo ws (k * 16)) ∧ Hid (wr.heap[g]? = some (setB f r (some ⟨gp, 0, none⟩) n c)) ∧ Hid (wr.heap[gp]? = some (.cells cs 86 (0, 0))) ∧ Hid (Below w.heap.size w wr))
    (fun _ i _ => n - (intOf i).toNat)
  case atStart => exact ⟨0, rfl, by omega, by simpa [wordsTo] using World.ownsRow_nil _ _ _ _, H0, H, Lib.hid (Below.refl _ _)⟩
  case round =>
    obtain ⟨k, rfl, hk, hrow, hh0, hh, hB⟩ := hrel
    obtain ⟨A, cap, rfl⟩ := row_form hrow
    by_cases hkn : k < n
    · have hrg := page_range hh.out HC.out k hkn
      have HROW := Lib.hid hrow
      clear hrow
      go_wp2_with (first
        | (with_reducible refine gate_dst (N := 17) rfl ?_); refine wpList_load_mid rfl 86 _ rfl gp (k * 16) rfl (pageOf ws k) _ hrg hu86 rfl (by rw [hi1, pageOf_len]; simp [hs1]) ?_
        | (with_reducible refine gate_store (t := 86) (p := 5) rfl ?_); refine wpList_store_mid rfl 86 _ _ rfl wr.heap.size 0 (pageOf ws k).toArray rfl rfl (there_new _ _ _ _ (by simp [pageOf_len])) (by rw [hi1]; simp [hs1, pageOf_len]) (all_oneCell_toArray (pageOf_one ws k)) ?_; generalize hW : World.setCells (World.alloc wr _) wr.heap.size 0 _ = W; obtain ⟨p1, p2⟩ := page_copied wr _ _ (pageOf ws k) (by simp [pageOf_len]) W hW; (have hrowW : W.ownsRow w.heap.size 72 1 (.slice A (k * 16) cap) (k * 16) (wordsTo ws (k * 16)) := own_move HROW.out (fun j hj => p2.block j (own_lt HROW.out j hj))); (have hnews : ∀ j u, (pageOf ws k)[j]? = some u → W.cell? ((Addr.mk wr.heap.size 0 none).add j) = some u := fun j u hj => (by have := p1 j u hj; rw [Nat.zero_add] at this; rw [add_zero_off]; exact this)); have hszW := p2.size; clear hW hrg p1
        | (with_reducible refine gate_dst (N := 20) rfl ?_); refine wpList_append_own _ rfl _ _ 65 rfl w.heap.size 72 i0 _ 1 8 Tryd.underlying65 hi hz0 hz1 hz2 rfl (by decide) _ _ _ rfl hrowW ⟨wr.heap.size, 0, none⟩ 16 16 (pageOf ws k) rfl (by simp [pageOf_len]) hnews (pageOf_one ws k) (by simp only [maxLen]; omega) (by omega) (by have := hB.out.size; omega) ?_; intro v' w' hown' hg hnil; obtain ⟨A', cap', rfl⟩ := row_form hown')
      go_roundw
      case rel =>
        have hBW : Below w.heap.size w w' := (below_step hB.out p2).grown hg (by have := hB.out.size; omega) (fun j e => own_base hrowW j e)
        rw [wordsTo_page] at hown'
        have e : k * 16 + 16 = (k + 1) * 16 := by omega
        rw [← e] at hown'
        have hne : ∀ b, b < w.heap.size → some b ≠ (Value.slice A (k * 16) cap).ownBlock := fun b hb e => by have := own_base hrowW b e.symm; omega
        exact ⟨k + 1, by go_num, by omega, by rw [← e]; exact hown', Lib.hid ((hBW.block g HLT.out.1).trans H0.out), Lib.hid ((hBW.block gp HLT.out.2).trans H.out), Lib.hid hBW⟩
      case measure => simp [intOf]; omega
    · obtain rfl : k = n := by omega
      have e1 : ((k : Nat) : Int) = (r + 1023) / 1024 := hr.1
      have hn : (((r + 63) / 64).toNat : Int) = (r + 63) / 64 := by omega
      have hle : ((r + 63) / 64).toNat ≤ k * 16 := by omega
      obtain ⟨g2, cap2, hA⟩ : ∃ g2 cap2, Value.slice A (k * 16) cap = .slice (some ⟨g2, 0, none⟩) (k * 16) cap2 := by
        rcases hrow.2 with ⟨_, h0⟩ | ⟨g2, cap2, _, e, _⟩
        · omega
        · exact ⟨g2, cap2, e⟩
      rw [hA] at hrow ⊢
      have hcap := own_cap hrow
      have c5 := setB_room hh0.out
      have HROW := Lib.hid hrow
      clear hrow hA
      go_wp2_with fail
      go_ret
      obtain ⟨g3, cap3, cur, e5, b1, b2, b3, b4, b5, b6⟩ : ∃ g cap cur, Value.slice (some ⟨g2, 0, none⟩) (k * 16) cap2 = .slice (some ⟨g, 0, none⟩) (k * 16) cap ∧ w.heap.size ≤ g ∧ wr.heap[g]? = some (.cells cur 72 (0, 0)) ∧ k * 16 ≤ cap ∧ cap ≤ maxLen ∧ cur.size = cap * 1 ∧ cur.toList.take (k * 16 * 1) = wordsTo ws (k * 16) := by
        rcases HROW.out.2 with ⟨_, h0⟩ | h
        · omega
        · exact h
      injection e5 with e5
      injection e5 with e5
      injection e5 with e5
      subst e5
      refine ⟨g2, cur, by rw [show r + 63 = r + 64 - 1 by omega]; rfl, b1, b2, fun i hi => ?_, hB.out⟩
      have hik : i < k * 16 := by omega
      have e7 : (cur.toList.take (k * 16 * 1))[i]? = (wordsTo ws (k * 16))[i]? := by rw [b6]
      rw [List.getElem?_take, if_pos (by omega)] at e7
      rw [← Array.getElem?_toList, e7]
      simp [wordsTo, hik]
/-- one word of what the values are -/
def wordN (M : Int → Bool) (b : Int) : Nat → Nat
  | 0 => 0
  | k + 1 => wordN M b k + if M (b + k) then 2 ^ k else 0
theorem wordN_lt (M : Int → Bool) (b : Int) : ∀ k, wordN M b k < 2 ^ k
  | 0 => by simp [wordN]
  | k + 1 => by
    have := wordN_lt M b k
    rw [wordN, Nat.pow_succ]
    split <;> omega
theorem wordN_bit (M : Int → Bool) (b : Int) : ∀ k j, j < k → (wordN M b k).testBit j = M (b + j)
  | 0, _, h => by omega
  | k + 1, j, h => by
    have hl := wordN_lt M b k
    rw [wordN]
    by_cases e : j = k
    · subst e
      cases hm : M (b + j)
      · simp only [Bool.false_eq_true, if_false, Nat.add_zero]
        exact Nat.testBit_lt_two_pow hl
      · simp only [if_true]
        rw [Nat.add_comm, Nat.testBit_two_pow_add_eq, Nat.testBit_lt_two_pow hl]
        rfl
    · have ih := wordN_bit M b k j (by omega)
      split
      · rw [Nat.add_comm, Nat.testBit_two_pow_add_gt (by omega)]
        exact ih
      · exact ih
theorem wordN_eq (M : Int → Bool) (b : Int) (x : Nat) (hx : x < 2 ^ 64) (h : ∀ j, j < 64 → x.testBit j = M (b + j)) : x = wordN M b 64 := by
  apply Nat.eq_of_testBit_eq
  intro j
  by_cases hj : j < 64
  · rw [h j hj, wordN_bit M b 64 j hj]
  · rw [Nat.testBit_lt_two_pow (Nat.lt_of_lt_of_le hx (Nat.pow_le_pow_right (by decide) (by omega))), Nat.testBit_lt_two_pow (Nat.lt_of_lt_of_le (wordN_lt M b 64) (Nat.pow_le_pow_right (by decide) (by omega)))]
/-- the bits as words: one behind the other -/
theorem SetAt.words {w : World} {g gp : Nat} {f r : Int} {M : Int → Bool} (h : SetAt w g gp f r M) :
    Calls Tryd.prog 37 #[setP g] w fun e w' => ∃ g2 cs2, e = .returned (.slice (some ⟨g2, 0, none⟩) ((r + 63) / 64).toNat ((r + 63) / 64).toNat) ∧ w.heap.size ≤ g2 ∧ w'.heap[g2]? = some (.cells cs2 72 (0, 0)) ∧ (∀ i : Nat, (i : Int) < (r + 63) / 64 → cs2[i]? = some (.int .u64 (wordN M (f + 64 * i) 64 : Nat))) ∧ Below w.heap.size w w' := by
  obtain ⟨n, c, ws, cs, h1, h2, h3, h4, h5, h6⟩ := h
  have hr := h6.room
  refine (words_raw w g gp n c f r ws cs h1 h2 h4 ⟨hr.1, hr.2.1, hr.2.2.1⟩).mono ?_
  rintro e w' ⟨g2, cs2, rfl, k1, k2, k3, k4⟩
  refine ⟨g2, cs2, rfl, k1, k2, fun i hi => ?_, k4⟩
  rw [k3 i hi, ← wordN_eq M (f + 64 * i) (ws i) (h6.wf i (by omega)) (fun j hj => ?_)]
  have := h6.bit (64 * i + j) (by omega)
  rw [show (64 * i + j) / 64 = i by omega, show (64 * i + j) % 64 = j by omega] at this
  rw [this]
  congr 1
  omega

end Go.Proofs.YtfkbkcdiajjljaaDoor.PBitsSteps
