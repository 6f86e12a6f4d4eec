/- Parts of the laws of bits: functions of the program, each with the proof of what it answers; the conditions are those of each theorem. -/
import Derived.Test.YtfkbkcdiajjljaaDoorBt
namespace Go.Proofs.YtfkbkcdiajjljaaDoor.PBitsSteps
open Go.RowKit Go.Proofs.YtfkbkcdiajjljaaDoorW.PrintWords Go.Proofs.YtfkbkcdiajjljaaDoorW.PrintLast Go.Proofs.YtfkbkcdiajjljaaDoorW.PrintMore
set_option linter.unusedVariables false
set_option linter.unusedSimpArgs false
/-! ### Size -/
theorem valsTo_add (M : Int → Bool) (f : Int) (k : Nat) : ∀ d : Nat, valsTo M f (k + d) = valsTo M f k ++ valsTo M (f + k) d
  | 0 => by simp [valsTo]
  | d + 1 => by
    rw [show k + (d + 1) = (k + d) + 1 by omega, valsTo_succ, valsTo_succ, valsTo_add M f k d, List.append_assoc]
    rw [show f + ((k + d : Nat) : Int) = f + (k : Int) + (d : Int) by omega]
theorem pop_vals (M : Int → Bool) : ∀ (k x : Nat) (b : Int), (∀ j, j < k → x.testBit j = M (b + j)) → popN k x = (valsTo M b k).length
  | 0, _, _, _ => rfl
  | k + 1, x, b, h => by
    have e : valsTo M b (1 + k) = valsTo M b 1 ++ valsTo M (b + (1 : Nat)) k := valsTo_add M b 1 k
    rw [show k + 1 = 1 + k by omega, e, show 1 + k = k + 1 by omega, popN, List.length_append]
    have ih := pop_vals M k (x / 2) (b + (1 : Nat)) (fun j hj => by
      have := h (j + 1) (by omega)
      rw [Nat.testBit_succ] at this
      rw [this]
      congr 1
      omega)
    rw [ih]
    congr 1
    have h0 := h 0 (by omega)
    rw [Nat.testBit_zero, show b + ((0 : Nat) : Int) = b by omega] at h0
    have e1 : valsTo M b 1 = if M b then [b] else [] := by
      have := valsTo_succ M b 0
      rw [show b + ((0 : Nat) : Int) = b by omega] at this
      rw [this]
      simp [valsTo]
    rw [e1, ← h0]
    by_cases hx : x % 2 = 1
    · simp [hx]
    · simp [hx]; omega
theorem BitsOf.size_step {f r : Int} {n : Nat} {ws : Nat → Nat} {M : Int → Bool} (h : BitsOf f r n ws M) (i : Nat) (hi : i < 16 * n) : (valsTo M f (64 * (i + 1))).length = (valsTo M f (64 * i)).length + popN 64 (ws i) := by
  rw [show 64 * (i + 1) = 64 * i + 64 by omega, valsTo_add, List.length_append, pop_vals M 64 (ws i) (f + (64 * i : Nat)) (fun j hj => by
    have := h.bit (64 * i + j) (by omega)
    rw [show (64 * i + j) / 64 = i by omega, show (64 * i + j) % 64 = j by omega] at this
    rw [this]
    congr 1
    omega)]
theorem BitsOf.size_all {f r : Int} {n : Nat} {ws : Nat → Nat} {M : Int → Bool} (h : BitsOf f r n ws M) : (valsTo M f (64 * (16 * n))).length = (vals M f r).length := by
  have hr := h.room
  unfold vals
  obtain ⟨d, hd⟩ : ∃ d : Nat, 64 * (16 * n) = r.toNat + d := ⟨64 * (16 * n) - r.toNat, by omega⟩
  rw [hd, valsTo_skip M f r.toNat d (fun x h1 _ => by
    cases hm : M x with
    | false => rfl
    | true => have := h.inn x hm; omega)]
theorem run_index_page (cs : Array Value) (j : Nat) (v : Value) (w : World) (hj : j < 16) (hv : cs[j]? = some v) : (Instr.index 86 (.agg cs) (.int .i64 (j : Int))).run Tryd.prog w = .ok v w := by
  have h := Tryd.underlying86
  have h2 : ((0 : Int) ≤ (j : Int) ∧ (j : Int) < ((16 : Nat) : Int)) := by omega
  simp [Instr.index, run_underlying h, asIntOf, h2, hj, go_sem]
  rw [hv]
  rfl
set_option maxRecDepth 100000 in
set_option maxHeartbeats 8000000 in
theorem SetAt.size {w : World} {g gp : Nat} {f r : Int} {M : Int → Bool} (h : SetAt w g gp f r M) :
    Calls Tryd.prog 35 #[setP g] w fun e w' => e = .returned (.int .i64 ((vals M f r).length : Nat)) ∧ Below w.heap.size w w' := by
  obtain ⟨n, c, ws, cs, h0, h, h3, hcs, h5, h6⟩ := h
  have hr0 := h6.room
  have hr : (n : Int) = (r + 1023) / 1024 ∧ 0 < r ∧ r ≤ 65536 := ⟨hr0.1, hr0.2.1, hr0.2.2.1⟩
  rw [← h6.size_all]
  have hlen : (valsTo M f (64 * (16 * n))).length ≤ 64 * (16 * n) := valsTo_len _ _ _
  obtain ⟨i1, z1, hi1, hzz, hs1, hby1, hzc⟩ := pagesInfo
  have hu86 := Tryd.underlying86
  have c0 := setB_pages h0
  have H0 := Lib.hid h0; have H := Lib.hid h; have HC := Lib.hid hcs; have H6 := Lib.hid h6
  have HLT := Lib.hid (show g < w.heap.size ∧ gp < w.heap.size from ⟨blk_lt h0, blk_lt h⟩)
  clear h0 h hcs h6 h3 h5 hr0
  have U : setP g = .pointer (some ⟨g, 0, none⟩) := rfl
  rw [U]
  go_enter Tryd.func35, Tryd.ntmps35
  go_wp2_with fail
  go_loopw [3, 15] (fun o i wr => ∃ k : Nat, i = .int .i64 k ∧ k ≤ n ∧ o = .int .i64 ((valsTo M f (64 * (16 * k))).length : Nat) ∧ Hid (wr.heap[gp]? = some (.cells cs 86 (0, 0))) ∧ Hid (Below w.heap.size w wr))
    (fun _ i _ => n - (intOf i).toNat)
  case atStart => exact ⟨0, rfl, by omega, rfl, H, Lib.hid (Below.refl _ _)⟩
  case round =>
    obtain ⟨k, rfl, hk, rfl, hh, hB⟩ := hrel
    by_cases hkn : k < n
    · have hrg := page_range hh.out HC.out k hkn
      go_wp2_with (first
        | (with_reducible refine gate_dst (N := 18) rfl ?_); refine wpList_load_mid rfl 86 _ rfl gp (k * 16) rfl (pageOf ws k) _ hrg hu86 rfl (by rw [hi1, pageOf_len]; simp [hs1]) ?_
        | (with_reducible refine gate_store (t := 86) (p := 5) rfl ?_); refine wpList_store_mid rfl 86 _ _ rfl wr.heap.size 0 (pageOf ws k).toArray rfl rfl (there_new _ _ _ _ (by simp [pageOf_len])) (by rw [hi1]; simp [hs1, pageOf_len]) (all_oneCell_toArray (pageOf_one ws k)) ?_; generalize hW : World.setCells (World.alloc wr _) wr.heap.size 0 _ = W; obtain ⟨p1, p2⟩ := page_copied wr _ _ (pageOf ws k) (by simp [pageOf_len]) W hW; clear hW hrg
        | (with_reducible refine gate_dst (N := 19) rfl ?_); refine wpList_load_mid rfl 86 _ rfl wr.heap.size 0 rfl (pageOf ws k) _ p1 hu86 rfl (by rw [hi1, pageOf_len]; simp [hs1]) ?_)
      have HP2 := Lib.hid (below_step hB.out p2)
      have HP3 := Lib.hid ((p2.block gp (blk_lt hh.out)).trans hh.out)
      clear p1 p2
      go_loopw [3, 20] (fun o i w2 => ∃ j : Nat, i = .int .i64 j ∧ j ≤ 16 ∧ o = .int .i64 ((valsTo M f (64 * (16 * k + j))).length : Nat) ∧ w2 = W)
        (fun _ i _ => 16 - (intOf i).toNat)
      case atStart => exact ⟨0, rfl, by omega, rfl, rfl⟩
      case round =>
        obtain ⟨j, rfl, hj, rfl, rfl⟩ := hrel
        by_cases hj16 : j < 16
        · have hstep := H6.out.size_step (16 * k + j) (by omega)
          have hwf := H6.out.wf (16 * k + j) (by omega)
          have hle := valsTo_len M f (64 * (16 * k + j + 1))
          have hone := fun W => ones64 (ws (16 * k + j)) hwf W
          have HONE := Lib.hid hone
          have HST := Lib.hid hstep
          rw [hstep] at hle
          clear hstep hone
          generalize popN 64 (ws (16 * k + j)) = q at *
          generalize hL : (valsTo M f (64 * (16 * k + j))).length = L at *
          have HL := Lib.hid hL
          clear hL
          have hix : (pageOf ws k).toArray[j]? = some (.int .u64 (ws (16 * k + j) : Nat)) := by
            simp [pageOf, hj16, Nat.mul_comm]
          go_wp2_with fail
          rw [run_index_page _ j _ _ hj16 hix]
          clear hix
          go_wp2_with fail
          refine (HONE.out _).mono ?_
          rintro e w3 ⟨rfl, rfl⟩
          go_wp2_with fail
          go_roundw
          case rel => exact ⟨j + 1, by go_num, by omega, by rw [show 16 * k + (j + 1) = 16 * k + j + 1 by omega, HST.out]; go_num, trivial⟩
          case measure => simp [intOf]; omega
        · obtain rfl : j = 16 := by omega
          go_wp2_with fail
          go_roundw
          case rel => exact ⟨k + 1, by go_num, by omega, by rw [show 16 * (k + 1) = 16 * k + 16 by omega], HP3, HP2⟩
          case measure => simp [intOf]; omega
    · obtain rfl : k = n := by omega
      go_wp2_with fail
      go_ret
      exact ⟨rfl, hB.out⟩

end Go.Proofs.YtfkbkcdiajjljaaDoor.PBitsSteps
