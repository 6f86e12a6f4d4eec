/- Parts of the laws of lex: functions of the program, each with the proof of what it answers; the conditions are those of each theorem. -/
import Derived.Test.YtgpdahgpopmjiaaDoorLo
import Derived.RangeFuncNested
import Derived.RangeFuncBound
import Derived.RangeFuncCalls
import Derived.RangeFuncLeaves
import Derived.Shelf.Abstract
import Derived.Shelf.RegionOpen
import Derived.WalkKit
import Derived.OwnWalkIn
import Derived.TacticsInMore
import Derived.LoopNIn
import Derived.LoopIn
namespace Go.Proofs.YtgpdahgpopmjiaaDoor.PL
open Go.RowKit Go.Proofs.YtgpdahgpopmjiaaDoorW.PrintWords Go.Proofs.YtgpdahgpopmjiaaDoorW.PrintLast Go.Proofs.YtgpdahgpopmjiaaDoorW.PrintMore
set_option linter.unusedVariables false
set_option linter.unusedSimpArgs false
/-! ### Each's iterator -/
theorem own_keep28 {W W' : World} {base n : Nat} {v : Value} {xs : List Value} (h : W.ownsRow base 28 4 v n xs) (hk : ∀ b o, v.ownBlock = some b → W.heap[b]? = some o → o.isCells = true → W'.heap[b]? = some o) : W'.ownsRow base 28 4 v n xs := by
  refine ⟨h.1, ?_⟩
  rcases h.2 with h | ⟨g, cap, cur, rfl, h1, h2, h3⟩
  · exact .inl h
  · exact .inr ⟨g, cap, cur, rfl, h1, hk g _ rfl h2 rfl, h3⟩
/-- what the caller's round may turn: cells of its two boxes alone -/
def keepsTwo (p1 p2 : Nat) (W W' : World) : Prop := W.heap.size ≤ W'.heap.size ∧ ∀ b o, b ≠ p1 → b ≠ p2 → W.heap[b]? = some o → o.isCells = true → W'.heap[b]? = some o
theorem keepsTwo_trans {p1 p2 : Nat} {A B C : World} (h : keepsTwo p1 p2 A B) (k : keepsTwo p1 p2 B C) : keepsTwo p1 p2 A C :=
  ⟨Nat.le_trans h.1 k.1, fun b o h1 h2 h3 h4 => k.2 b o h1 h2 (h.2 b o h1 h2 h3 h4) h4⟩
theorem below_grown {W W' : World} (h : Below W.heap.size W W') : W.grownBy W' none := ⟨h.os, h.tape, h.output, h.size, fun k hk _ => h.block k hk⟩
theorem allL_big {s : ByteArray} (h : 65536 < s.size) : allL (ll s) = ([], 3, 0) := by
  unfold allL
  exact if_pos (by rw [ll_len]; exact h)
attribute [local go_sem] Oper.semAt_some
open Go.Shelf in
set_option maxRecDepth 100000 in
set_option maxHeartbeats 8000000 in
theorem lex_each_stops (n : Nat) (hn : 1 ≤ n) (SB p1 p2 : Nat) (s : ByteArray) (hs2 : s.size ≤ 140737488351232) (w : World) (hc : Boxed w SB 9 (.string s)) (hl : LxLaid w) (hp1 : p1 < w.heap.size) (hp2 : p2 < w.heap.size) :
    SeqStopsK Fence.wide n Tryd.prog 27 #[.pointer (some ⟨SB, 0, none⟩)] (fun x : Tok => #[tok28 (tokS x)]) (keepsTwo p1 p2)
      (fun xs => xs = (allL (ll s)).1) (fun pre => pre <+: (allL (ll s)).1) (allL (ll s)).1.length w := fun lo J Jx W hW hJ hJx hY h0 => by
  have hmf : ∀ (fn : Fn) (first cap : Array Value) (w : World), (Instr.makeFunc fn first cap).run Tryd.prog w = .ok (.func fn first cap) w := fun _ _ _ _ => rfl
  refine callsIn_of_wp Tryd.func27 rfl trivial ?_ rfl
  simp only [Tryd.ntmps27, List.size_toArray, List.length_cons, List.length_nil, Nat.reduceAdd, Nat.reduceSub, Array.replicate_succ, Array.replicate_zero, List.push_toArray, List.append_toArray, List.nil_append, List.cons_append]
  have hbS := boxed_below hc hW
  have hcS := hbS.cell
  have hlen := allL_len (ll s)
  have HLEN := Lib.hid hlen
  have hp1' : p1 < W.heap.size := Nat.lt_of_lt_of_le hp1 hW.size
  have hp2' : p2 < W.heap.size := Nat.lt_of_lt_of_le hp2 hW.size
  have HJ := Lib.hid hJ; have HY := Lib.hid hY; have HBS := Lib.hid hbS; have HL := Lib.hid (hl.below hW)
  clear hc hl hp1 hp2 hW hbS hJ hJx hY hlen
  by_cases hbig : 65536 < s.size
  · have hb : decide ((s.size : Int) > 65536) = true := decide_eq_true (by omega)
    have HA := Lib.hid (allL_big hbig)
    gi_wp2
    refine bodyPost_ret (results_none rfl _ _ _) rfl ?_
    exact ⟨⟨_, rfl⟩, .inl (by rw [HA.out]; exact h0)⟩
  · have hb : decide ((s.size : Int) > 65536) = false := decide_eq_false (by omega)
    have hsS : s.size ≤ 65536 := by omega
    obtain ⟨W2, hW2⟩ : ∃ W2, (W.alloc (.cells #[.slice none 0 0] 22)).alloc (.cells #[.int .i64 0, .int .i64 0] 40) = W2 := ⟨_, rfl⟩
    have hz2 : W2.heap.size = W.heap.size + 1 + 1 := by rw [← hW2]; simp
    have hb2 : Below W.heap.size W W2 := by rw [← hW2]; exact ((Below.refl _ W).alloc (Nat.le_refl _) _).alloc (by simp) _
    have hF2 : W2.heap[W.heap.size + 1]? = some (.cells #[.int .i64 0, .int .i64 0] 40 (0, 0)) := by
      rw [← hW2]
      have := World.alloc_heap_new (W.alloc (.cells #[.slice none 0 0] 22)) (.cells #[.int .i64 0, .int .i64 0] 40)
      rwa [World.size_alloc] at this
    have hB2 : Boxed W2 W.heap.size 22 (.slice none 0 0) := by
      rw [← hW2]
      exact (Boxed.new W 22 (.slice none 0 0)).alloc _
    have HE := Lib.hid (each11_calls s hsS W W2 HL.out hb2 (W.heap.size + 1) SB W.heap.size hF2 (boxed_below HBS.out hb2) hB2 (by omega) (Nat.le_refl _) (by omega))
    have HB2 := Lib.hid hb2
    clear hb2 hF2 hB2
    gi_wp2_with fail
    clear hW2
    refine ⟨trivial, ?_⟩
    refine (callsIn_wide.2 HE.out).mono ?_
    rintro e W3 ⟨rfl, _, ⟨v, hv, hrow⟩, _, hb3⟩
    have hb3' : Below W.heap.size W W3 := HB2.out.trans hb3
    have h03 : J [] W3 := HJ.out [] W W3 none h0 (below_grown hb3') (fun r h => by cases h)
    obtain ⟨A, c, rfl⟩ := row_form hrow
    have hcv := hv.cell
    have hsz3 : W2.heap.size ≤ W3.heap.size := hb3.size
    have HROW := Lib.hid hrow
    clear hb3 hb3' hv hrow h0 hcS HE HB2
    generalize hT : (allL (ll s)).1 = T at *
    generalize hm : (T.map tokS).length = m at *
    have hTm : T.length = m := by rw [← hm, List.length_map]
    have HM := Lib.hid hTm
    have HT := Lib.hid hT
    clear hm hT hTm
    gi_wp2
    gi_loopw [14] (fun i wr => ∃ k : Nat, i = .int .i64 k ∧ k ≤ m ∧ J (T.take k) wr ∧ Hid (W2.heap.size ≤ wr.heap.size) ∧ Hid (wr.ownsRow W2.heap.size 28 4 (.slice A m c) m (flat28 (T.map tokS))))
      (fun i _ => (m - (intOf i).toNat))
    case atStart => exact ⟨0, rfl, by omega, h03, Lib.hid hsz3, HROW⟩
    case round =>
      obtain ⟨k, rfl, hk, hJk, hszr, hrow⟩ := hrel
      by_cases hkm : k < m
      · have hkT : k < T.length := by rw [HM.out]; exact hkm
        obtain ⟨A', c', e, hC⟩ := row28 hrow.out (by rw [List.length_map]; exact HM.out)
        injection e with e1 _ e3
        subst e1
        subst e3
        obtain ⟨ad, hA, x0, x1, x2, x3⟩ := tok_at hC k hkT
        subst hA
        clear hC
        have hJ1 : J (T.take k) (wr.alloc (.cells #[.int .i64 T[k].kind, .string (txt T[k]), .int .i64 T[k].n, .int .i64 (T[k].pos : Nat)] 28)) := HJ.out _ _ _ none hJk (World.grownBy_alloc _ _ none) (fun r h => by cases h)
        have hrow1 : Hid ((wr.alloc (.cells #[.int .i64 T[k].kind, .string (txt T[k]), .int .i64 T[k].n, .int .i64 (T[k].pos : Nat)] 28)).ownsRow W2.heap.size 28 4 (.slice (some ad) m c) m (flat28 (T.map tokS))) := Lib.hid (hrow.out.alloc _)
        obtain ⟨fn, tmps, assign, body, hy, hR2⟩ := HY.out (T.take k) T[k] _ hJ1 (by rw [List.length_take]; omega)
        have hsn : T.take k ++ [T[k]] = T.take (k + 1) := (List.take_succ_eq_append_getElem hkT).symm
        have HSN := Lib.hid hsn
        unfold tok28 tokS at hy
        dsimp only at hy
        have hnew := World.alloc_heap_new wr (.cells #[.int .i64 T[k].kind, .string (txt T[k]), .int .i64 T[k].n, .int .i64 (T[k].pos : Nat)] 28)
        have HNEW := Lib.hid hnew
        have htx : (⟨T[k].text.toArray⟩ : ByteArray) = txt T[k] := rfl
        rw [htx] at hy
        clear hnew hsn htx hJ1
        gi_wp2
        refine hR2.mono ?_
        rintro e W' (⟨rfl, hJ', hk'⟩ | ⟨rfl, hJx'⟩)
        · have hbase := hz2
          have hszw := hszr.out
          have hrow' : W'.ownsRow W2.heap.size 28 4 (.slice (some ad) m c) m (flat28 (T.map tokS)) := own_keep28 hrow1.out (fun b o hb ho hc => by
            have hbb := own_base hrow1.out b hb
            exact hk'.2 b o (by omega) (by omega) ho hc)
          have hsz' : W2.heap.size ≤ W'.heap.size := by have := hk'.1; rw [World.size_alloc] at this; omega
          rw [HSN.out] at hJ'
          have HROW' := Lib.hid hrow'; have HSZ' := Lib.hid hsz'; have HJ' := Lib.hid hJ'
          clear hk' hrow' hsz' hJ'
          have hm70 : m ≤ 65538 := by have h1 := HLEN.out; have h2 := HM.out; omega
          have hwk : IntKind.i64.wrap ((k : Int) + 1) = (k : Int) + 1 := IntWalk.i64_in _ (by omega)
          gi_wp2
          go_roundw
          case rel => exact ⟨k + 1, by go_num, by omega, HJ'.out, HSZ', HROW'⟩
          case measure => simp [intOf]; omega
        · gi_wp2
          refine bodyPost_ret (results_none rfl _ _ _) rfl ?_
          rw [HSN.out] at hJx'
          exact ⟨⟨_, rfl⟩, .inr ⟨_, by rw [HT.out]; exact List.take_prefix _ _, hJx'⟩⟩
      · obtain rfl : k = m := by omega
        gi_wp2
        go_end0
        exact ⟨⟨_, rfl⟩, .inl ⟨_, rfl, by rw [List.take_of_length_le (by rw [HM.out]; exact Nat.le_refl _)] at hJk; rw [HT.out]; exact hJk⟩⟩

end Go.Proofs.YtgpdahgpopmjiaaDoor.PL
