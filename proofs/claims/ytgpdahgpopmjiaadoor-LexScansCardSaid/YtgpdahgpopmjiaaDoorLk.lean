/- Parts of the laws of lex: functions of the program, each with the proof of what it answers; the conditions are those of each theorem. -/
import Derived.Test.YtgpdahgpopmjiaaDoorLj
namespace Go.Proofs.YtgpdahgpopmjiaaDoor.PL
open Go.RowKit Go.Proofs.YtgpdahgpopmjiaaDoorW.PrintWords Go.Proofs.YtgpdahgpopmjiaaDoorW.PrintLast Go.Proofs.YtgpdahgpopmjiaaDoorW.PrintMore
set_option linter.unusedVariables false
set_option linter.unusedSimpArgs false
/-! ### Text and Scan -/
set_option maxRecDepth 100000 in
set_option maxHeartbeats 4000000 in
theorem clip_calls (A : Option Addr) (n c : Nat) (hn : n ≤ c) (hn2 : n ≤ 65538) (w : World) : Calls Tryd.prog 22 #[.slice A n c] w fun e w' => e = .returned (.slice A n n) ∧ w' = w := by
  go_enter Tryd.func22, Tryd.ntmps22
  go_wp2_with fail
  go_ret
  exact ⟨rfl, rfl⟩
theorem grow_below (B : Nat) (w : World) (hB : B ≤ w.heap.size) (k : Nat) (os : Array Obj) : Below B w (Sort.grow (w.drewN k) os) :=
  ⟨rfl, rfl, rfl, by show w.heap.size ≤ (w.heap ++ os).size; rw [Array.size_append]; omega, fun j hj => Array.getElem?_append_left (by show j < w.heap.size; omega)⟩
def textB (x : S28) : ByteArray := if x.f0 = 2 then ⟨(itoaL x.f2).toArray⟩ else x.f1
set_option maxRecDepth 100000 in
set_option maxHeartbeats 4000000 in
theorem text_calls (x : S28) (hx : -9223372036854775808 ≤ x.f2 ∧ x.f2 ≤ 9223372036854775807) (w : World) (hl : LxLaid w) : Calls Tryd.prog 11 #[tok28 x] w fun e w' => e = .returned (.string (textB x)) ∧ Below w.heap.size w w' := by
  have hB : Below w.heap.size w (w.alloc (.cells #[.int .i64 x.f0, .string x.f1, .int .i64 x.f2, .int .i64 x.f3] 28)) := (Below.refl _ _).alloc (Nat.le_refl _) _
  have HF := Lib.hid (Tryd.strconv_FormatInt_10 x.f2 hx.1 hx.2 _ (hl.below hB).tab)
  have HB := Lib.hid hB
  clear hl hB
  unfold tok28
  by_cases h2 : x.f0 = 2
  · have h2b : (x.f0 == 2) = true := by rw [h2]; rfl
    have H2 := Lib.hid h2
    clear h2
    go_enter Tryd.func11, Tryd.ntmps11
    go_wp2_with fail
    refine HF.out.mono ?_
    rintro e w1 ⟨rfl, k, os, rfl⟩
    go_wp2_with fail
    go_ret
    refine ⟨?_, ?_⟩
    · unfold textB
      rw [if_pos H2.out, itoaL_lib]
      rfl
    · exact HB.out.trans (grow_below _ _ (by simp) k os)
  · have h2b : (x.f0 == 2) = false := by rw [beq_eq_false_iff_ne]; exact h2
    have H2 := Lib.hid h2
    clear h2
    go_enter Tryd.func11, Tryd.ntmps11
    go_wp2_with fail
    go_ret
    refine ⟨?_, HB.out⟩
    unfold textB
    rw [if_neg H2.out]
    rfl
theorem row_form {w : World} {base e size n : Nat} {v : Value} {xs : List Value} (h : w.ownsRow base e size v n xs) : ∃ A c, v = .slice A n c := by
  rcases h.2 with ⟨rfl, rfl⟩ | ⟨g, cap, cur, rfl, _⟩
  · exact ⟨_, _, rfl⟩
  · exact ⟨_, _, rfl⟩
theorem row_cap {w : World} {base e size n c : Nat} {A : Option Addr} {xs : List Value} (h : w.ownsRow base e size (.slice A n c) n xs) : n ≤ c := by
  rcases h.2 with ⟨e, rfl⟩ | ⟨g, cap, cur, e, _, _, h1, _⟩
  · exact Nat.zero_le _
  · injection e with _ _ e
    omega
theorem results_stt {P : Program} {fn : Func} {p u v : Tmp} {ty e : TypeId} (h : fn.results = #[.cell p ty, .tmp u, .tmp v]) (tmps : Array Value) (W : World) (g : Nat) (v1 : Value)
    (hp : tmps.getD p undef = .pointer (some ⟨g, 0, none⟩)) (hu : P.underlying ty = some (.slice e)) (hc : W.cell? ⟨g, 0, none⟩ = some v1) :
    (results fn tmps).run P W = .ok (.tuple #[v1, tmps.getD u undef, tmps.getD v undef]) W := by
  have hp' : tmps[p]?.getD undef = .pointer (some ⟨g, 0, none⟩) := by simpa using hp
  simp [results, h, hp', asAddr, loadVar, isAgg, run_underlying hu, go_sem, hc]
theorem allF_len : ∀ (k n : Nat) (l : List UInt8), (allF k n l).1.length ≤ k + 1
  | 0, _, _ => Nat.le_refl _
  | k + 1, n, [] => by show 1 ≤ _; omega
  | k + 1, n, c :: t => by
    rw [allF_succ]
    simp only
    split
    · exact Nat.zero_le _
    · rename_i kind len v _
      have := allF_len k n (skipL ((c :: t).drop len))
      simp only [List.length_cons]
      omega
theorem allL_len (l : List UInt8) : (allL l).1.length ≤ 65538 := by
  unfold allL
  split
  · exact Nat.zero_le _
  · have := allF_len (l.length + 1) l.length (skipL l)
    omega
def scanL (l : List UInt8) : List Tok × Int × Nat := (if (allL l).2.1 = 0 then (allL l).1 else [], (allL l).2)
theorem scan_worlds (w : World) (s : ByteArray) : ∃ W, W = ((w.alloc (.cells #[.string s] 9)).alloc (.cells #[.slice none 0 0] 22)).alloc (.cells #[.int .i64 0, .int .i64 0] 40) ∧ Boxed W w.heap.size 9 (.string s) ∧ Boxed W (w.heap.size + 1) 22 (.slice none 0 0) ∧ W.heap[w.heap.size + 1 + 1]? = some (.cells #[.int .i64 0, .int .i64 0] 40 (0, 0)) ∧ Below w.heap.size w W ∧ W.heap.size = w.heap.size + 1 + 1 + 1 := by
  refine ⟨_, rfl, ?_, ?_, ?_, ?_, by simp⟩
  · exact ((Below.heap_alloc _ _ w.heap.size (by simp; omega)).trans (Below.heap_alloc _ _ w.heap.size (by simp))).trans (World.alloc_heap_new _ _)
  · have := World.alloc_heap_new (w.alloc (.cells #[.string s] 9)) (.cells #[.slice none 0 0] 22)
    rw [World.size_alloc] at this
    exact (Below.heap_alloc _ _ (w.heap.size + 1) (by simp)).trans this
  · have := World.alloc_heap_new ((w.alloc (.cells #[.string s] 9)).alloc (.cells #[.slice none 0 0] 22)) (.cells #[.int .i64 0, .int .i64 0] 40)
    rw [World.size_alloc, World.size_alloc] at this
    exact this
  · exact (((Below.refl _ w).alloc (Nat.le_refl _) _).alloc (by simp) _).alloc (by simp; omega) _
set_option maxRecDepth 100000 in
set_option maxHeartbeats 8000000 in
theorem scan_small (s : ByteArray) (hs : s.size ≤ 65536) (w : World) (hl : LxLaid w) : Calls Tryd.prog 7 #[.string s] w fun e w' => ∃ A n c, n ≤ c ∧ e = .returned (.tuple #[.slice A n c, .int .i64 (scanL (ll s)).2.1, .int .i64 ((scanL (ll s)).2.2 : Nat)]) ∧ Kd.C k28 w' A n ((scanL (ll s)).1.map tokS) ∧ Below w.heap.size w w' := by
  have hmf : ∀ (fn : Fn) (first cap : Array Value) (w : World), (Instr.makeFunc fn first cap).run Tryd.prog w = .ok (.func fn first cap) w := fun _ _ _ _ => rfl
  have hbig : decide ((s.size : Int) > 65536) = false := decide_eq_false (by omega)
  obtain ⟨W, hW, hS, hB, hF, hb, hz⟩ := scan_worlds w s
  have HC := Lib.hid (scan1_calls s hs w W hl hb _ _ _ hF hS hB (by omega) (by omega) (by omega))
  have HW := Lib.hid hW
  have HBL := Lib.hid hb
  clear hl hS hB hF hb hW
  go_enter Tryd.func7, Tryd.ntmps7
  go_wp2_with fail
  rw [← HW.out]
  refine HC.out.mono ?_
  rintro e w1 ⟨rfl, hF, ho, hk, hb⟩
  have HB := Lib.hid (HBL.out.trans hb)
  have HK := Lib.hid hk
  obtain ⟨v, hv, hrow⟩ := ho
  obtain ⟨A, c, rfl⟩ := row_form hrow
  generalize hr : allL (ll s) = r at *
  have HR := Lib.hid hr
  obtain ⟨T, why, i⟩ := r
  have y0 : w1.cell? ⟨w.heap.size + 1 + 1, 0, none⟩ = some (.int .i64 why) := blk_cell hF 0
  have y1 : w1.cell? ⟨w.heap.size + 1 + 1, 1, none⟩ = some (.int .i64 (i : Nat)) := blk_cell hF 1
  have hc := hv.cell
  have hf := hv.frozen
  have hsm : (T.map tokS).length ≤ 65538 := by
    have := allL_len (ll s)
    rw [HR.out] at this
    rw [List.length_map]
    exact this
  have HV := Lib.hid hv; have HROW := Lib.hid hrow
  clear hr hF hk hb hv hrow
  by_cases h0 : why = 0
  · have h0b : (why != 0) = false := by rw [h0]; rfl
    have H0 := Lib.hid h0
    clear h0
    have hnc : (T.map tokS).length ≤ c := row_cap HROW.out
    generalize hm : (T.map tokS).length = m at *
    have HCL := Lib.hid (fun W => clip_calls A m c hnc hsm W)
    clear hnc
    go_wp2_with fail
    refine (HCL.out _).mono ?_
    rintro e w2 ⟨rfl, rfl⟩
    go_wp2_with fail
    have hset := HV.out.set (.slice A m m)
    have hz := allL_zero (ll s) (by rw [HR.out]; exact H0.out)
    rw [HR.out] at hz
    have hz' : i = 0 := hz
    refine bodyPost_ret (results_stt rfl _ _ (w.heap.size + 1) _ rfl Tryd.underlying22 hset.cell) rfl ?_
    obtain ⟨A', c', e, hC⟩ := row28 (HROW.out.kept (grownBy_setCell' w2 (w.heap.size + 1) (.slice A m m)) (.inr (HV.out.not_row (by decide) HROW.out).symm)) hm
    injection e with e1 _ e3
    subst e1
    refine ⟨A, m, m, Nat.le_refl _, ?_, ?_, HB.out.setCell (p := ⟨w.heap.size + 1, 0, none⟩) (by show w.heap.size ≤ w.heap.size + 1; omega) _⟩
    · unfold scanL
      rw [HR.out, hz', H0.out]
      rfl
    · unfold scanL
      rw [HR.out, if_pos H0.out]
      exact hC
  · have h0b : (why != 0) = true := by rw [bne_iff_ne]; exact h0
    have H0 := Lib.hid h0
    clear h0
    go_wp2_with fail
    go_region
    go_wp2_with fail
    have hset := HV.out.set (.slice none 0 0)
    refine bodyPost_ret (results_stt rfl _ _ (w.heap.size + 1) _ rfl Tryd.underlying22 hset.cell) rfl ?_
    obtain ⟨A', c', e, hC⟩ := row28 (xs := []) (World.ownsRow_nil (w1.setCell ⟨w.heap.size + 1, 0, none⟩ (.slice none 0 0)).drew 0 28 4) rfl
    injection e with e1 _ e3
    subst e1
    refine ⟨none, 0, 0, Nat.le_refl _, ?_, ?_, (HB.out.setCell (p := ⟨w.heap.size + 1, 0, none⟩) (by show w.heap.size ≤ w.heap.size + 1; omega) _).drew⟩
    · unfold scanL
      rw [HR.out]
      rfl
    · unfold scanL
      rw [HR.out, if_neg H0.out]
      exact hC
set_option maxRecDepth 100000 in
set_option maxHeartbeats 8000000 in
theorem scan_big (s : ByteArray) (hs : 65536 < s.size) (hs2 : s.size ≤ 140737488351232) (w : World) : Calls Tryd.prog 7 #[.string s] w fun e w' => ∃ A n c, n ≤ c ∧ e = .returned (.tuple #[.slice A n c, .int .i64 (scanL (ll s)).2.1, .int .i64 ((scanL (ll s)).2.2 : Nat)]) ∧ Kd.C k28 w' A n ((scanL (ll s)).1.map tokS) ∧ Below w.heap.size w w' := by
  have hbig : decide ((s.size : Int) > 65536) = true := decide_eq_true (by omega)
  have hsc : scanL (ll s) = ([], 3, 0) := by
    have hL : allL (ll s) = ([], 3, 0) := by
      unfold allL
      exact if_pos (by rw [ll_len]; exact hs)
    unfold scanL
    rw [hL]
    rfl
  have HS := Lib.hid hsc
  clear hsc
  go_enter Tryd.func7, Tryd.ntmps7
  go_wp2_with fail
  have hbx : Boxed (w.alloc (.cells #[.string s] 9)) (w.heap.size) 9 (.string s) := World.alloc_heap_new _ _
  have hb0 : Boxed ((w.alloc (.cells #[.string s] 9)).alloc (.cells #[.slice none 0 0] 22)) (w.heap.size + 1) 22 (.slice none 0 0) := by
    have := World.alloc_heap_new (w.alloc (.cells #[.string s] 9)) (.cells #[.slice none 0 0] 22)
    rw [World.size_alloc] at this
    exact this
  refine bodyPost_ret (results_stt rfl _ _ (w.heap.size + 1) _ rfl Tryd.underlying22 hb0.cell) rfl ?_
  obtain ⟨A', c', e, hC⟩ := row28 (xs := []) (World.ownsRow_nil ((w.alloc (.cells #[.string s] 9)).alloc (.cells #[.slice none 0 0] 22)) 0 28 4) rfl
  injection e with e1 _ e3
  subst e1
  refine ⟨none, 0, 0, Nat.le_refl _, ?_, ?_, ((Below.refl _ w).alloc (Nat.le_refl _) _).alloc (by simp) _⟩
  · rw [HS.out]
    rfl
  · rw [HS.out]
    exact hC
theorem scan_calls (s : ByteArray) (hs2 : s.size ≤ 140737488351232) (w : World) (hl : LxLaid w) : Calls Tryd.prog 7 #[.string s] w fun e w' => ∃ A n c, n ≤ c ∧ e = .returned (.tuple #[.slice A n c, .int .i64 (scanL (ll s)).2.1, .int .i64 ((scanL (ll s)).2.2 : Nat)]) ∧ Kd.C k28 w' A n ((scanL (ll s)).1.map tokS) ∧ Below w.heap.size w w' := by
  by_cases h : s.size ≤ 65536
  · exact scan_small s h w hl
  · exact scan_big s (by omega) hs2 w

end Go.Proofs.YtgpdahgpopmjiaaDoor.PL
