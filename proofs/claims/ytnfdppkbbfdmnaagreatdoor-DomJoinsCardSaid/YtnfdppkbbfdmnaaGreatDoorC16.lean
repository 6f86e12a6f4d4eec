/- Parts of the laws of dom: functions of the program, each with the proof of what it answers; the conditions are those of each theorem. -/
import Derived.Test.YtnfdppkbbfdmnaaGreatDoorC15
import Derived.Deep.DeepAppendRoom
namespace Go.Proofs.YtnfdppkbbfdmnaaGreatDoor.PD
open Go.RowKit Go.Proofs.YtnfdppkbbfdmnaaGreatDoorW.PrintWords Go.Proofs.YtnfdppkbbfdmnaaGreatDoorW.PrintLast Go.Proofs.YtnfdppkbbfdmnaaGreatDoorW.PrintMore
set_option linter.unusedVariables false
set_option linter.unusedSimpArgs false
/-! ### Spoil, and what it leaves as it was -/
theorem Row.segG {W : World} {base g p cap : Nat} {l : List S57} (h : Row W base (.slice (some ⟨g, 0, none⟩) p cap) l) (k : Nat) (hk : k < l.length) (x y : Int) :
    Row ((W.setCell ⟨g, k * 2, none⟩ (.int .i64 x)).setCell ⟨g, k * 2 + 1, none⟩ (.int .i64 y)) base (.slice (some ⟨g, 0, none⟩) p cap) (l.set k ⟨x, y⟩) ∧ W.grownBy ((W.setCell ⟨g, k * 2, none⟩ (.int .i64 x)).setCell ⟨g, k * 2 + 1, none⟩ (.int .i64 y)) (some g) := by
  have hR := h.toR
  have hgb := own_base h.own g (by simp [Value.ownBlock])
  have hp := (Kd.R_reads' hR).1
  obtain ⟨ce, hcl, hM, hcc, hfr⟩ := Kd.R_elem hR z57 (k : Int) (by omega) (by omega)
  have hs := Kd.R_seg hR (k : Int) (by omega) (by omega) (seg := [.int .i64 x, .int .i64 y]) (j := 0) hcl hcc (show 0 + 2 ≤ 2 by decide) (x' := (⟨x, y⟩ : S57)) (okp := fun k => k ≠ g) (by
    have e := k57_openM hM
    subst e
    exact k57_mkM _ _ _ (⟨x, y⟩ : S57)) (fun k hk => ⟨trivial, hk⟩)
  rw [Int.toNat_natCast] at hs
  exact ⟨R57_row hs.1, hs.2⟩
theorem Row.setLoG {W : World} {base g p cap : Nat} {l : List S57} (h : Row W base (.slice (some ⟨g, 0, none⟩) p cap) l) (k : Nat) (hk : k < l.length) (x : Int) :
    W.grownBy (W.setCell ⟨g, k * 2, none⟩ (.int .i64 x)) (some g) := by
  have hR := h.toR
  have hp := (Kd.R_reads' hR).1
  obtain ⟨ce, hcl, hM, hcc, hfr⟩ := Kd.R_elem hR z57 (k : Int) (by omega) (by omega)
  have hs := Kd.R_seg hR (k : Int) (by omega) (by omega) (seg := [.int .i64 x]) (j := 0) hcl hcc (show 0 + 1 ≤ 2 by decide) (x' := (⟨x, (l.getD (k : Int).toNat z57).f1⟩ : S57)) (okp := fun k => k ≠ g) (by
    have e := k57_openM hM
    subst e
    exact k57_mkM _ _ _ (⟨x, (l.getD (k : Int).toNat z57).f1⟩ : S57)) (fun k hk => ⟨trivial, hk⟩)
  rw [Int.toNat_natCast] at hs
  exact hs.2
theorem own_frozen {w : World} {base e size n m c g : Nat} {xs : List Value} (h : w.ownsRow base e size (.slice (some ⟨g, 0, none⟩) m c) n xs) (o : Nat) : w.frozen? ⟨g, o, none⟩ = false := by
  rcases h.2 with ⟨h0, _⟩ | ⟨g7, cap7, cur7, hv7, _, hh7, _⟩
  · cases h0
  · injection hv7 with hv7
    injection hv7 with hv7
    injection hv7 with hv7
    subst hv7
    exact blk_frozen hh7 _
theorem RowC.grown {w w' : World} {base : Nat} {v : Value} {l : List S57} {r : Option Nat} (h : RowC w base v l) (hg : w.grownBy w' r) (hr : ∀ k, r = some k → k < base) : RowC w' base v l := by
  obtain ⟨A, c, c', rfl, hc, hl, hrow⟩ := h
  refine ⟨A, c, c', rfl, hc, hl, ?_⟩
  rcases hrow with h0 | ⟨g, cap, cur, hv, hb, hh, h1, h2, h3, h4⟩
  · exact .inl h0
  · refine .inr ⟨g, cap, cur, hv, hb, ?_, h1, h2, h3, h4⟩
    exact (hg.block g (blk_lt hh) (fun e => by have := hr g e.symm; omega)).trans hh
theorem RowC.lt {w : World} {base : Nat} {v : Value} {l : List S57} (h : RowC w base v l) : ∀ k, v.ownBlock = some k → base ≤ k ∧ k < w.heap.size := by
  obtain ⟨A, c, c', rfl, hc, hl, hrow⟩ := h
  intro k hk
  rcases hrow with ⟨h0, _⟩ | ⟨g, cap, cur, hv, hb, hh, h1, h2, h3, h4⟩
  · injection h0 with h0
    subst h0
    cases hk
  · injection hv with hv
    subst hv
    injection hk with hk
    subst hk
    exact ⟨hb, blk_lt hh⟩
set_option maxRecDepth 100000 in
set_option maxHeartbeats 8000000 in
theorem SpoilG_ref {v : Value} (base : Nat) (l : List S57) (w : World) (h : RowC w base v l) (hl : l.length ≤ 100000) :
    Calls Tryz.prog 19 #[v] w fun e w' => e = .returned (.tuple #[]) ∧ w.grownBy w' v.ownBlock := by
  obtain ⟨A, c, c', rfl, hc, hr⟩ := h
  obtain ⟨i0, hi0, hz0, hz1, hz2⟩ := info_parts info57
  have HR := Lib.hid hr
  have hcap := row_cap hr
  obtain ⟨n, hn⟩ : ∃ n, l.length = n := ⟨_, rfl⟩
  rw [hn] at HR hl hc hcap ⊢
  have hcn : n ≤ c := by rcases hc with rfl | rfl <;> omega
  have HN := Lib.hid hn
  have HOWN := Lib.hid (fun g (h : A = some ⟨g, 0, none⟩) => (show Value.ownBlock (.slice A n c) = some g by rw [h]; rfl))
  obtain ⟨ob, hob⟩ : ∃ ob, Value.ownBlock (.slice A n c) = ob := ⟨_, rfl⟩
  rw [hob] at HOWN ⊢
  clear hr hn hob
  go_enter Tryz.func19, Tryz.ntmps19
  go_wp2_with fail
  go_loopw [2] (fun i wr => ∃ (k : Nat) (l' : List S57), i = .int .i64 k ∧ k ≤ n ∧ Hid (l'.length = n) ∧ Hid (Row wr base (.slice A n c') l') ∧ Hid (w.grownBy wr ob))
    (fun i _ => n - (intOf i).toNat)
  case atStart => exact ⟨0, l, rfl, Nat.zero_le _, HN, HR, Lib.hid (World.grownBy.refl _ _)⟩
  case round =>
    obtain ⟨k, l', rfl, hk, hLn, hO, hB⟩ := hrel
    have hle := hB.out.size
    by_cases hkn : k < n
    · have hkl : k < l'.length := by rw [hLn.out]; exact hkn
      obtain ⟨g, cap, hv3, hgb, hgl, cl, hg⟩ := Kd.R_form hO.out.toR (by omega)
      injection hv3 with hA3 hx_ hc3
      subst hA3 hc3
      clear hx_
      obtain ⟨A9, c9, hv9, hC9, _⟩ := hO.out.lst
      injection hv9 with hv9 hx_ hv10
      subst hv9 hv10
      clear hx_
      obtain ⟨ad2, hA2, y0, y1⟩ := rng_at hC9 k hkl
      injection hA2 with hA2
      subst hA2
      rw [add_zero_off] at y0 y1
      simp only at y0 y1
      have hf0 : wr.frozen? ⟨g, k * 2, none⟩ = false := blk_frozen hg _
      have hf1 : wr.frozen? ⟨g, k * 2 + 1, none⟩ = false := blk_frozen hg _
      have hix := fun W => index_at ⟨g, 0, none⟩ n c (k : Nat) (by omega) W
      simp only [Int.toNat_natCast, add_zero_off] at hix
      obtain ⟨r1, r2⟩ := hO.out.segG k hkl 9 (-9)
      have hobg : ob = some g := (HOWN.out g rfl)
      have HR1 := Lib.hid r1; have HR2 := Lib.hid (hB.out.trans (by rw [hobg]; exact r2))
      generalize l'[k].f0 = a at *
      generalize l'[k].f1 = b at *
      clear r1 r2 hC9 hg hkl hobg
      go_wp2_with fail
      refine ⟨⟨k + 1, l'.set k ⟨9, -9⟩, by rw [Int.natCast_add]; rfl, by omega, Lib.hid (by rw [List.length_set, hLn.out]), HR1, HR2⟩, by simp [intOf]; omega⟩
    · obtain rfl : k = n := by omega
      have hb0 : Below wr.heap.size wr (wr.alloc (.cells #[.int .i64 5, .int .i64 (-5)] 57)) := (Below.refl _ _).alloc (Nat.le_refl _) _
      have HGA := Lib.hid (hB.out.trans (World.grownBy_alloc wr (.cells #[.int .i64 5, .int .i64 (-5)] 57) ob))
      by_cases hroom : k < c
      · -- room behind: the same block
        have hcc : c = c' := by rcases hc with h | h <;> omega
        subst hcc
        have hfl := flat57_len l'
        rw [hLn.out] at hfl
        obtain ⟨g, hA⟩ : ∃ g, A = some ⟨g, 0, none⟩ := by
          rcases hO.out.2 with ⟨h0, _⟩ | ⟨g, cap, cur, hv, _⟩
          · injection h0 with h0 h1 h2
            omega
          · injection hv with hv
            exact ⟨g, hv⟩
        subst hA
        have hobg : ob = some g := HOWN.out g rfl
        subst hobg
        have hown : (wr.alloc (.cells #[.int .i64 5, .int .i64 (-5)] 57)).ownsRow base 57 2 (.slice (some ⟨g, 0, none⟩) k c) k (flat57 l') := by
          have := (hO.out.below hb0).own
          rw [hLn.out] at this
          exact this
        have HW := Lib.hid hown
        clear hfl hb0 hown
        go_wp2_with ((with_reducible refine gate_builtin (b := .append) (xs := #[.tmp 13, .tmp 15]) rfl ?_); at_builtin; refine wpList_append_own_spare _ rfl (.tmp 13) (.tmp 15) 23 rfl base 57 i0 2 Tryz.underlying23 hi0 hz1 g k c (flat57 l') rfl HW.out ⟨_, 0, none⟩ 1 1 [.int .i64 5, .int .i64 (-5)] rfl rfl (cell_pair_at _ _ (by simp) _ _ _) (by simp [Value.oneCell']) (by omega) ?_; intro w4 hown' hgrow; have hrow : Row w4 base (.slice (some ⟨g, 0, none⟩) (k + 1) c) (l' ++ [⟨5, -5⟩]) := (by unfold Row; rw [List.length_append, List.length_singleton, flat57_snoc, hLn.out]; exact hown'); have HG4 := Lib.hid (HGA.out.trans hgrow); have HLO := Lib.hid (hrow.setLoG k (by rw [List.length_append, List.length_singleton, hLn.out]; omega) 3); obtain ⟨A9, c9, hv9, hC9, hc10⟩ := hrow.lst; injection hv9 with hv9 hx_ hv10; subst hv9 hv10; clear hx_; obtain ⟨ad2, hA2, y0, y1⟩ := rng_at hC9 k (by rw [List.length_append, List.length_singleton, hLn.out]; omega); injection hA2 with hA2; subst hA2; rw [add_zero_off] at y0; have hgx := own_base hown' g (by simp [Value.ownBlock]); have hf0 : w4.frozen? ⟨g, k * 2, none⟩ = false := own_frozen hown' _; have hix := fun W => index_at ⟨g, 0, none⟩ (k + 1) c (k : Int) (by omega) W; simp only [Int.toNat_natCast, add_zero_off] at hix; have hw1 : IntKind.i64.wrap (((k + 1 : Nat) : Int) - 1) = (k : Int) := (by rw [IntWalk.i64_in _ (by omega)]; omega); have hw2 : IntKind.i64.wrap ((k : Int) + 1 - 1) = (k : Int) := (by rw [IntWalk.i64_in _ (by omega)]; omega); obtain ⟨a, ya⟩ : ∃ a, w4.cell? ⟨g, k * 2, none⟩ = some (.int .i64 a) := ⟨_, y0⟩; clear y0 hC9 y1 hown' hgrow hrow hgx)
        go_end0
        exact ⟨rfl, HG4.out.trans HLO.out⟩
      · -- no room: a new block
        have hcc : c = k := by omega
        subst hcc
        obtain ⟨A9, c9, hv9, hC9, hc9⟩ := hO.out.lst
        injection hv9 with hv9 hx_ hv10
        subst hv9 hv10
        clear hx_
        have hnews : ∀ b, A = some b → ∀ j u, (flat57 l')[j]? = some u → wr.cell? (b.add j) = some u := by
          intro b hb
          subst hb
          obtain ⟨news, hreps, hnews⟩ := ReadsRow.inner_ hC9
          have hnf : news = flat57 l' := reps_flat57 (fun x cs h => k57_open h) l' news hreps
          subst hnf
          exact hnews
        have hfl := flat57_len l'
        rw [hLn.out] at hfl
        have hnone : A = none → c = 0 ∧ c = 0 := by
          intro h
          subst h
          have := C_none hC9
          subst this
          have := hLn.out
          simp at this
          omega
        have hcells : ∀ b, A = some b → ∀ j u, (flat57 l')[j]? = some u → (wr.alloc (.cells #[.int .i64 5, .int .i64 (-5)] 57)).cell? (b.add j) = some u := by
          intro b hb j u hj
          have := hnews b hb j u hj
          exact (hb0.cell (World.block_lt_of_cell? wr _ this)).trans this
        have HCELLS := Lib.hid hcells; have HNONE := Lib.hid hnone; have HFL := Lib.hid hfl
        clear hcells hnone hfl hnews hb0 hC9
        go_wp2_with ((with_reducible refine gate_builtin (b := .append) (xs := #[.tmp 13, .tmp 15]) rfl ?_); at_builtin; refine wpList_append_grows _ rfl (.tmp 13) (.tmp 15) 23 rfl 57 i0 _ 2 16 Tryz.underlying23 hi0 hz0 hz1 hz2 rfl (by decide) A c c (flat57 l') rfl HNONE.out HFL.out HCELLS.out ⟨_, 0, none⟩ 1 1 [.int .i64 5, .int .i64 (-5)] rfl rfl (cell_pair_at _ _ (by simp) _ _ _) (by simp [Value.oneCell']) (by omega) (by simp only [maxLen]; omega) (by omega) ?_; intro v' w4 hown' hgrow; have hrow : Row w4 (wr.alloc (.cells #[.int .i64 5, .int .i64 (-5)] 57)).heap.size v' (l' ++ [⟨5, -5⟩]) := (by unfold Row; rw [List.length_append, List.length_singleton, flat57_snoc, hLn.out]; exact hown'); have HROW := Lib.hid hrow; have HBG := Lib.hid (HGA.out.andThen hgrow (fun j hj => by cases hj)); have hgs := hgrow.size; clear hrow hown' hgrow; obtain ⟨g2, cap2, hv2, hgb2, _, cl2, hg2⟩ := Kd.R_form HROW.out.toR (by rw [List.length_append, List.length_singleton]; omega); subst hv2; obtain ⟨A9, c9, hv9, hC9, hc10⟩ := HROW.out.lst; injection hv9 with hv9 hx_ hv10; subst hv9 hv10; clear hx_; obtain ⟨ad2, hA2, y0, y1⟩ := rng_at hC9 c (by rw [List.length_append, List.length_singleton, hLn.out]; omega); injection hA2 with hA2; subst hA2; rw [add_zero_off] at y0; have hll : (l' ++ [(⟨5, -5⟩ : S57)]).length = c + 1 := (by rw [List.length_append, List.length_singleton, hLn.out]); have hlo := HROW.out.setLoG c (by omega) 3; have HLO := Lib.hid hlo; have HGS := Lib.hid hgs; obtain ⟨p, hp⟩ : ∃ p, (l' ++ [(⟨5, -5⟩ : S57)]).length = p := ⟨_, rfl⟩; rw [hp] at hc10 hll ⊢; have hix := fun W => index_at ⟨g2, 0, none⟩ p cap2 ((p : Int) - 1) (by omega) W; have htn : ((p : Int) - 1).toNat = c := (by omega); simp only [htn, add_zero_off] at hix; have hw1 : IntKind.i64.wrap ((p : Int) - 1) = (p : Int) - 1 := IntWalk.i64_in _ (by omega); have hf0 : w4.frozen? ⟨g2, c * 2, none⟩ = false := blk_frozen hg2 _; generalize (l' ++ [(⟨5, -5⟩ : S57)])[c].f0 = a at *; have HG2 := Lib.hid hgb2; clear hC9 y1 hll htn hp hg2 hlo hgs hgb2)
        go_end0
        refine ⟨rfl, HBG.out.andThen HLO.out (fun j hj => .inl ?_)⟩
        injection hj with hj
        have h1 := HG2.out
        rw [World.size_alloc] at h1
        omega

end Go.Proofs.YtnfdppkbbfdmnaaGreatDoor.PD

namespace Go.Proofs.YtnfdppkbbfdmnaaGreatDoor.PD
open Go.RowKit Go.Proofs.YtnfdppkbbfdmnaaGreatDoorW.PrintWords Go.Proofs.YtnfdppkbbfdmnaaGreatDoorW.PrintLast Go.Proofs.YtnfdppkbbfdmnaaGreatDoorW.PrintMore
set_option linter.unusedVariables false
set_option linter.unusedSimpArgs false
/-! ### DomJoins -/
theorem cutsL_len (t : List S57) : ∀ u : List S57, (cutsL t u).length ≤ t.length * u.length
  | [] => Nat.zero_le _
  | r :: u => by
    have e : cutsL t (r :: u) = cutL t r.f0 r.f1 ++ cutsL t u := rfl
    have h1 := cutL_len t r.f0 r.f1
    have h2 := cutsL_len t u
    rw [e, List.length_append, List.length_cons, Nat.mul_succ]
    omega
theorem cuts_small {t u : List S57} (ht : t.length ≤ 4096) (hu : u.length ≤ 4097) : (cutsL t u).length ≤ 1000000000 := by
  have h := cutsL_len t u
  have h2 : t.length * u.length ≤ 4096 * 4097 := Nat.mul_le_mul ht hu
  omega
theorem cuts_in {t : List S57} (ht : rightS t = true) (u : List S57) : ∀ x ∈ cutsL t u, inR x := by
  intro x hx
  obtain ⟨r, hr, h1, h2, h3⟩ := cutsL_mem hx
  have := right_mem ht r hr
  unfold inR
  omega
theorem bothS_le (a b : List S57) : (bothS a b).length ≤ 4096 := by
  unfold bothS
  split
  · assumption
  · exact right_le (takenL_right a)
theorem withoutS_le (a : List S57) (x : Int) : (withoutS a x).length ≤ 4096 := by
  unfold withoutS
  split
  · rename_i h
    exact h.2
  · exact right_le (takenL_right a)
theorem both_refS {v1 v2 : Value} (a b : List S57) (w : World) (h1 : Lst w v1 a) (h2 : Lst w v2 b) :
    Calls Tryz.prog 48 #[v1, v2] w fun e w' => ∃ v', e = .returned v' ∧ Row w' w.heap.size v' (bothS a b) ∧ Below w.heap.size w w' := by
  have ht := takenL_right a
  have hu := takenL_right b
  have hj := joined_is (cutsL (takenL a) (takenL b)) (by have := cuts_small (right_le ht) (show (takenL b).length ≤ 4097 by have := right_le hu; omega); omega) (cuts_in ht _)
  rw [both_join ht (right_norm hu)] at hj
  exact Both_ref a b _ w h1 h2 hj
theorem either_refS {v1 v2 : Value} (a b : List S57) (w : World) (h1 : Lst w v1 a) (h2 : Lst w v2 b) :
    Calls Tryz.prog 43 #[v1, v2] w fun e w' => ∃ v', e = .returned (.tuple #[v', .int .i64 (normS (takenL a ++ takenL b)).2]) ∧ Row w' w.heap.size v' (normS (takenL a ++ takenL b)).1 ∧ Below w.heap.size w w' := by
  have ht := right_le (takenL_right a)
  have hu := right_le (takenL_right b)
  exact Either_ref a b _ _ w h1 h2 (norm_is _ (by rw [List.length_append]; omega))
def lessS (a b : List S57) : List S57 × Int := fitL (bothL (takenL a) (restL (-1000000) (takenL b)))
theorem less_refS {v1 v2 : Value} (a b : List S57) (w : World) (h1 : Lst w v1 a) (h2 : Lst w v2 b) :
    Calls Tryz.prog 45 #[v1, v2] w fun e w' => ∃ v', e = .returned (.tuple #[v', .int .i64 (lessS a b).2]) ∧ Row w' w.heap.size v' (lessS a b).1 ∧ Below w.heap.size w w' := by
  have ht := takenL_right a
  have hu := takenL_right b
  have hl := restL_len (takenL b) (-1000000)
  have hn := norm_is (cutsL (takenL a) (restL (-1000000) (takenL b))) (by have := cuts_small (right_le ht) (show (restL (-1000000) (takenL b)).length ≤ 4097 by have := right_le hu; omega); omega)
  rw [less_norm ht (rest_norm hu)] at hn
  exact Less_ref a b _ _ w h1 h2 hn
theorem less_callsS {v1 v2 : Value} (a b : List S57) (w : World) (h1 : Lst w v1 a) (h2 : Lst w v2 b) :
    Calls Tryz.prog 44 #[v1, v2] w fun e w' => ∃ v', e = .returned (.tuple #[v', .int .i64 (lessS a b).2]) ∧ Row w' w.heap.size v' (lessS a b).1 ∧ Below w.heap.size w w' := by
  refine (less_calls a b w h1 h2).mono ?_
  rintro e w' ⟨v', e', rfl, ⟨hr, rfl⟩, hb⟩
  exact ⟨v', rfl, hr, hb⟩
theorem without_refS {v : Value} (l : List S57) (x : Int) (w : World) (h : Lst w v l) :
    Calls Tryz.prog 50 #[v, .int .i64 x] w fun e w' => ∃ v', e = .returned v' ∧ Row w' w.heap.size v' (withoutS l x) ∧ Below w.heap.size w w' := by
  rw [without_same]
  exact Without_ref l x w h
theorem same_is (a b : List S57) : ∃ rb : Bool, (∀ (v1 v2 : Value) (w : World), Lst w v1 a → Lst w v2 b → Calls Tryz.prog 39 #[v1, v2] w fun e w' => e = .returned (.bool rb) ∧ Below w.heap.size w w') ∧
    (∀ (v1 v2 : Value) (w : World), Lst w v1 a → Lst w v2 b → Calls Tryz.prog 52 #[v1, v2] w fun e w' => e = .returned (.bool rb) ∧ Below w.heap.size w w') := by
  obtain ⟨rb, hrb⟩ : ∃ rb : Bool, (rb = true ↔ takenL a = takenL b) := by
    by_cases h : takenL a = takenL b
    · exact ⟨true, fun _ => h, fun _ => rfl⟩
    · exact ⟨false, fun q => (by cases q), fun q => absurd q h⟩
  refine ⟨rb, fun v1 v2 w h1 h2 => ?_, fun v1 v2 w h1 h2 => ?_⟩
  · refine (Same_calls a b w h1 h2).mono ?_
    rintro e w' ⟨r, rfl, hr, hb⟩
    rw [Bool.eq_iff_iff.2 (hr.trans hrb.symm)]
    exact ⟨rfl, hb⟩
  · refine (Same_ref a b w h1 h2).mono ?_
    rintro e w' ⟨r, rfl, hr, hb⟩
    rw [Bool.eq_iff_iff.2 (hr.trans hrb.symm)]
    exact ⟨rfl, hb⟩
theorem within_is (a b : List S57) : ∃ rb : Bool, (∀ (v1 v2 : Value) (w : World), Lst w v1 a → Lst w v2 b → Calls Tryz.prog 53 #[v1, v2] w fun e w' => e = .returned (.bool rb) ∧ Below w.heap.size w w') ∧
    (∀ (v1 v2 : Value) (w : World), Lst w v1 a → Lst w v2 b → Calls Tryz.prog 54 #[v1, v2] w fun e w' => e = .returned (.bool rb) ∧ Below w.heap.size w w') := by
  refine ⟨withinL (takenL b) (takenL a), fun v1 v2 w h1 h2 => ?_, fun v1 v2 w h1 h2 => Within_ref a b w h1 h2⟩
  refine (Within_calls a b w h1 h2).mono ?_
  rintro e w' ⟨r, rfl, hr, hb⟩
  rw [Bool.eq_iff_iff.2 (hr.trans (within_same (takenL_right a) (takenL_right b)))]
  exact ⟨rfl, hb⟩
set_option maxRecDepth 100000 in
set_option maxHeartbeats 16000000 in
theorem joins_calls {v0 v1 : Value} (a b : List S57) (lo hi : Int) (w : World) (hd : DomLaid w) (h0 : Lst w v0 a) (h1 : Lst w v1 b) (ha : a.length ≤ 8796093021952) (hb : b.length ≤ 8796093021952) :
    Calls Tryz.prog 7 #[v0, v1, .int .i64 lo, .int .i64 hi] w fun e w' => e = .returned (.bool true) ∧ Below w.heap.size w w' := by
  have HD := Lib.hid hd; have H0 := Lib.hid h0; have H1 := Lib.hid h1
  obtain ⟨sb, K1, K2⟩ := same_is a b
  obtain ⟨ib, K3, K4⟩ := within_is a b
  have KSM := Lib.hid K1; have KSR := Lib.hid K2; have KWI := Lib.hid K3; have KWR := Lib.hid K4
  have KBO := Lib.hid (fun x y W h h2 => Both_calls (v1 := x) (v2 := y) a b W h h2); have KBR := Lib.hid (fun x y W h h2 => both_refS (v1 := x) (v2 := y) a b W h h2)
  have KEI := Lib.hid (fun x y W h h2 => Either_calls (v1 := x) (v2 := y) a b W h h2); have KER := Lib.hid (fun x y W h h2 => either_refS (v1 := x) (v2 := y) a b W h h2)
  have KLE := Lib.hid (fun x y W h h2 => less_callsS (v1 := x) (v2 := y) a b W h h2); have KLR := Lib.hid (fun x y W h h2 => less_refS (v1 := x) (v2 := y) a b W h h2)
  have KCU := Lib.hid (fun x W h => cut_calls (v := x) a lo hi W h); have KCR := Lib.hid (fun x W h => Cut_ref (v := x) a lo hi W h)
  have KWO := Lib.hid (fun x W h => without_calls (v := x) a lo W h); have KWX := Lib.hid (fun x W h => without_refS (v := x) a lo W h)
  have KNO := Lib.hid (fun x W h => not_calls (v := x) a W h); have KNR := Lib.hid (fun x W h => Not_ref (v := x) a W h)
  obtain ⟨LB, e1⟩ : ∃ L, bothS a b = L := ⟨_, rfl⟩
  obtain ⟨⟨LE, EE⟩, e2⟩ : ∃ L, normS (takenL a ++ takenL b) = L := ⟨_, rfl⟩
  obtain ⟨⟨LL, EL⟩, e3⟩ : ∃ L, lessS a b = L := ⟨_, rfl⟩
  obtain ⟨LC, e4⟩ : ∃ L, cutL (takenL a) lo hi = L := ⟨_, rfl⟩
  obtain ⟨LW, e5⟩ : ∃ L, withoutS a lo = L := ⟨_, rfl⟩
  obtain ⟨LN, e6⟩ : ∃ L, (fitL (restL (-1000000) (takenL a))).1 = L := ⟨_, rfl⟩
  have z1 := bothS_le a b; have z2 := normS_le (takenL a ++ takenL b); have z3 : (lessS a b).1.length ≤ 4096 := fitL_le _; have z4 := cutL_len (takenL a) lo hi; have z5 := withoutS_le a lo; have z6 := fitL_le (restL (-1000000) (takenL a))
  have z7 := right_le (takenL_right a)
  rw [e1] at KBO KBR z1; rw [e2] at KEI KER z2; rw [e3] at KLE KLR z3; rw [e4] at KCU KCR z4; rw [e5] at KWO KWX z5; rw [e6] at KNO KNR z6
  dsimp only at KEI KER KLE KLR z2 z3
  have z8 : LC.length ≤ 4096 := by omega
  clear hd h0 h1 K1 K2 K3 K4 e1 e2 e3 e4 e5 e6 z4 z7
  go_enter Tryz.func7, Tryz.ntmps7
  go_wp2_with fail
  refine (Lent_ref a _ H0.out ha).mono ?_
  rintro e w1 ⟨x1, rfl, hX, hb1⟩
  replace HD := Lib.hid (HD.out.below hb1)
  replace H0 := Lib.hid (H0.out.below hb1)
  replace H1 := Lib.hid (H1.out.below hb1)
  have HB1 := Lib.hid hb1
  have Z1 := Lib.hid hb1.size
  have HX := Lib.hid hX
  clear hb1 hX
  go_wp2_with fail
  refine (Lent_ref b _ H1.out hb).mono ?_
  rintro e w2 ⟨x2, rfl, hY, hb2⟩
  replace HD := Lib.hid (HD.out.below hb2)
  replace H0 := Lib.hid (H0.out.below hb2)
  replace H1 := Lib.hid (H1.out.below hb2)
  replace HX := Lib.hid (HX.out.below hb2)
  have HB2 := Lib.hid (below_step HB1.out hb2)
  have Z2 := Lib.hid hb2.size
  have HY := Lib.hid hY
  clear hb2 hY
  go_wp2_with fail
  have SNAP := Lib.hid (fun (W : World) (hb : Below w2.heap.size w2 W) => And.intro (HD.out.below hb) (And.intro (H0.out.below hb) (And.intro (H1.out.below hb) (And.intro (HX.out.below hb) (HY.out.below hb)))))
  have HCH := Lib.hid (Below.refl w2.heap.size w2)
  refine (KBO.out _ _ _ HX.out.lst HY.out.lst).mono ?_
  rintro e w3 ⟨x3, rfl, hC, hb3⟩
  replace HD := Lib.hid (HD.out.below hb3)
  replace H0 := Lib.hid (H0.out.below hb3)
  replace H1 := Lib.hid (H1.out.below hb3)
  replace HX := Lib.hid (HX.out.below hb3)
  replace HY := Lib.hid (HY.out.below hb3)
  replace HCH := Lib.hid (below_step HCH.out hb3)
  have HB3 := Lib.hid (below_step HB2.out hb3)
  have Z3 := Lib.hid hb3.size
  have LTHC := Lib.hid (RowC.lt (hC.cut))
  have HC := Lib.hid hC.cut
  clear hb3 hC
  go_wp2_with fail
  refine (KEI.out _ _ _ HX.out.lst HY.out.lst).mono ?_
  rintro e w4 ⟨x4, rfl, hE, hb4⟩
  replace HD := Lib.hid (HD.out.below hb4)
  replace H0 := Lib.hid (H0.out.below hb4)
  replace H1 := Lib.hid (H1.out.below hb4)
  replace HX := Lib.hid (HX.out.below hb4)
  replace HY := Lib.hid (HY.out.below hb4)
  replace HC := Lib.hid (HC.out.below hb4)
  replace HCH := Lib.hid (below_step HCH.out hb4)
  have HB4 := Lib.hid (below_step HB3.out hb4)
  have Z4 := Lib.hid hb4.size
  have LTHE := Lib.hid (hE.lt)
  have HE := Lib.hid hE
  clear hb4 hE
  go_wp2_with fail
  refine (KER.out _ _ _ H0.out H1.out).mono ?_
  rintro e w5 ⟨x5, rfl, hF, hb5⟩
  replace HD := Lib.hid (HD.out.below hb5)
  replace H0 := Lib.hid (H0.out.below hb5)
  replace H1 := Lib.hid (H1.out.below hb5)
  replace HX := Lib.hid (HX.out.below hb5)
  replace HY := Lib.hid (HY.out.below hb5)
  replace HC := Lib.hid (HC.out.below hb5)
  replace HE := Lib.hid (HE.out.below hb5)
  replace HCH := Lib.hid (below_step HCH.out hb5)
  have HB5 := Lib.hid (below_step HB4.out hb5)
  have Z5 := Lib.hid hb5.size
  have HF := Lib.hid hF
  clear hb5 hF
  go_wp2_with fail
  refine (KLE.out _ _ _ HX.out.lst HY.out.lst).mono ?_
  rintro e w6 ⟨x6, rfl, hG, hb6⟩
  replace HD := Lib.hid (HD.out.below hb6)
  replace H0 := Lib.hid (H0.out.below hb6)
  replace H1 := Lib.hid (H1.out.below hb6)
  replace HX := Lib.hid (HX.out.below hb6)
  replace HY := Lib.hid (HY.out.below hb6)
  replace HC := Lib.hid (HC.out.below hb6)
  replace HE := Lib.hid (HE.out.below hb6)
  replace HF := Lib.hid (HF.out.below hb6)
  replace HCH := Lib.hid (below_step HCH.out hb6)
  have HB6 := Lib.hid (below_step HB5.out hb6)
  have Z6 := Lib.hid hb6.size
  have LTHG := Lib.hid (RowC.lt (hG.cut))
  have HG := Lib.hid hG.cut
  clear hb6 hG
  go_wp2_with fail
  refine (KLR.out _ _ _ H0.out H1.out).mono ?_
  rintro e w7 ⟨x7, rfl, hJ, hb7⟩
  replace HD := Lib.hid (HD.out.below hb7)
  replace H0 := Lib.hid (H0.out.below hb7)
  replace H1 := Lib.hid (H1.out.below hb7)
  replace HX := Lib.hid (HX.out.below hb7)
  replace HY := Lib.hid (HY.out.below hb7)
  replace HC := Lib.hid (HC.out.below hb7)
  replace HE := Lib.hid (HE.out.below hb7)
  replace HF := Lib.hid (HF.out.below hb7)
  replace HG := Lib.hid (HG.out.below hb7)
  replace HCH := Lib.hid (below_step HCH.out hb7)
  have HB7 := Lib.hid (below_step HB6.out hb7)
  have Z7 := Lib.hid hb7.size
  have HJ := Lib.hid hJ
  clear hb7 hJ
  go_wp2_with fail
  refine (KCU.out _ _ HX.out.lst).mono ?_
  rintro e w8 ⟨x8, rfl, hL, hb8⟩
  replace HD := Lib.hid (HD.out.below hb8)
  replace H0 := Lib.hid (H0.out.below hb8)
  replace H1 := Lib.hid (H1.out.below hb8)
  replace HX := Lib.hid (HX.out.below hb8)
  replace HY := Lib.hid (HY.out.below hb8)
  replace HC := Lib.hid (HC.out.below hb8)
  replace HE := Lib.hid (HE.out.below hb8)
  replace HF := Lib.hid (HF.out.below hb8)
  replace HG := Lib.hid (HG.out.below hb8)
  replace HJ := Lib.hid (HJ.out.below hb8)
  replace HCH := Lib.hid (below_step HCH.out hb8)
  have HB8 := Lib.hid (below_step HB7.out hb8)
  have Z8 := Lib.hid hb8.size
  have LTHL := Lib.hid (RowC.lt (hL.cut))
  have HL := Lib.hid hL.cut
  clear hb8 hL
  go_wp2_with fail
  refine (KWO.out _ _ HX.out.lst).mono ?_
  rintro e w9 ⟨x9, rfl, hM, hb9⟩
  replace HD := Lib.hid (HD.out.below hb9)
  replace H0 := Lib.hid (H0.out.below hb9)
  replace H1 := Lib.hid (H1.out.below hb9)
  replace HX := Lib.hid (HX.out.below hb9)
  replace HY := Lib.hid (HY.out.below hb9)
  replace HC := Lib.hid (HC.out.below hb9)
  replace HE := Lib.hid (HE.out.below hb9)
  replace HF := Lib.hid (HF.out.below hb9)
  replace HG := Lib.hid (HG.out.below hb9)
  replace HJ := Lib.hid (HJ.out.below hb9)
  replace HL := Lib.hid (HL.out.below hb9)
  replace HCH := Lib.hid (below_step HCH.out hb9)
  have HB9 := Lib.hid (below_step HB8.out hb9)
  have Z9 := Lib.hid hb9.size
  have LTHM := Lib.hid (RowC.lt (hM.cut))
  have HM := Lib.hid hM.cut
  clear hb9 hM
  go_wp2_with fail
  refine (KNO.out _ _ HX.out.lst).mono ?_
  rintro e w10 ⟨x10, rfl, hN, hb10⟩
  replace HD := Lib.hid (HD.out.below hb10)
  replace H0 := Lib.hid (H0.out.below hb10)
  replace H1 := Lib.hid (H1.out.below hb10)
  replace HX := Lib.hid (HX.out.below hb10)
  replace HY := Lib.hid (HY.out.below hb10)
  replace HC := Lib.hid (HC.out.below hb10)
  replace HE := Lib.hid (HE.out.below hb10)
  replace HF := Lib.hid (HF.out.below hb10)
  replace HG := Lib.hid (HG.out.below hb10)
  replace HJ := Lib.hid (HJ.out.below hb10)
  replace HL := Lib.hid (HL.out.below hb10)
  replace HM := Lib.hid (HM.out.below hb10)
  replace HCH := Lib.hid (below_step HCH.out hb10)
  have HB10 := Lib.hid (below_step HB9.out hb10)
  have Z10 := Lib.hid hb10.size
  have LTHN := Lib.hid (RowC.lt (hN.cut))
  have HN := Lib.hid hN.cut
  clear hb10 hN
  go_wp2_with fail
  refine (KBR.out _ _ _ H0.out H1.out).mono ?_
  rintro e w11 ⟨x11, rfl, hP, hb11⟩
  replace HD := Lib.hid (HD.out.below hb11)
  replace H0 := Lib.hid (H0.out.below hb11)
  replace H1 := Lib.hid (H1.out.below hb11)
  replace HX := Lib.hid (HX.out.below hb11)
  replace HY := Lib.hid (HY.out.below hb11)
  replace HC := Lib.hid (HC.out.below hb11)
  replace HE := Lib.hid (HE.out.below hb11)
  replace HF := Lib.hid (HF.out.below hb11)
  replace HG := Lib.hid (HG.out.below hb11)
  replace HJ := Lib.hid (HJ.out.below hb11)
  replace HL := Lib.hid (HL.out.below hb11)
  replace HM := Lib.hid (HM.out.below hb11)
  replace HN := Lib.hid (HN.out.below hb11)
  replace HCH := Lib.hid (below_step HCH.out hb11)
  have HB11 := Lib.hid (below_step HB10.out hb11)
  have Z11 := Lib.hid hb11.size
  have HP := Lib.hid hP
  clear hb11 hP
  go_wp2_with fail
  refine (alike_eq _ _ HC.out.lst HP.out.lst z1).mono ?_
  rintro e w12 ⟨rfl, hb12⟩
  replace HD := Lib.hid (HD.out.below hb12)
  replace H0 := Lib.hid (H0.out.below hb12)
  replace H1 := Lib.hid (H1.out.below hb12)
  replace HX := Lib.hid (HX.out.below hb12)
  replace HY := Lib.hid (HY.out.below hb12)
  replace HC := Lib.hid (HC.out.below hb12)
  replace HE := Lib.hid (HE.out.below hb12)
  replace HF := Lib.hid (HF.out.below hb12)
  replace HG := Lib.hid (HG.out.below hb12)
  replace HJ := Lib.hid (HJ.out.below hb12)
  replace HL := Lib.hid (HL.out.below hb12)
  replace HM := Lib.hid (HM.out.below hb12)
  replace HN := Lib.hid (HN.out.below hb12)
  replace HP := Lib.hid (HP.out.below hb12)
  replace HCH := Lib.hid (below_step HCH.out hb12)
  have HB12 := Lib.hid (below_step HB11.out hb12)
  have Z12 := Lib.hid hb12.size
  clear hb12
  go_wp2_with fail
  refine (alike_eq _ _ HE.out.lst HF.out.lst z2).mono ?_
  rintro e w13 ⟨rfl, hb13⟩
  replace HD := Lib.hid (HD.out.below hb13)
  replace H0 := Lib.hid (H0.out.below hb13)
  replace H1 := Lib.hid (H1.out.below hb13)
  replace HX := Lib.hid (HX.out.below hb13)
  replace HY := Lib.hid (HY.out.below hb13)
  replace HC := Lib.hid (HC.out.below hb13)
  replace HE := Lib.hid (HE.out.below hb13)
  replace HF := Lib.hid (HF.out.below hb13)
  replace HG := Lib.hid (HG.out.below hb13)
  replace HJ := Lib.hid (HJ.out.below hb13)
  replace HL := Lib.hid (HL.out.below hb13)
  replace HM := Lib.hid (HM.out.below hb13)
  replace HN := Lib.hid (HN.out.below hb13)
  replace HP := Lib.hid (HP.out.below hb13)
  replace HCH := Lib.hid (below_step HCH.out hb13)
  have HB13 := Lib.hid (below_step HB12.out hb13)
  have Z13 := Lib.hid hb13.size
  clear hb13
  go_wp2_with fail
  refine (alike_eq _ _ HG.out.lst HJ.out.lst z3).mono ?_
  rintro e w14 ⟨rfl, hb14⟩
  replace HD := Lib.hid (HD.out.below hb14)
  replace H0 := Lib.hid (H0.out.below hb14)
  replace H1 := Lib.hid (H1.out.below hb14)
  replace HX := Lib.hid (HX.out.below hb14)
  replace HY := Lib.hid (HY.out.below hb14)
  replace HC := Lib.hid (HC.out.below hb14)
  replace HE := Lib.hid (HE.out.below hb14)
  replace HF := Lib.hid (HF.out.below hb14)
  replace HG := Lib.hid (HG.out.below hb14)
  replace HJ := Lib.hid (HJ.out.below hb14)
  replace HL := Lib.hid (HL.out.below hb14)
  replace HM := Lib.hid (HM.out.below hb14)
  replace HN := Lib.hid (HN.out.below hb14)
  replace HP := Lib.hid (HP.out.below hb14)
  replace HCH := Lib.hid (below_step HCH.out hb14)
  have HB14 := Lib.hid (below_step HB13.out hb14)
  have Z14 := Lib.hid hb14.size
  clear hb14
  go_wp2_with fail
  refine (KCR.out _ _ H0.out).mono ?_
  rintro e w15 ⟨x12, rfl, hQ, hb15⟩
  replace HD := Lib.hid (HD.out.below hb15)
  replace H0 := Lib.hid (H0.out.below hb15)
  replace H1 := Lib.hid (H1.out.below hb15)
  replace HX := Lib.hid (HX.out.below hb15)
  replace HY := Lib.hid (HY.out.below hb15)
  replace HC := Lib.hid (HC.out.below hb15)
  replace HE := Lib.hid (HE.out.below hb15)
  replace HF := Lib.hid (HF.out.below hb15)
  replace HG := Lib.hid (HG.out.below hb15)
  replace HJ := Lib.hid (HJ.out.below hb15)
  replace HL := Lib.hid (HL.out.below hb15)
  replace HM := Lib.hid (HM.out.below hb15)
  replace HN := Lib.hid (HN.out.below hb15)
  replace HP := Lib.hid (HP.out.below hb15)
  replace HCH := Lib.hid (below_step HCH.out hb15)
  have HB15 := Lib.hid (below_step HB14.out hb15)
  have Z15 := Lib.hid hb15.size
  have HQ := Lib.hid hQ
  clear hb15 hQ
  go_wp2_with fail
  refine (alike_eq _ _ HL.out.lst HQ.out.lst z8).mono ?_
  rintro e w16 ⟨rfl, hb16⟩
  replace HD := Lib.hid (HD.out.below hb16)
  replace H0 := Lib.hid (H0.out.below hb16)
  replace H1 := Lib.hid (H1.out.below hb16)
  replace HX := Lib.hid (HX.out.below hb16)
  replace HY := Lib.hid (HY.out.below hb16)
  replace HC := Lib.hid (HC.out.below hb16)
  replace HE := Lib.hid (HE.out.below hb16)
  replace HF := Lib.hid (HF.out.below hb16)
  replace HG := Lib.hid (HG.out.below hb16)
  replace HJ := Lib.hid (HJ.out.below hb16)
  replace HL := Lib.hid (HL.out.below hb16)
  replace HM := Lib.hid (HM.out.below hb16)
  replace HN := Lib.hid (HN.out.below hb16)
  replace HP := Lib.hid (HP.out.below hb16)
  replace HQ := Lib.hid (HQ.out.below hb16)
  replace HCH := Lib.hid (below_step HCH.out hb16)
  have HB16 := Lib.hid (below_step HB15.out hb16)
  have Z16 := Lib.hid hb16.size
  clear hb16
  go_wp2_with fail
  refine (KWX.out _ _ H0.out).mono ?_
  rintro e w17 ⟨x13, rfl, hR, hb17⟩
  replace HD := Lib.hid (HD.out.below hb17)
  replace H0 := Lib.hid (H0.out.below hb17)
  replace H1 := Lib.hid (H1.out.below hb17)
  replace HX := Lib.hid (HX.out.below hb17)
  replace HY := Lib.hid (HY.out.below hb17)
  replace HC := Lib.hid (HC.out.below hb17)
  replace HE := Lib.hid (HE.out.below hb17)
  replace HF := Lib.hid (HF.out.below hb17)
  replace HG := Lib.hid (HG.out.below hb17)
  replace HJ := Lib.hid (HJ.out.below hb17)
  replace HL := Lib.hid (HL.out.below hb17)
  replace HM := Lib.hid (HM.out.below hb17)
  replace HN := Lib.hid (HN.out.below hb17)
  replace HP := Lib.hid (HP.out.below hb17)
  replace HQ := Lib.hid (HQ.out.below hb17)
  replace HCH := Lib.hid (below_step HCH.out hb17)
  have HB17 := Lib.hid (below_step HB16.out hb17)
  have Z17 := Lib.hid hb17.size
  have HR := Lib.hid hR
  clear hb17 hR
  go_wp2_with fail
  refine (alike_eq _ _ HM.out.lst HR.out.lst z5).mono ?_
  rintro e w18 ⟨rfl, hb18⟩
  replace HD := Lib.hid (HD.out.below hb18)
  replace H0 := Lib.hid (H0.out.below hb18)
  replace H1 := Lib.hid (H1.out.below hb18)
  replace HX := Lib.hid (HX.out.below hb18)
  replace HY := Lib.hid (HY.out.below hb18)
  replace HC := Lib.hid (HC.out.below hb18)
  replace HE := Lib.hid (HE.out.below hb18)
  replace HF := Lib.hid (HF.out.below hb18)
  replace HG := Lib.hid (HG.out.below hb18)
  replace HJ := Lib.hid (HJ.out.below hb18)
  replace HL := Lib.hid (HL.out.below hb18)
  replace HM := Lib.hid (HM.out.below hb18)
  replace HN := Lib.hid (HN.out.below hb18)
  replace HP := Lib.hid (HP.out.below hb18)
  replace HQ := Lib.hid (HQ.out.below hb18)
  replace HR := Lib.hid (HR.out.below hb18)
  replace HCH := Lib.hid (below_step HCH.out hb18)
  have HB18 := Lib.hid (below_step HB17.out hb18)
  have Z18 := Lib.hid hb18.size
  clear hb18
  go_wp2_with fail
  refine (KNR.out _ _ H0.out).mono ?_
  rintro e w19 ⟨x14, rfl, hS, hb19⟩
  replace HD := Lib.hid (HD.out.below hb19)
  replace H0 := Lib.hid (H0.out.below hb19)
  replace H1 := Lib.hid (H1.out.below hb19)
  replace HX := Lib.hid (HX.out.below hb19)
  replace HY := Lib.hid (HY.out.below hb19)
  replace HC := Lib.hid (HC.out.below hb19)
  replace HE := Lib.hid (HE.out.below hb19)
  replace HF := Lib.hid (HF.out.below hb19)
  replace HG := Lib.hid (HG.out.below hb19)
  replace HJ := Lib.hid (HJ.out.below hb19)
  replace HL := Lib.hid (HL.out.below hb19)
  replace HM := Lib.hid (HM.out.below hb19)
  replace HN := Lib.hid (HN.out.below hb19)
  replace HP := Lib.hid (HP.out.below hb19)
  replace HQ := Lib.hid (HQ.out.below hb19)
  replace HR := Lib.hid (HR.out.below hb19)
  replace HCH := Lib.hid (below_step HCH.out hb19)
  have HB19 := Lib.hid (below_step HB18.out hb19)
  have Z19 := Lib.hid hb19.size
  have HS := Lib.hid hS
  clear hb19 hS
  go_wp2_with fail
  refine (alike_eq _ _ HN.out.lst HS.out.lst z6).mono ?_
  rintro e w20 ⟨rfl, hb20⟩
  replace HD := Lib.hid (HD.out.below hb20)
  replace H0 := Lib.hid (H0.out.below hb20)
  replace H1 := Lib.hid (H1.out.below hb20)
  replace HX := Lib.hid (HX.out.below hb20)
  replace HY := Lib.hid (HY.out.below hb20)
  replace HC := Lib.hid (HC.out.below hb20)
  replace HE := Lib.hid (HE.out.below hb20)
  replace HF := Lib.hid (HF.out.below hb20)
  replace HG := Lib.hid (HG.out.below hb20)
  replace HJ := Lib.hid (HJ.out.below hb20)
  replace HL := Lib.hid (HL.out.below hb20)
  replace HM := Lib.hid (HM.out.below hb20)
  replace HN := Lib.hid (HN.out.below hb20)
  replace HP := Lib.hid (HP.out.below hb20)
  replace HQ := Lib.hid (HQ.out.below hb20)
  replace HR := Lib.hid (HR.out.below hb20)
  replace HS := Lib.hid (HS.out.below hb20)
  replace HCH := Lib.hid (below_step HCH.out hb20)
  have HB20 := Lib.hid (below_step HB19.out hb20)
  have Z20 := Lib.hid hb20.size
  clear hb20
  go_wp2_with fail
  clear HP HQ HR HS HF HJ HX HY HD H0 H1
  refine (SpoilG_ref _ _ _ HC.out (by omega)).mono ?_
  rintro e w21 ⟨rfl, hg⟩
  replace HCH := Lib.hid (HCH.out.grown hg HCH.out.size (fun k hk => by have := (HC.out.lt k hk).1; have := Z3.out; have := Z4.out; have := Z5.out; have := Z6.out; have := Z7.out; have := Z8.out; have := Z9.out; have := Z10.out; have := Z11.out; have := Z12.out; have := Z13.out; have := Z14.out; have := Z15.out; have := Z16.out; have := Z17.out; have := Z18.out; have := Z19.out; have := Z20.out; omega))
  replace HE := Lib.hid (HE.out.grown hg (fun k hk => by have := LTHC.out k hk; have := Z3.out; have := Z4.out; have := Z5.out; have := Z6.out; have := Z7.out; have := Z8.out; have := Z9.out; have := Z10.out; have := Z11.out; have := Z12.out; have := Z13.out; have := Z14.out; have := Z15.out; have := Z16.out; have := Z17.out; have := Z18.out; have := Z19.out; have := Z20.out; omega))
  replace HG := Lib.hid (HG.out.grown hg (fun k hk => by have := LTHC.out k hk; have := Z3.out; have := Z4.out; have := Z5.out; have := Z6.out; have := Z7.out; have := Z8.out; have := Z9.out; have := Z10.out; have := Z11.out; have := Z12.out; have := Z13.out; have := Z14.out; have := Z15.out; have := Z16.out; have := Z17.out; have := Z18.out; have := Z19.out; have := Z20.out; omega))
  replace HL := Lib.hid (HL.out.grown hg (fun k hk => by have := LTHC.out k hk; have := Z3.out; have := Z4.out; have := Z5.out; have := Z6.out; have := Z7.out; have := Z8.out; have := Z9.out; have := Z10.out; have := Z11.out; have := Z12.out; have := Z13.out; have := Z14.out; have := Z15.out; have := Z16.out; have := Z17.out; have := Z18.out; have := Z19.out; have := Z20.out; omega))
  replace HM := Lib.hid (HM.out.grown hg (fun k hk => by have := LTHC.out k hk; have := Z3.out; have := Z4.out; have := Z5.out; have := Z6.out; have := Z7.out; have := Z8.out; have := Z9.out; have := Z10.out; have := Z11.out; have := Z12.out; have := Z13.out; have := Z14.out; have := Z15.out; have := Z16.out; have := Z17.out; have := Z18.out; have := Z19.out; have := Z20.out; omega))
  replace HN := Lib.hid (HN.out.grown hg (fun k hk => by have := LTHC.out k hk; have := Z3.out; have := Z4.out; have := Z5.out; have := Z6.out; have := Z7.out; have := Z8.out; have := Z9.out; have := Z10.out; have := Z11.out; have := Z12.out; have := Z13.out; have := Z14.out; have := Z15.out; have := Z16.out; have := Z17.out; have := Z18.out; have := Z19.out; have := Z20.out; omega))
  clear hg HC
  go_wp2_with fail
  refine (SpoilG_ref _ _ _ HE.out (by omega)).mono ?_
  rintro e w22 ⟨rfl, hg⟩
  replace HCH := Lib.hid (HCH.out.grown hg HCH.out.size (fun k hk => by have := (HE.out.lt k hk).1; have := Z3.out; have := Z4.out; have := Z5.out; have := Z6.out; have := Z7.out; have := Z8.out; have := Z9.out; have := Z10.out; have := Z11.out; have := Z12.out; have := Z13.out; have := Z14.out; have := Z15.out; have := Z16.out; have := Z17.out; have := Z18.out; have := Z19.out; have := Z20.out; omega))
  replace HG := Lib.hid (HG.out.grown hg (fun k hk => by have := LTHE.out k hk; have := Z3.out; have := Z4.out; have := Z5.out; have := Z6.out; have := Z7.out; have := Z8.out; have := Z9.out; have := Z10.out; have := Z11.out; have := Z12.out; have := Z13.out; have := Z14.out; have := Z15.out; have := Z16.out; have := Z17.out; have := Z18.out; have := Z19.out; have := Z20.out; omega))
  replace HL := Lib.hid (HL.out.grown hg (fun k hk => by have := LTHE.out k hk; have := Z3.out; have := Z4.out; have := Z5.out; have := Z6.out; have := Z7.out; have := Z8.out; have := Z9.out; have := Z10.out; have := Z11.out; have := Z12.out; have := Z13.out; have := Z14.out; have := Z15.out; have := Z16.out; have := Z17.out; have := Z18.out; have := Z19.out; have := Z20.out; omega))
  replace HM := Lib.hid (HM.out.grown hg (fun k hk => by have := LTHE.out k hk; have := Z3.out; have := Z4.out; have := Z5.out; have := Z6.out; have := Z7.out; have := Z8.out; have := Z9.out; have := Z10.out; have := Z11.out; have := Z12.out; have := Z13.out; have := Z14.out; have := Z15.out; have := Z16.out; have := Z17.out; have := Z18.out; have := Z19.out; have := Z20.out; omega))
  replace HN := Lib.hid (HN.out.grown hg (fun k hk => by have := LTHE.out k hk; have := Z3.out; have := Z4.out; have := Z5.out; have := Z6.out; have := Z7.out; have := Z8.out; have := Z9.out; have := Z10.out; have := Z11.out; have := Z12.out; have := Z13.out; have := Z14.out; have := Z15.out; have := Z16.out; have := Z17.out; have := Z18.out; have := Z19.out; have := Z20.out; omega))
  clear hg HE
  go_wp2_with fail
  refine (SpoilG_ref _ _ _ HG.out (by omega)).mono ?_
  rintro e w23 ⟨rfl, hg⟩
  replace HCH := Lib.hid (HCH.out.grown hg HCH.out.size (fun k hk => by have := (HG.out.lt k hk).1; have := Z3.out; have := Z4.out; have := Z5.out; have := Z6.out; have := Z7.out; have := Z8.out; have := Z9.out; have := Z10.out; have := Z11.out; have := Z12.out; have := Z13.out; have := Z14.out; have := Z15.out; have := Z16.out; have := Z17.out; have := Z18.out; have := Z19.out; have := Z20.out; omega))
  replace HL := Lib.hid (HL.out.grown hg (fun k hk => by have := LTHG.out k hk; have := Z3.out; have := Z4.out; have := Z5.out; have := Z6.out; have := Z7.out; have := Z8.out; have := Z9.out; have := Z10.out; have := Z11.out; have := Z12.out; have := Z13.out; have := Z14.out; have := Z15.out; have := Z16.out; have := Z17.out; have := Z18.out; have := Z19.out; have := Z20.out; omega))
  replace HM := Lib.hid (HM.out.grown hg (fun k hk => by have := LTHG.out k hk; have := Z3.out; have := Z4.out; have := Z5.out; have := Z6.out; have := Z7.out; have := Z8.out; have := Z9.out; have := Z10.out; have := Z11.out; have := Z12.out; have := Z13.out; have := Z14.out; have := Z15.out; have := Z16.out; have := Z17.out; have := Z18.out; have := Z19.out; have := Z20.out; omega))
  replace HN := Lib.hid (HN.out.grown hg (fun k hk => by have := LTHG.out k hk; have := Z3.out; have := Z4.out; have := Z5.out; have := Z6.out; have := Z7.out; have := Z8.out; have := Z9.out; have := Z10.out; have := Z11.out; have := Z12.out; have := Z13.out; have := Z14.out; have := Z15.out; have := Z16.out; have := Z17.out; have := Z18.out; have := Z19.out; have := Z20.out; omega))
  clear hg HG
  go_wp2_with fail
  refine (SpoilG_ref _ _ _ HL.out (by omega)).mono ?_
  rintro e w24 ⟨rfl, hg⟩
  replace HCH := Lib.hid (HCH.out.grown hg HCH.out.size (fun k hk => by have := (HL.out.lt k hk).1; have := Z3.out; have := Z4.out; have := Z5.out; have := Z6.out; have := Z7.out; have := Z8.out; have := Z9.out; have := Z10.out; have := Z11.out; have := Z12.out; have := Z13.out; have := Z14.out; have := Z15.out; have := Z16.out; have := Z17.out; have := Z18.out; have := Z19.out; have := Z20.out; omega))
  replace HM := Lib.hid (HM.out.grown hg (fun k hk => by have := LTHL.out k hk; have := Z3.out; have := Z4.out; have := Z5.out; have := Z6.out; have := Z7.out; have := Z8.out; have := Z9.out; have := Z10.out; have := Z11.out; have := Z12.out; have := Z13.out; have := Z14.out; have := Z15.out; have := Z16.out; have := Z17.out; have := Z18.out; have := Z19.out; have := Z20.out; omega))
  replace HN := Lib.hid (HN.out.grown hg (fun k hk => by have := LTHL.out k hk; have := Z3.out; have := Z4.out; have := Z5.out; have := Z6.out; have := Z7.out; have := Z8.out; have := Z9.out; have := Z10.out; have := Z11.out; have := Z12.out; have := Z13.out; have := Z14.out; have := Z15.out; have := Z16.out; have := Z17.out; have := Z18.out; have := Z19.out; have := Z20.out; omega))
  clear hg HL
  go_wp2_with fail
  refine (SpoilG_ref _ _ _ HM.out (by omega)).mono ?_
  rintro e w25 ⟨rfl, hg⟩
  replace HCH := Lib.hid (HCH.out.grown hg HCH.out.size (fun k hk => by have := (HM.out.lt k hk).1; have := Z3.out; have := Z4.out; have := Z5.out; have := Z6.out; have := Z7.out; have := Z8.out; have := Z9.out; have := Z10.out; have := Z11.out; have := Z12.out; have := Z13.out; have := Z14.out; have := Z15.out; have := Z16.out; have := Z17.out; have := Z18.out; have := Z19.out; have := Z20.out; omega))
  replace HN := Lib.hid (HN.out.grown hg (fun k hk => by have := LTHM.out k hk; have := Z3.out; have := Z4.out; have := Z5.out; have := Z6.out; have := Z7.out; have := Z8.out; have := Z9.out; have := Z10.out; have := Z11.out; have := Z12.out; have := Z13.out; have := Z14.out; have := Z15.out; have := Z16.out; have := Z17.out; have := Z18.out; have := Z19.out; have := Z20.out; omega))
  clear hg HM
  go_wp2_with fail
  refine (SpoilG_ref _ _ _ HN.out (by omega)).mono ?_
  rintro e w26 ⟨rfl, hg⟩
  replace HCH := Lib.hid (HCH.out.grown hg HCH.out.size (fun k hk => by have := (HN.out.lt k hk).1; have := Z3.out; have := Z4.out; have := Z5.out; have := Z6.out; have := Z7.out; have := Z8.out; have := Z9.out; have := Z10.out; have := Z11.out; have := Z12.out; have := Z13.out; have := Z14.out; have := Z15.out; have := Z16.out; have := Z17.out; have := Z18.out; have := Z19.out; have := Z20.out; omega))
  clear hg HN
  go_wp2_with fail
  obtain ⟨s1, s2, s3, s4, s5⟩ := SNAP.out _ HCH.out
  have GD := Lib.hid s1; have G0 := Lib.hid s2; have G1 := Lib.hid s3; have GX := Lib.hid s4; have GY := Lib.hid s5
  clear s1 s2 s3 s4 s5 SNAP
  have HBS := Lib.hid (below_step HB2.out HCH.out)
  refine (KSM.out _ _ _ GX.out.lst GY.out.lst).mono ?_
  rintro e w27 ⟨rfl, hb27⟩
  replace GD := Lib.hid (GD.out.below hb27)
  replace G0 := Lib.hid (G0.out.below hb27)
  replace G1 := Lib.hid (G1.out.below hb27)
  replace GX := Lib.hid (GX.out.below hb27)
  replace GY := Lib.hid (GY.out.below hb27)
  have HB27 := Lib.hid (below_step HBS.out hb27)
  clear hb27
  go_wp2_with fail
  refine (KSR.out _ _ _ G0.out G1.out).mono ?_
  rintro e w28 ⟨rfl, hb28⟩
  replace GD := Lib.hid (GD.out.below hb28)
  replace G0 := Lib.hid (G0.out.below hb28)
  replace G1 := Lib.hid (G1.out.below hb28)
  replace GX := Lib.hid (GX.out.below hb28)
  replace GY := Lib.hid (GY.out.below hb28)
  have HB28 := Lib.hid (below_step HB27.out hb28)
  clear hb28
  go_wp2_with fail
  refine (KWI.out _ _ _ GX.out.lst GY.out.lst).mono ?_
  rintro e w29 ⟨rfl, hb29⟩
  replace GD := Lib.hid (GD.out.below hb29)
  replace G0 := Lib.hid (G0.out.below hb29)
  replace G1 := Lib.hid (G1.out.below hb29)
  replace GX := Lib.hid (GX.out.below hb29)
  replace GY := Lib.hid (GY.out.below hb29)
  have HB29 := Lib.hid (below_step HB28.out hb29)
  clear hb29
  go_wp2_with fail
  refine (KWR.out _ _ _ G0.out G1.out).mono ?_
  rintro e w30 ⟨rfl, hb30⟩
  replace GD := Lib.hid (GD.out.below hb30)
  replace G0 := Lib.hid (G0.out.below hb30)
  replace G1 := Lib.hid (G1.out.below hb30)
  replace GX := Lib.hid (GX.out.below hb30)
  replace GY := Lib.hid (GY.out.below hb30)
  have HB30 := Lib.hid (below_step HB29.out hb30)
  clear hb30
  go_wp2_with fail
  refine (Kept_ref a _ GX.out G0.out ha).mono ?_
  rintro e w31 ⟨rfl, hb31⟩
  replace GD := Lib.hid (GD.out.below hb31)
  replace G0 := Lib.hid (G0.out.below hb31)
  replace G1 := Lib.hid (G1.out.below hb31)
  replace GX := Lib.hid (GX.out.below hb31)
  replace GY := Lib.hid (GY.out.below hb31)
  have HB31 := Lib.hid (below_step HB30.out hb31)
  clear hb31
  go_wp2_with fail
  refine (Kept_ref b _ GY.out G1.out hb).mono ?_
  rintro e w32 ⟨rfl, hb32⟩
  replace GD := Lib.hid (GD.out.below hb32)
  replace G0 := Lib.hid (G0.out.below hb32)
  replace G1 := Lib.hid (G1.out.below hb32)
  replace GX := Lib.hid (GX.out.below hb32)
  replace GY := Lib.hid (GY.out.below hb32)
  have HB32 := Lib.hid (below_step HB31.out hb32)
  clear hb32
  go_wp2_with fail
  refine (known_calls _ GD.out).mono ?_
  rintro e w33 ⟨rfl, hb33⟩
  replace GD := Lib.hid (GD.out.below hb33)
  replace G0 := Lib.hid (G0.out.below hb33)
  replace G1 := Lib.hid (G1.out.below hb33)
  replace GX := Lib.hid (GX.out.below hb33)
  replace GY := Lib.hid (GY.out.below hb33)
  have HB33 := Lib.hid (below_step HB32.out hb33)
  clear hb33
  go_wp2_with fail
  go_ret
  exact ⟨rfl, HB33.out⟩

end Go.Proofs.YtnfdppkbbfdmnaaGreatDoor.PD
