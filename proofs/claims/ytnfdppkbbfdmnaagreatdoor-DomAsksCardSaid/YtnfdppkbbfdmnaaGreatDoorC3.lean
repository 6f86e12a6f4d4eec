/- Parts of the laws of dom: functions of the program, each with the proof of what it answers; the conditions are those of each theorem. -/
import Derived.Test.YtnfdppkbbfdmnaaGreatDoorC2
import Derived.Lib.LazyBuf
import Derived.Deep.RegionHeld3
import Derived.Deep.DeepCutAuto
import Derived.Test.YtnfdppkbbfdmnaaGreatDoorC1
namespace Go.Proofs.YtnfdppkbbfdmnaaGreatDoor.PD
open Go.RowKit Go.Proofs.YtnfdppkbbfdmnaaGreatDoorW.PrintWords Go.Proofs.YtnfdppkbbfdmnaaGreatDoorW.PrintLast Go.Proofs.YtnfdppkbbfdmnaaGreatDoorW.PrintMore
set_option linter.unusedVariables false
set_option linter.unusedSimpArgs false
/-! ### Clone -/
theorem C_none {w : World} {n : Nat} {l : List S57} (h : Kd.C k57 w none n l) : l = [] := by
  cases l with
  | nil => rfl
  | cons s t =>
    obtain ⟨ad, e, _⟩ := rng_at h 0 (by simp)
    cases e
set_option maxRecDepth 100000 in
set_option maxHeartbeats 8000000 in
theorem clone_calls {v : Value} (l : List S57) (w : World) (h : Lst w v l) (hn2 : l.length ≤ 100000) :
    Calls Tryz.prog 72 #[v] w fun e w' => ∃ v', e = .returned v' ∧ Row w' w.heap.size v' l ∧ Below w.heap.size w w' := by
  obtain ⟨A, c, rfl, hC, hc⟩ := h
  have hu := Tryz.underlying23
  cases A with
  | none =>
    have h0 := C_none hC
    subst h0
    clear hC hc
    go_enter Tryz.func72, Tryz.ntmps72
    go_wp2_with fail
    rw [run_eql_slice_nil _ 23 57 _ _ c hu]
    go_wp2_with fail
    go_ret
    exact ⟨_, rfl, Row.nil _ _, Below.refl _ _⟩
  | some ad =>
    obtain ⟨i, hi1, hz, hs, hby⟩ := info_parts info57
    have hown : (w.alloc (.cells #[] 57)).ownsRow w.heap.size 57 2 (.slice (some ⟨w.heap.size, 0, none⟩) 0 0) 0 [] :=
      ⟨rfl, .inr ⟨w.heap.size, 0, #[], rfl, Nat.le_refl _, World.alloc_heap_new _ _, Nat.le_refl _, by decide, rfl, rfl⟩⟩
    have hC2 : Kd.C k57 (w.alloc (.cells #[] 57)) (some ad) l.length l := Kd.C_below hC ((Below.refl _ _).alloc (Nat.le_refl _) _)
    obtain ⟨news, hreps, hnews⟩ := ReadsRow.inner_ hC2
    have hnf : news = flat57 l := reps_flat57 (fun x cs h => k57_open h) l news hreps
    subst hnf
    have hone := flat57_one l
    have hlen := flat57_len l
    have hml : 0 + l.length ≤ maxLen := by simp only [maxLen]; omega
    have hle : w.heap.size ≤ (w.alloc (.cells #[] 57)).heap.size := by simp
    have hB0 : Below w.heap.size w (w.alloc (.cells #[] 57)) := (Below.refl _ _).alloc (Nat.le_refl _) _
    clear hreps hC hC2
    generalize hm : l.length = m at *
    have HM := Lib.hid hm
    go_enter Tryz.func72, Tryz.ntmps72
    go_wp2_with fail
    rw [run_eql_slice_nil _ 23 57 _ m c hu]
    go_wp2_with ((with_reducible refine gate_dst (N := 7) rfl ?_); refine wpList_append_own _ rfl _ _ 23 rfl w.heap.size 57 i _ 2 16 hu hi1 hz hs hby rfl (by decide) _ 0 [] rfl hown ad m c _ rfl hlen hnews hone hml (by omega) hle ?_; intro v' w' hown' hg hnil)
    go_ret
    have hb := hB0.grown hg hle (fun k hk => by cases hk; exact Nat.le_refl _)
    refine ⟨v', rfl, ?_, hb⟩
    unfold Row
    rw [HM.out]
    rw [Nat.zero_add, List.nil_append] at hown'
    exact hown'
/-! ### rest -/
def restL : Int → List S57 → List S57
  | f, [] => some1 ⟨f, 1000000⟩
  | f, r :: t => some1 ⟨f, r.f0 - 1⟩ ++ restL (r.f1 + 1) t
theorem grown_tmp {wr w5 : World} {base : Nat} {v : Value} {out : List S57} {o p : Obj} (h : Row wr base v out) (hg : ((wr.alloc o).alloc p).grownBy w5 v.ownBlock) : w5.heap[wr.heap.size]? = some o := by
  refine (hg.block wr.heap.size (by simp; omega) (fun e => ?_)).trans ((Below.heap_alloc _ _ _ (by simp)).trans (World.alloc_heap_new _ _))
  have := own_lt h _ e.symm
  omega
def restX : Int → List S57 → List S57
  | _, [] => []
  | f, r :: t => some1 ⟨f, r.f0 - 1⟩ ++ restX (r.f1 + 1) t
def lastR : S57 := ⟨1000001, 1000001⟩
theorem restX_is : ∀ (l : List S57) (f : Int), restX f (l ++ [lastR]) = restL f l
  | [], f => by
    show some1 ⟨f, 1000001 - 1⟩ ++ [] = some1 ⟨f, 1000000⟩
    rw [List.append_nil]
    rfl
  | r :: t, f => by
    rw [List.cons_append, restX, restL, restX_is t]
theorem restX_step {l : List S57} {k : Nat} (h : k < l.length) (f : Int) : restX f (l.drop k) = some1 ⟨f, l[k].f0 - 1⟩ ++ restX (l[k].f1 + 1) (l.drop (k + 1)) := by
  rw [List.drop_eq_getElem_cons h, restX]
set_option maxRecDepth 100000 in
set_option maxHeartbeats 8000000 in
theorem rest_calls {v : Value} (l : List S57) (w : World) (h : Lst w v l) (hR : rightS l = true) :
    Calls Tryz.prog 77 #[v] w fun e w' => ∃ v', e = .returned v' ∧ Row w' w.heap.size v' (restL (-1000000) l) ∧ Below w.heap.size w w' := by
  have hlen := right_le hR
  have hmem : ∀ s ∈ l ++ [lastR], -1000000 ≤ s.f0 ∧ s.f0 ≤ 1000001 ∧ -1000000 ≤ s.f1 ∧ s.f1 ≤ 1000001 := by
    intro s hs
    rw [List.mem_append, List.mem_singleton] at hs
    rcases hs with hs | rfl
    · have := right_mem hR s hs; omega
    · unfold lastR; simp
  have HC := Lib.hid (clone_calls l w h (by omega))
  have hX := restX_is l (-1000000)
  obtain ⟨L, hLd⟩ : ∃ L, l ++ [lastR] = L := ⟨_, rfl⟩
  obtain ⟨m, hm⟩ : ∃ m, L.length = m := ⟨_, rfl⟩
  have hm2 : m = l.length + 1 := by rw [← hm, ← hLd]; simp
  rw [hLd] at hX hmem
  have HM := Lib.hid hmem; have HX := Lib.hid hX; have HLD := Lib.hid hLd; have HL := Lib.hid hm
  clear hX hLd hm
  obtain ⟨i0, hi0, hz0, hz1, hz2⟩ := info_parts info57
  obtain ⟨A, c, rfl, _, _⟩ := h
  clear hmem hR
  go_enter Tryz.func77, Tryz.ntmps77
  go_wp2_with fail
  refine HC.out.mono ?_
  rintro e w1 ⟨v1, rfl, hO, hb⟩
  obtain ⟨A1, c1, rfl⟩ := row_form hO
  have HO := Lib.hid hO; have HB := Lib.hid hb
  have hle := hb.size
  clear hO hb HC
  go_wp2_with ((with_reducible refine gate_dst (N := 11) rfl ?_); refine wpList_append_own _ rfl _ _ 23 rfl w.heap.size 57 i0 _ 2 16 Tryz.underlying23 hi0 hz0 hz1 hz2 rfl (by decide) _ _ _ rfl ((Row.own HO.out).alloc _) ⟨_, 0, none⟩ 1 1 [.int .i64 1000001, .int .i64 1000001] rfl rfl (cell_pair_at _ _ (by simp) _ _ _) (by simp [Value.oneCell']) (by simp only [maxLen]; omega) (by omega) (by simp; omega) ?_; intro v' w4 hown' hgrow _; obtain ⟨q1, q2⟩ := HO.out.pushed hown' hgrow (by omega); have hQ1 := Lib.hid q1; have hQ2 := Lib.hid q2; clear hown' hgrow q1 q2; have hL4 : Lst w4 v' L := (by rw [← HLD.out]; exact hQ1.out.lst); obtain ⟨A4, c4, hv4, hC4, hc4⟩ := hL4; rw [HL.out] at hv4 hc4 hC4; subst hv4; have HC4 := Lib.hid hC4; clear hC4 hQ1)
  have hm3 : m ≤ 5000 := by omega
  have hle4 := hQ2.out.size
  go_loopw [3, 4, 13] (fun a f i wr => ∃ (k : Nat) (out : List S57) (g : Int), i = .int .i64 k ∧ f = .int .i64 g ∧ k ≤ m ∧ -1000000 ≤ g ∧ g ≤ 1000002 ∧ out.length ≤ k ∧ Hid (restX (-1000000) L = out ++ restX g (L.drop k)) ∧ Hid (Row wr w4.heap.size a out) ∧ Hid (Below w4.heap.size w4 wr))
    (fun _ _ i _ => m - (intOf i).toNat)
  case atStart => exact ⟨0, [], -1000000, rfl, rfl, Nat.zero_le _, by omega, by omega, Nat.zero_le _, Lib.hid rfl, Lib.hid (Row.nil _ _), Lib.hid (Below.refl _ _)⟩
  case round =>
    obtain ⟨k, out, g, rfl, rfl, hk, hg1, hg2, hol, hN, hO, hB⟩ := hrel
    obtain ⟨A0, c0, rfl⟩ := row_form hO.out
    by_cases hkm : k < m
    · have hkt : k < L.length := by rw [HL.out]; exact hkm
      obtain ⟨ad, hA, x0, x1⟩ := rng_at (Kd.C_below HC4.out hB.out) k hkt
      subst hA
      have hs := HM.out _ (List.getElem_mem hkt)
      have hst := restX_step hkt g
      unfold some1 at hst
      have HST := Lib.hid hst
      clear hst
      generalize L[k].f0 = a at *
      generalize L[k].f1 = b at *
      have hix := fun W => index_at ad m c4 (k : Nat) (by omega) W
      simp only [Int.toNat_natCast] at hix
      have hwa : IntKind.i64.wrap (a - 1) = a - 1 := IntWalk.i64_in _ (by omega)
      have hwb : IntKind.i64.wrap (b + 1) = b + 1 := IntWalk.i64_in _ (by omega)
      have hO1 := Lib.hid (hO.out.below ((Below.refl _ wr).alloc (Nat.le_refl _) (.cells #[.int .i64 a, .int .i64 b] 57)))
      have hsz := hB.out.size
      by_cases hx : g < a
      · have hxb : decide (g < a) = true := decide_eq_true hx
        go_wp2_with ((with_reducible refine gate_dst (N := 28) rfl ?_); refine wpList_append_own _ rfl _ _ 23 rfl w4.heap.size 57 i0 _ 2 16 Tryz.underlying23 hi0 hz0 hz1 hz2 rfl (by decide) _ _ _ rfl ((Row.own hO1.out).alloc _) ⟨_, 0, none⟩ 1 1 [.int .i64 g, .int .i64 (a - 1)] rfl rfl (cell_pair_at _ _ (by simp) _ _ _) (by simp [Value.oneCell']) (by simp only [maxLen]; omega) (by omega) (by simp; omega) ?_; intro v' w5 hown' hgrow _; obtain ⟨q1, q2⟩ := hO1.out.pushed hown' hgrow (by simp; omega); have hP1 := Lib.hid q1; have hP2 := Lib.hid q2; have hd := hgrow.size; have hx1' := (hB.out.alloc hB.out.size (.cells #[.int .i64 a, .int .i64 b] 57)).trans q2; have hcell : w5.cell? ⟨wr.heap.size, 1, none⟩ = some (.int .i64 b) := blk_cell (grown_tmp hO.out hgrow) 1; clear hown' hgrow q1 q2 hd)
        refine ⟨⟨k + 1, out ++ [⟨g, a - 1⟩], b + 1, by rw [Int.natCast_add]; rfl, rfl, by omega, by omega, by omega, by rw [List.length_append, List.length_singleton]; omega, Lib.hid (by rw [hN.out, HST.out, if_pos (by show g ≤ a - 1; omega), List.append_assoc]), hP1, Lib.hid hx1'⟩, by simp [intOf]; omega⟩
      · have hxb : decide (g < a) = false := decide_eq_false hx
        go_wp2_with fail
        refine ⟨⟨k + 1, out, b + 1, by rw [Int.natCast_add]; rfl, rfl, by omega, by omega, by omega, by omega, Lib.hid (by rw [hN.out, HST.out, if_neg (by show ¬ g ≤ a - 1; omega), List.nil_append]), hO1, Lib.hid (hB.out.alloc hB.out.size _)⟩, by simp [intOf]; omega⟩
    · obtain rfl : k = m := by omega
      have hend : L.drop k = [] := List.drop_of_length_le (by rw [HL.out]; exact Nat.le_refl _)
      have HE := Lib.hid hend
      clear hend
      go_wp2_with fail
      go_ret
      have hle1 := HB.out.size
      refine ⟨_, rfl, ?_, HB.out.trans (hQ2.out.trans (hB.out.mono (by omega)))⟩
      rw [← HX.out, hN.out, HE.out, restX, List.append_nil]
      exact hO.out.lower (by omega)

end Go.Proofs.YtnfdppkbbfdmnaaGreatDoor.PD

namespace Go.Proofs.YtnfdppkbbfdmnaaGreatDoor.PD
open Go.RowKit Go.Proofs.YtnfdppkbbfdmnaaGreatDoorW.PrintWords Go.Proofs.YtnfdppkbbfdmnaaGreatDoorW.PrintLast Go.Proofs.YtnfdppkbbfdmnaaGreatDoorW.PrintMore
set_option linter.unusedVariables false
set_option linter.unusedSimpArgs false
/-! ### ranges, plainly -/
def memR (l : List S57) (x : Int) : Prop := ∃ r ∈ l, r.f0 ≤ x ∧ x ≤ r.f1
theorem memR_nil (x : Int) : ¬ memR [] x := by rintro ⟨r, h, _⟩; cases h
theorem memR_cons (r : S57) (l : List S57) (x : Int) : memR (r :: l) x ↔ (r.f0 ≤ x ∧ x ≤ r.f1) ∨ memR l x := by
  constructor
  · rintro ⟨s, hs, h⟩
    rw [List.mem_cons] at hs
    rcases hs with rfl | hs
    · exact .inl h
    · exact .inr ⟨s, hs, h⟩
  · rintro (h | ⟨s, hs, h⟩)
    · exact ⟨r, by simp, h⟩
    · exact ⟨s, by simp [hs], h⟩
theorem memR_append (a b : List S57) (x : Int) : memR (a ++ b) x ↔ memR a x ∨ memR b x := by
  induction a with
  | nil => simp [memR_nil]
  | cons r a ih => rw [List.cons_append, memR_cons, memR_cons, ih, or_assoc]
/-- right ranges behind e -/
def NormF : Int → List S57 → Prop
  | _, [] => True
  | e, r :: t => e + 1 < r.f0 ∧ r.f0 ≤ r.f1 ∧ NormF r.f1 t
theorem NormF.gt : ∀ {l : List S57} {e : Int}, NormF e l → ∀ x, memR l x → e + 1 < x
  | [], _, _, x, h => absurd h (memR_nil x)
  | r :: t, e, h, x, hx => by
    rw [memR_cons] at hx
    rcases hx with hx | hx
    · have := h.1; omega
    · have := NormF.gt h.2.2 x hx; have := h.1; have := h.2.1; omega
/-- right ranges with the same values are the same -/
theorem norm_ext : ∀ (a b : List S57) (e e' : Int), NormF e a → NormF e' b → (∀ x, memR a x ↔ memR b x) → a = b
  | [], [], _, _, _, _, _ => rfl
  | [], s :: u, _, _, _, hb, h => absurd ((h s.f0).2 ((memR_cons _ _ _).2 (.inl ⟨Int.le_refl _, hb.2.1⟩))) (memR_nil _)
  | r :: t, [], _, _, ha, _, h => absurd ((h r.f0).1 ((memR_cons _ _ _).2 (.inl ⟨Int.le_refl _, ha.2.1⟩))) (memR_nil _)
  | r :: t, s :: u, e, e', ha, hb, h => by
    have ga := fun x hx => NormF.gt ha.2.2 x hx
    have gb := fun x hx => NormF.gt hb.2.2 x hx
    have h1 := ha.2.1
    have h2 := hb.2.1
    have hlo : r.f0 = s.f0 := by
      have q1 := (h r.f0).1 ((memR_cons _ _ _).2 (.inl ⟨Int.le_refl _, h1⟩))
      have q2 := (h s.f0).2 ((memR_cons _ _ _).2 (.inl ⟨Int.le_refl _, h2⟩))
      rw [memR_cons] at q1 q2
      rcases q1 with q1 | q1
      · rcases q2 with q2 | q2
        · omega
        · have := ga _ q2; omega
      · have := gb _ q1
        rcases q2 with q2 | q2
        · omega
        · have := ga _ q2; omega
    have hhi : r.f1 = s.f1 := by
      rcases Int.lt_trichotomy r.f1 s.f1 with hx | hx | hx
      · have q := (h (r.f1 + 1)).2 ((memR_cons _ _ _).2 (.inl ⟨by omega, by omega⟩))
        rw [memR_cons] at q
        rcases q with q | q
        · omega
        · have := ga _ q; omega
      · exact hx
      · have q := (h (s.f1 + 1)).1 ((memR_cons _ _ _).2 (.inl ⟨by omega, by omega⟩))
        rw [memR_cons] at q
        rcases q with q | q
        · omega
        · have := gb _ q; omega
    have hrs : r = s := by cases r; cases s; simp only at hlo hhi; rw [hlo, hhi]
    subst hrs
    have ht : t = u := norm_ext t u _ _ ha.2.2 hb.2.2 (fun x => by
      constructor
      · intro hx
        have := (h x).1 ((memR_cons _ _ _).2 (.inr hx))
        rw [memR_cons] at this
        rcases this with q | q
        · have := ga x hx; omega
        · exact q
      · intro hx
        have := (h x).2 ((memR_cons _ _ _).2 (.inr hx))
        rw [memR_cons] at this
        rcases this with q | q
        · have := gb x hx; omega
        · exact q)
    rw [ht]
/-! sorted ranges, joined -/
def mergeStep (out : List S57) (r : S57) : List S57 :=
  match out.getLast? with
  | some s => if r.f0 ≤ s.f1 + 1 then out.dropLast ++ [⟨s.f0, max s.f1 r.f1⟩] else out ++ [r]
  | none => [r]
def merge (l : List S57) : List S57 := l.foldl mergeStep []
theorem NormF.append_iff : ∀ (a b : List S57) (e : Int), NormF e (a ++ b) ↔ NormF e a ∧ NormF (match a.getLast? with | some s => s.f1 | none => e) b
  | [], b, e => by simp [NormF]
  | [r], b, e => by simp [NormF, and_assoc]
  | r :: s :: t, b, e => by
    have ih := NormF.append_iff (s :: t) b r.f1
    rw [List.getLast?_cons_cons]
    rcases hq : (s :: t).getLast? with _ | q
    · simp at hq
    · rw [hq] at ih
      show (e + 1 < r.f0 ∧ r.f0 ≤ r.f1 ∧ NormF r.f1 (s :: t ++ b)) ↔ (e + 1 < r.f0 ∧ r.f0 ≤ r.f1 ∧ NormF r.f1 (s :: t)) ∧ NormF q.f1 b
      have ih' : NormF r.f1 (s :: t ++ b) ↔ NormF r.f1 (s :: t) ∧ NormF q.f1 b := ih
      rw [ih', and_assoc, and_assoc]
theorem mergeStep_ok (out : List S57) (e : Int) (r : S57) (hN : NormF e out) (hr : r.f0 ≤ r.f1) (he : e + 1 < r.f0) (hl : ∀ s ∈ out, s.f0 ≤ r.f0) :
    NormF e (mergeStep out r) ∧ (∀ x, memR (mergeStep out r) x ↔ memR out x ∨ (r.f0 ≤ x ∧ x ≤ r.f1)) ∧ (∀ s ∈ mergeStep out r, s.f0 ≤ r.f0) := by
  rcases List.eq_nil_or_concat out with rfl | ⟨ys, s, rfl⟩
  · refine ⟨⟨he, hr, trivial⟩, fun x => ?_, ?_⟩
    · show memR [r] x ↔ _
      rw [memR_cons]
      simp [memR_nil]
    · intro s hs
      have : s = r := by simpa [mergeStep] using hs
      rw [this]; exact Int.le_refl _
  · rw [List.concat_eq_append] at hN hl ⊢
    have hs := hl s (by simp)
    unfold mergeStep
    rw [List.getLast?_append, List.getLast?_singleton]
    simp only [Option.some_or, List.dropLast_concat]
    rw [NormF.append_iff] at hN
    split
    · rename_i hc
      refine ⟨?_, fun x => ?_, ?_⟩
      · rw [NormF.append_iff]
        refine ⟨hN.1, hN.2.1, ?_, trivial⟩
        have := hN.2.2.1
        show s.f0 ≤ max s.f1 r.f1
        omega
      · rw [memR_append, memR_append, memR_cons, memR_cons]
        have := hN.2.2.1
        simp only [memR_nil, or_false]
        constructor
        · rintro (h | h)
          · exact .inl (.inl h)
          · by_cases hx : x ≤ s.f1
            · exact .inl (.inr ⟨h.1, hx⟩)
            · right
              have h2 := h.2
              have h3 := h.1
              omega
        · rintro ((h | h) | h)
          · exact .inl h
          · right; exact ⟨h.1, by have := h.2; omega⟩
          · right; exact ⟨by omega, by have := h.2; omega⟩
      · intro t ht
        rw [List.mem_append, List.mem_singleton] at ht
        rcases ht with ht | rfl
        · exact hl t (by simp [ht])
        · exact hs
    · rename_i hc
      refine ⟨?_, fun x => ?_, ?_⟩
      · rw [NormF.append_iff]
        refine ⟨?_, ?_⟩
        · rw [NormF.append_iff]; exact hN
        · rw [List.getLast?_append, List.getLast?_singleton]
          simp only [Option.some_or]
          exact ⟨by omega, hr, trivial⟩
      · rw [memR_append, memR_cons]
        simp [memR_nil]
      · intro t ht
        rw [List.mem_append, List.mem_singleton] at ht
        rcases ht with ht | rfl
        · exact hl t ht
        · exact Int.le_refl _
theorem merge_fold : ∀ (l out : List S57) (e : Int), NormF e out → (∀ r ∈ l, r.f0 ≤ r.f1 ∧ e + 1 < r.f0) → l.Pairwise (fun a b => a.f0 ≤ b.f0) → (∀ s ∈ out, ∀ r ∈ l, s.f0 ≤ r.f0) →
    NormF e (l.foldl mergeStep out) ∧ ∀ x, memR (l.foldl mergeStep out) x ↔ memR out x ∨ memR l x
  | [], out, e, hN, _, _, _ => ⟨hN, fun x => by simp [memR_nil]⟩
  | r :: l, out, e, hN, hv, hp, hl => by
    rw [List.pairwise_cons] at hp
    obtain ⟨q1, q2, q3⟩ := mergeStep_ok out e r hN (hv r (by simp)).1 (hv r (by simp)).2 (fun s hs => hl s hs r (by simp))
    obtain ⟨p1, p2⟩ := merge_fold l (mergeStep out r) e q1 (fun s hs => hv s (by simp [hs])) hp.2 (fun s hs t ht => Int.le_trans (q3 s hs) (hp.1 t ht))
    refine ⟨p1, fun x => ?_⟩
    rw [List.foldl_cons, p2, q2, memR_cons, or_assoc]
theorem merge_ok (l : List S57) (e : Int) (hv : ∀ r ∈ l, r.f0 ≤ r.f1 ∧ e + 1 < r.f0) (hp : l.Pairwise (fun a b => a.f0 ≤ b.f0)) : NormF e (merge l) ∧ ∀ x, memR (merge l) x ↔ memR l x := by
  obtain ⟨h1, h2⟩ := merge_fold l [] e trivial hv hp (fun s hs => by cases hs)
  exact ⟨h1, fun x => by unfold merge; rw [h2]; simp [memR_nil]⟩
theorem memR_perm {a b : List S57} (h : a.Perm b) (x : Int) : memR a x ↔ memR b x := by
  constructor
  · rintro ⟨r, hr, hx⟩; exact ⟨r, h.mem_iff.1 hr, hx⟩
  · rintro ⟨r, hr, hx⟩; exact ⟨r, h.mem_iff.2 hr, hx⟩
/-- two sorted orders of the same ranges are joined to the same -/
theorem merge_perm (a b : List S57) (e : Int) (hv : ∀ r ∈ a, r.f0 ≤ r.f1 ∧ e + 1 < r.f0) (h : a.Perm b) (ha : a.Pairwise (fun a b => a.f0 ≤ b.f0)) (hb : b.Pairwise (fun a b => a.f0 ≤ b.f0)) : merge a = merge b := by
  obtain ⟨p1, p2⟩ := merge_ok a e hv ha
  obtain ⟨q1, q2⟩ := merge_ok b e (fun r hr => hv r (h.mem_iff.2 hr)) hb
  exact norm_ext _ _ _ _ p1 q1 (fun x => by rw [p2, q2, memR_perm h])

end Go.Proofs.YtnfdppkbbfdmnaaGreatDoor.PD

namespace Go.Proofs.YtnfdppkbbfdmnaaGreatDoor.PD
open Go.RowKit Go.Proofs.YtnfdppkbbfdmnaaGreatDoorW.PrintWords Go.Proofs.YtnfdppkbbfdmnaaGreatDoorW.PrintLast Go.Proofs.YtnfdppkbbfdmnaaGreatDoorW.PrintMore
set_option linter.unusedVariables false
set_option linter.unusedSimpArgs false
/-! ### Not, Both, Less -/
theorem restL_len : ∀ (l : List S57) (f : Int), (restL f l).length ≤ l.length + 1
  | [], f => by have := some1_len (⟨f, 1000000⟩ : S57); rw [restL]; simpa using this
  | r :: t, f => by
    have h1 := some1_len (⟨f, r.f0 - 1⟩ : S57)
    have := restL_len t (r.f1 + 1)
    rw [restL, List.length_append, List.length_cons]
    omega
/-- ranges, if they are not too many -/
def fitL (l : List S57) : List S57 × Int := if l.length ≤ 4096 then (l, 0) else ([], 4)
attribute [local go_sem high] max2_mx min2_mn max_two min_two

set_option maxRecDepth 100000 in
set_option maxHeartbeats 16000000 in
theorem less_calls {v1 v2 : Value} (l1 l2 : List S57) (w : World) (h1 : Lst w v1 l1) (h2 : Lst w v2 l2) :
    Calls Tryz.prog 44 #[v1, v2] w fun e w' => ∃ v' e', e = .returned (.tuple #[v', .int .i64 e']) ∧ (Row w' w.heap.size v' (fitL (bothL (takenL l1) (restL (-1000000) (takenL l2)))).1 ∧ e' = (fitL (bothL (takenL l1) (restL (-1000000) (takenL l2)))).2) ∧ Below w.heap.size w w' := by
  have HT1 := Lib.hid (taken_calls l1 w h1)
  have HT2 := Lib.hid (fun W (hb : Below w.heap.size w W) => taken_calls l2 W (h2.below hb))
  have hlen1 := right_le (takenL_right l1)
  have hR2 := takenL_right l2
  have hlen3 := right_le hR2
  obtain ⟨i0, hi0, hz0, hz1, hz2⟩ := info_parts info57
  obtain ⟨B1, d1, rfl, _, _⟩ := h1
  obtain ⟨B2, d2, rfl, _, _⟩ := h2
  generalize takenL l1 = t at *
  generalize takenL l2 = u2 at *
  have hlen2 : (restL (-1000000) u2).length ≤ 5000 := by have := restL_len u2 (-1000000); omega
  have HR2 := Lib.hid hR2
  clear hR2 hlen3
  go_enter Tryz.func44, Tryz.ntmps44
  go_wp2_with fail
  refine HT1.out.mono ?_
  rintro e w1 ⟨v3, rfl, hL1, hb1, _⟩
  have HB1 := Lib.hid hb1; have HX1 := Lib.hid hL1
  clear hb1 hL1
  go_wp2_with fail
  refine (HT2.out _ HB1.out).mono ?_
  rintro e w2a ⟨v4, rfl, hL2, hb2, _⟩
  have HB2 := Lib.hid (below_step HB1.out hb2)
  have HX2 := Lib.hid (HX1.out.below hb2)
  have HT3 := Lib.hid (rest_calls _ w2a hL2 HR2.out)
  clear hL2 hb2
  go_wp2_with fail
  refine HT3.out.mono ?_
  rintro e w2 ⟨v5, rfl, hO3, hb3⟩
  obtain ⟨A1, c1, rfl, hC1, hc1⟩ := HX2.out.below hb3
  obtain ⟨A2, c2, rfl, hC2, hc2⟩ := hO3.lst
  have HBW := Lib.hid (below_step HB2.out hb3)
  generalize hu : restL (-1000000) u2 = u at *
  have HU := Lib.hid hu
  clear hu
  have HB0 := Lib.hid (show BothS w2 A1 A2 t u (.slice none 0 0) [] w2 from ⟨Below.refl _ _, hC1, hC2, Row.nil _ _⟩)
  clear hb3 hC1 hC2 HT1 HT2 HX1 HB1 HT3 HX2 HB2 hO3 HR2
  generalize hm1 : t.length = n1 at *
  generalize hm2 : u.length = n2 at *
  have HL1 := Lib.hid hm1; have HL2 := Lib.hid hm2
  clear hm1 hm2
  go_wp2_with fail
  go_loopw [7, 8, 9] (fun o p q wr => ∃ (i k : Nat) (out : List S57), p = .int .i64 i ∧ q = .int .i64 k ∧ i ≤ n1 ∧ k ≤ n2 ∧ Hid (bothL t u = out ++ bothL (t.drop i) (u.drop k)) ∧ out.length ≤ i + k ∧ Hid (BothS w2 A1 A2 t u o out wr))
    (fun _ p q _ => n1 + n2 - (intOf p).toNat - (intOf q).toNat)
  case atStart => exact ⟨0, 0, [], rfl, rfl, Nat.zero_le _, Nat.zero_le _, Lib.hid rfl, Nat.zero_le _, HB0⟩
  case round =>
    obtain ⟨i, k, out, rfl, rfl, hi, hk, hN, hol, hS⟩ := hrel
    obtain ⟨A0, c0, rfl⟩ := row_form hS.out.2.2.2
    by_cases hlt : i < n1 ∧ k < n2
    · obtain ⟨hin, hkn⟩ := hlt
      have hit : i < t.length := by rw [HL1.out]; exact hin
      have hku : k < u.length := by rw [HL2.out]; exact hkn
      obtain ⟨x, hA1, _, _⟩ := rng_at hS.out.c1 i hit
      subst hA1
      obtain ⟨y, hA2, _, _⟩ := rng_at hS.out.c2 k hku
      subst hA2
      have hst := bothL_step hit hku
      have hF : BothF t u i k t[i].f0 t[i].f1 u[k].f0 u[k].f1 := ⟨hit, hku, rfl, rfl, rfl, rfl⟩
      have HST := Lib.hid hst
      have HF := Lib.hid hF
      clear hst hF
      generalize t[i].f0 = a at *
      generalize t[i].f1 = b at *
      generalize u[k].f0 = c at *
      generalize u[k].f1 = d at *
      have hix1 := fun W => index_at x n1 c1 (i : Nat) (by omega) W
      have hix2 := fun W => index_at y n2 c2 (k : Nat) (by omega) W
      simp only [Int.toNat_natCast] at hix1 hix2
      have hwi : IntKind.i64.wrap ((i : Int) + 1) = (i : Int) + 1 := IntWalk.i64_in _ (by omega)
      have hwk : IntKind.i64.wrap ((k : Int) + 1) = (k : Int) + 1 := IntWalk.i64_in _ (by omega)
      have hz1' : (0 : Int) ≤ (i : Int) := by omega
      have hz2' : (0 : Int) ≤ (k : Int) := by omega
      have hi3 : (i : Int) < (n1 : Int) := by omega
      have hk3 : (k : Int) < (n2 : Int) := by omega
      have HS0 := hS
      clear hS
      have hS : BothS w2 (some x) (some y) t u (.slice A0 out.length c0) out wr.drew := HS0.out.step ((Below.refl _ _).drew)
      go_upto_region 5 with fail
      go_cut [10] (fun v8 wc => v8 = .pointer (some ⟨wr.heap.size, 0, none⟩) ∧ wc = (wr.alloc (.cells #[.int .i64 (max a c), .int .i64 (min b d)] 57)).drew)
      case first =>
        go_region_held3 (fun v => v.cell? (x.add (i * 2)) = some (.int .i64 a) ∧ v.cell? ⟨(x.add (i * 2)).block, (x.add (i * 2)).off + 1, none⟩ = some (.int .i64 b) ∧ v.cell? (y.add (k * 2)) = some (.int .i64 c) ∧ v.cell? ⟨(y.add (k * 2)).block, (y.add (k * 2)).off + 1, none⟩ = some (.int .i64 d) ∧ BothS w2 (some x) (some y) t u (.slice A0 out.length c0) out v)
          (first | exact hS.all HF.out | exact (hS.step ((Below.refl _ _).alloc (Nat.le_refl _) _)).all HF.out)
          (fail)
        all_goals
          go_wp2_with fail
          go_meet
          case rel => exact ⟨rfl, rfl⟩
      case rest =>
        obtain ⟨rfl, rfl⟩ := hcut
        clear hS
        have HS3 := Lib.hid (HS0.out.step (((Below.refl _ wr).alloc (Nat.le_refl _) (.cells #[.int .i64 (max a c), .int .i64 (min b d)] 57)).drew))
        have hsz3 := HS3.out.1.size
        have hsz4 := HS0.out.1.size
        simp only [size_drew, World.size_alloc] at hsz3
        go_upto_if 53 with fail
        go_cut [7] (fun v5 wc => ∃ out', out' = out ++ some1 ⟨max a c, min b d⟩ ∧ BothS w2 (some x) (some y) t u v5 out' wc)
        case first =>
          by_cases hx : max a c ≤ min b d
          · have hxb : decide (max a c ≤ min b d) = true := decide_eq_true hx
            have hc0 := (blk_cell (World.alloc_heap_new wr (.cells #[.int .i64 (max a c), .int .i64 (min b d)] 57)) 0)
            go_wp2_with ((with_reducible refine gate_dst (N := 57) rfl ?_); refine wpList_append_own _ rfl _ _ 23 rfl w2.heap.size 57 i0 _ 2 16 Tryz.underlying23 hi0 hz0 hz1 hz2 rfl (by decide) _ _ _ rfl (Row.own (HS3.out.2.2.2.below ((Below.refl _ _).alloc (Nat.le_refl _) _))) ⟨_, 0, none⟩ 1 1 [.int .i64 (max a c), .int .i64 (min b d)] rfl rfl (cell_pair_at _ _ (by simp) _ _ _) (by simp [Value.oneCell']) (by simp only [maxLen]; omega) (by omega) (by simp; omega) ?_; intro v' w4 hown' hgrow _; obtain ⟨q1, q2⟩ := HS3.out.2.2.2.pushed hown' hgrow (by simp; omega); have hQ1 := Lib.hid q1; have hQ2 := Lib.hid q2; clear hown' hgrow q1 q2)
            go_meet
            case rel =>
              refine ⟨_, rfl, ?_⟩
              rw [show some1 (⟨max a c, min b d⟩ : S57) = [⟨max a c, min b d⟩] from if_pos hx]
              exact HS3.out.put hQ1.out hQ2.out
          · have hxb : decide (max a c ≤ min b d) = false := decide_eq_false hx
            go_wp2_with fail
            go_meet
            case rel =>
              refine ⟨_, rfl, ?_⟩
              rw [show some1 (⟨max a c, min b d⟩ : S57) = [] from if_neg (by show ¬ (max a c ≤ min b d); omega), List.append_nil]
              exact HS3.out
        case rest =>
          obtain ⟨out', hout', hW⟩ := hcut
          have hol1 := some1_len (⟨max a c, min b d⟩ : S57)
          obtain ⟨A9, c9, rfl⟩ := row_form hW.2.2.2
          obtain ⟨g0, g1, g2, g3, _⟩ := hW.all HF.out
          have HW := Lib.hid hW
          have hol2 : out'.length ≤ out.length + 1 := by rw [hout', List.length_append]; omega
          have HOUT := Lib.hid hout'
          clear hW g0 g2 HS3 hout' hol1
          by_cases hbd : b < d
          · have hbd' : decide (b < d) = true := decide_eq_true hbd
            go_wp2_with fail
            go_quiet (fail)
            go_wp2_with fail
            refine ⟨⟨i + 1, k, _, by rw [Int.natCast_add]; rfl, rfl, by omega, by omega, Lib.hid (by rw [hN.out, HST.out, if_pos (by omega), ← List.append_assoc, ← HOUT.out]), by omega, Lib.hid (HW.out.step (Drawn0.below ⟨⟨_, rfl⟩⟩))⟩, by simp [intOf]; omega⟩
          · have hbd' : decide (b < d) = false := decide_eq_false hbd
            go_wp2_with fail
            go_quiet (fail)
            go_wp2_with fail
            refine ⟨⟨i, k + 1, _, rfl, by rw [Int.natCast_add]; rfl, by omega, by omega, Lib.hid (by rw [hN.out, HST.out, if_neg (by omega), ← List.append_assoc, ← HOUT.out]), by omega, Lib.hid (HW.out.step (Drawn0.below ⟨⟨_, rfl⟩⟩))⟩, by simp [intOf]; omega⟩

    · have hend : t.length ≤ i ∨ u.length ≤ k := by
        rw [HL1.out, HL2.out]
        omega
      have HE := Lib.hid (bothL_end hend)
      have hle1 : n1 ≤ i ∨ n2 ≤ k := by omega
      clear hend
      by_cases hin : i < n1
      · have hkn : k = n2 := by omega
        subst hkn
        have hle := HBW.out.size
        have HO := Lib.hid (show bothL t u = out by rw [hN.out, HE.out, List.append_nil])
        by_cases hbig : 4096 < out.length
        · have hb1 : decide ((out.length : Int) > 4096) = true := decide_eq_true (by omega)
          go_wp2_with fail
          go_ret2
          refine ⟨_, _, rfl, ?_, below_step HBW.out hS.out.1⟩
          rw [HU.out, HO.out]
          unfold fitL
          rw [if_neg (by omega)]
          exact ⟨Row.nil _ _, rfl⟩
        · have hb1 : decide ((out.length : Int) > 4096) = false := decide_eq_false (by omega)
          go_wp2_with fail
          go_ret2
          refine ⟨_, _, rfl, ?_, below_step HBW.out hS.out.1⟩
          rw [HU.out, HO.out]
          unfold fitL
          rw [if_pos (by omega)]
          exact ⟨hS.out.2.2.2.lower hle, rfl⟩
      · have hin2 : i = n1 := by omega
        subst hin2
        have hle := HBW.out.size
        have HO := Lib.hid (show bothL t u = out by rw [hN.out, HE.out, List.append_nil])
        by_cases hbig : 4096 < out.length
        · have hb1 : decide ((out.length : Int) > 4096) = true := decide_eq_true (by omega)
          go_wp2_with fail
          go_ret2
          refine ⟨_, _, rfl, ?_, below_step HBW.out hS.out.1⟩
          rw [HU.out, HO.out]
          unfold fitL
          rw [if_neg (by omega)]
          exact ⟨Row.nil _ _, rfl⟩
        · have hb1 : decide ((out.length : Int) > 4096) = false := decide_eq_false (by omega)
          go_wp2_with fail
          go_ret2
          refine ⟨_, _, rfl, ?_, below_step HBW.out hS.out.1⟩
          rw [HU.out, HO.out]
          unfold fitL
          rw [if_pos (by omega)]
          exact ⟨hS.out.2.2.2.lower hle, rfl⟩

end Go.Proofs.YtnfdppkbbfdmnaaGreatDoor.PD

namespace Go.Proofs.YtnfdppkbbfdmnaaGreatDoor.PD
open Go.RowKit Go.Proofs.YtnfdppkbbfdmnaaGreatDoorW.PrintWords Go.Proofs.YtnfdppkbbfdmnaaGreatDoorW.PrintLast Go.Proofs.YtnfdppkbbfdmnaaGreatDoorW.PrintMore
set_option linter.unusedVariables false
set_option linter.unusedSimpArgs false
/-! ### cut, both, the rest -/
end Go.Proofs.YtnfdppkbbfdmnaaGreatDoor.PD

namespace Go.Proofs.YtnfdppkbbfdmnaaGreatDoor.PD
open Go.RowKit Go.Proofs.YtnfdppkbbfdmnaaGreatDoorW.PrintWords Go.Proofs.YtnfdppkbbfdmnaaGreatDoorW.PrintLast Go.Proofs.YtnfdppkbbfdmnaaGreatDoorW.PrintMore
set_option linter.unusedVariables false
set_option linter.unusedSimpArgs false
set_option maxHeartbeats 4000000 in
theorem in_calls (x : Int) (w : World) : Calls Tryz.prog 55 #[.int .i64 x] w fun e w' => e = .returned (.bool (decide (-1000000 ≤ x) && decide (x ≤ 1000000))) ∧ Below w.heap.size w w' := by
  by_cases h1 : -1000000 ≤ x
  · have e1 : decide (-1000000 ≤ x) = true := decide_eq_true h1
    go_enter Tryz.func55, Tryz.ntmps55
    go_wp2_with fail
    go_ret
    exact ⟨by first | rfl | simp [*], Below.refl _ _⟩
  · have e1 : decide (-1000000 ≤ x) = false := decide_eq_false h1
    go_enter Tryz.func55, Tryz.ntmps55
    go_wp2_with fail
    go_ret
    exact ⟨by first | rfl | simp [*], Below.refl _ _⟩
def inB (x : Int) : Bool := decide (-1000000 ≤ x) && decide (x ≤ 1000000)
theorem one_lst (w : World) (x y : Int) : Lst (w.alloc (.cells #[.int .i64 x, .int .i64 y] 57)) (.slice (some ⟨w.heap.size, 0, none⟩) 1 1) [⟨x, y⟩] := by
  have h : Row (w.alloc (.cells #[.int .i64 x, .int .i64 y] 57)) w.heap.size (.slice (some ⟨w.heap.size, 0, none⟩) 1 1) [⟨x, y⟩] :=
    ⟨rfl, .inr ⟨w.heap.size, 1, _, rfl, Nat.le_refl _, World.alloc_heap_new _ _, Nat.le_refl _, by decide, rfl, rfl⟩⟩
  exact h.lst
end Go.Proofs.YtnfdppkbbfdmnaaGreatDoor.PD

namespace Go.Proofs.YtnfdppkbbfdmnaaGreatDoor.PD
open Go.RowKit Go.Proofs.YtnfdppkbbfdmnaaGreatDoorW.PrintWords Go.Proofs.YtnfdppkbbfdmnaaGreatDoorW.PrintLast Go.Proofs.YtnfdppkbbfdmnaaGreatDoorW.PrintMore
attribute [local go_sem] max2_int min2_int max_two min_two max_three min_three max_four min_four   -- for this text's walks alone
set_option linter.unusedVariables false
set_option linter.unusedSimpArgs false

/-! ### jigsawref02_in: function 60 -/
def jigsawref02_in.f (a0 : Int) : Option (Bool) := if a0 ≥ (-1000000) then (some (decide (a0 ≤ 1000000))) else (some false)
set_option maxHeartbeats 8000000 in
set_option maxRecDepth 100000 in
theorem jigsawref02_in.calls (a0 : Int) (r : Bool) (w : World) (h : jigsawref02_in.f a0 = some r) :
    Calls Tryz.prog 60 #[.int .i64 a0] w fun e w' => e = .returned (.bool r) ∧ Drawn0 w w' := by
  have H : (if a0 ≥ (-1000000) then (some (decide (a0 ≤ 1000000))) else (some false)) = some r := h
  clear h
  by_cases c2 : a0 ≥ (-1000000)
  · rw [if_pos c2] at H
    have c2b0 : decide ((-1000000) ≤ a0) = true := decide_eq_true c2
    clear c2
    obtain rfl := Option.some.inj H
    go_enter Tryz.func60, Tryz.ntmps60
    go_wp2
    go_ret
    exact ⟨by first | rfl | (simp; done) | (simp [*]; done), by repeat (first | exact Drawn0.refl _ | apply Drawn0.step)⟩
  · rw [if_neg c2] at H
    have c2b0 : decide ((-1000000) ≤ a0) = false := decide_eq_false c2
    clear c2
    obtain rfl := Option.some.inj H
    go_enter Tryz.func60, Tryz.ntmps60
    go_wp2
    go_ret
    exact ⟨by first | rfl | (simp; done) | (simp [*]; done), by repeat (first | exact Drawn0.refl _ | apply Drawn0.step)⟩
end Go.Proofs.YtnfdppkbbfdmnaaGreatDoor.PD
