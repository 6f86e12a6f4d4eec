/- Parts of the laws of sets and branch: functions of the program, each with the proof of what it answers; the conditions are those of each theorem. -/
import Derived.Test.YtjeomiooheoegaaGreatDoorC2
import Derived.Lib.LazyBuf
import Derived.Deep.RegionHeld3
import Derived.Deep.DeepCutAuto
import Derived.Test.YtjeomiooheoegaaGreatDoorC1
namespace Go.Proofs.YtjeomiooheoegaaGreatDoor.PD
open Go.RowKit Go.Proofs.YtjeomiooheoegaaGreatDoorW.PrintWords Go.Proofs.YtjeomiooheoegaaGreatDoorW.PrintLast Go.Proofs.YtjeomiooheoegaaGreatDoorW.PrintMore
set_option linter.unusedVariables false
set_option linter.unusedSimpArgs false
/-! ### from dom: Clone, Equal, Same; rows -/
theorem C_none {w : World} {n : Nat} {l : List S119} (h : Kd.C k119 w none n l) : l = [] := by
  cases l with
  | nil => rfl
  | cons s t =>
    obtain ⟨ad, e, _⟩ := rng_at h 0 (by simp)
    cases e
set_option maxRecDepth 100000 in
set_option maxHeartbeats 8000000 in
theorem clone_calls {v : Value} (l : List S119) (w : World) (h : Lst w v l) (hn2 : l.length ≤ 8796093022200) :
    Calls Tryz.prog 118 #[v] w fun e w' => ∃ v', e = .returned v' ∧ Row w' w.heap.size v' l ∧ Below w.heap.size w w' := by
  obtain ⟨A, c, rfl, hC, hc⟩ := h
  have hu := Tryz.underlying49
  cases A with
  | none =>
    have h0 := C_none hC
    subst h0
    clear hC hc
    go_enter Tryz.func118, Tryz.ntmps118
    go_wp2_with fail
    rw [run_eql_slice_nil _ 49 119 _ _ c hu]
    go_wp2_with fail
    go_ret
    exact ⟨_, rfl, Row.nil _ _, Below.refl _ _⟩
  | some ad =>
    obtain ⟨i, hi1, hz, hs, hby⟩ := info_parts info119
    have hown : (w.alloc (.cells #[] 119)).ownsRow w.heap.size 119 2 (.slice (some ⟨w.heap.size, 0, none⟩) 0 0) 0 [] :=
      ⟨rfl, .inr ⟨w.heap.size, 0, #[], rfl, Nat.le_refl _, World.alloc_heap_new _ _, Nat.le_refl _, by decide, rfl, rfl⟩⟩
    have hC2 : Kd.C k119 (w.alloc (.cells #[] 119)) (some ad) l.length l := Kd.C_below hC ((Below.refl _ _).alloc (Nat.le_refl _) _)
    obtain ⟨news, hreps, hnews⟩ := ReadsRow.inner_ hC2
    have hnf : news = flat57 l := reps_flat57 (fun x cs h => k119_open h) l news hreps
    subst hnf
    have hone := flat57_one l
    have hlen := flat57_len l
    have hml : 0 + l.length ≤ maxLen := by simp only [maxLen]; omega
    have hle : w.heap.size ≤ (w.alloc (.cells #[] 119)).heap.size := by simp
    have hB0 : Below w.heap.size w (w.alloc (.cells #[] 119)) := (Below.refl _ _).alloc (Nat.le_refl _) _
    clear hreps hC hC2
    generalize hm : l.length = m at *
    have HM := Lib.hid hm
    go_enter Tryz.func118, Tryz.ntmps118
    go_wp2_with fail
    rw [run_eql_slice_nil _ 49 119 _ m c hu]
    go_wp2_with ((with_reducible refine gate_dst (N := 7) rfl ?_); refine wpList_append_own _ rfl _ _ 49 rfl w.heap.size 119 i _ 2 16 hu hi1 hz hs hby rfl (by decide) _ 0 [] rfl hown ad m c _ rfl hlen hnews hone hml (by omega) hle ?_; intro v' w' hown' hg hnil)
    go_ret
    have hb := hB0.grown hg hle (fun k hk => by cases hk; exact Nat.le_refl _)
    refine ⟨v', rfl, ?_, hb⟩
    unfold Row
    rw [HM.out]
    rw [Nat.zero_add, List.nil_append] at hown'
    exact hown'
theorem S119_eta {a b : S119} (h0 : a.f0 = b.f0) (h1 : a.f1 = b.f1) : a = b := by
  cases a; cases b; cases h0; cases h1; rfl
theorem equal_l0 (a b : List S119) (hl : a.length = b.length) (hm : a.length ≤ 9223372036854775000) : ∀ (d i : Nat), a.length = i + d →
    ∃ r, api_Range_215.l0 (d + 1) a b (a.length : Int) (i : Int) = some r ∧ (r = true ↔ a.drop i = b.drop i)
  | 0, i, hd => ⟨true, by rw [api_Range_215.l0, if_neg (by omega)], by rw [List.drop_eq_nil_of_le (by omega), List.drop_eq_nil_of_le (by omega)]; simp⟩
  | d + 1, i, hd => by
    have hi : i < a.length := by omega
    have hi2 : i < b.length := by omega
    obtain ⟨r, hr, hiff⟩ := equal_l0 a b hl hm d (i + 1) (by omega)
    rw [List.drop_eq_getElem_cons hi, List.drop_eq_getElem_cons hi2, api_Range_215.l0]
    rw [if_pos (by omega), if_pos (by omega), if_pos (by omega), if_pos (by omega), rd57 a i hi, rd57 b i hi2]
    generalize a[i] = s at *
    generalize b[i] = u at *
    have hw : wrap64 ((i : Int) + 1) = ((i + 1 : Nat) : Int) := IntWalk.wrap64_in _ (by omega)
    rw [hw]
    by_cases h0 : s.f0 = u.f0
    · by_cases h1 : s.f1 = u.f1
      · refine ⟨r, by rw [if_neg (by simp [h0, h1]), hr], ?_⟩
        rw [hiff, S119_eta h0 h1]
        simp
      · refine ⟨false, by rw [if_pos (by simp [h1])], ?_⟩
        simp only [Bool.false_eq_true, List.cons.injEq, false_iff]
        rintro ⟨rfl, _⟩
        exact h1 rfl
    · refine ⟨false, by rw [if_pos (by simp [h0])], ?_⟩
      simp only [Bool.false_eq_true, List.cons.injEq, false_iff]
      rintro ⟨rfl, _⟩
      exact h0 rfl
theorem equal_f (a b : List S119) (hm : a.length ≤ 9223372036854775000) : ∃ r, api_Range_215.f (a.length + 1) a b = some r ∧ (r = true ↔ a = b) := by
  unfold api_Range_215.f
  by_cases h : a.length = b.length
  · rw [if_pos (by omega)]
    obtain ⟨r, hr, hiff⟩ := equal_l0 a b h hm a.length 0 (by omega)
    exact ⟨r, hr, by rw [hiff, List.drop_zero, List.drop_zero]⟩
  · rw [if_neg (by omega)]
    exact ⟨false, rfl, by simp only [Bool.false_eq_true, false_iff]; rintro rfl; exact h rfl⟩
theorem equal_calls {v1 v2 : Value} (a b : List S119) (w : World) (h1 : Lst w v1 a) (h2 : Lst w v2 b) (hm : a.length ≤ 9223372036854775000) :
    Calls Tryz.prog 215 #[v1, v2] w fun e w' => ∃ r, e = .returned (.bool r) ∧ (r = true ↔ a = b) ∧ Below w.heap.size w w' := by
  obtain ⟨A, c, rfl, hC, hc⟩ := h1
  obtain ⟨A', c', rfl, hC', hc'⟩ := h2
  obtain ⟨r, hr, hi⟩ := equal_f a b hm
  refine (api_Range_215.calls _ A c a A' c' b r w hC hc hC' hc' hr).mono ?_
  rintro e w' ⟨rfl, hd⟩
  exact ⟨r, rfl, hi, hd.below⟩
set_option maxHeartbeats 4000000 in
theorem Same_calls {v1 v2 : Value} (a b : List S119) (w : World) (h1 : Lst w v1 a) (h2 : Lst w v2 b) :
    Calls Tryz.prog 187 #[v1, v2] w fun e w' => ∃ r, e = .returned (.bool r) ∧ (r = true ↔ takenL a = takenL b) ∧ Below w.heap.size w w' := by
  have HT1 := Lib.hid (taken_calls a w h1)
  have HT2 := Lib.hid (fun W (hb : Below w.heap.size w W) => taken_calls b W (h2.below hb))
  have hl1 := right_le (takenL_right a)
  obtain ⟨A, c, rfl, _, _⟩ := h1
  obtain ⟨A', c', rfl, _, _⟩ := h2
  generalize takenL a = t at *
  generalize takenL b = u at *
  go_enter Tryz.func187, Tryz.ntmps187
  go_wp2_with fail
  refine HT1.out.mono ?_
  rintro e w1 ⟨v3, rfl, hL, hb, _⟩
  have HL := Lib.hid hL; have HB := Lib.hid hb
  clear hL hb
  go_wp2_with fail
  refine (HT2.out _ HB.out).mono ?_
  rintro e w2 ⟨v4, rfl, hL2, hb2, _⟩
  have HE := Lib.hid (equal_calls t u w2 (HL.out.below hb2) hL2 (by omega)); have HB2 := Lib.hid (below_step HB.out hb2)
  clear hL2 hb2
  go_wp2_with fail
  refine HE.out.mono ?_
  rintro e w3 ⟨r, rfl, hi, hb3⟩
  go_wp2_with fail
  go_ret
  exact ⟨r, rfl, hi, below_step HB2.out hb3⟩
/-- a slice that reads as a list of whole numbers -/
def LstI (w : World) (v : Value) (l : List Int) : Prop := ∃ A c, v = .slice A l.length c ∧ Kd.C (Kd.int .i64) w A l.length l ∧ l.length ≤ c
theorem LstI.below {w w' : World} {v : Value} {l : List Int} (h : LstI w v l) (hb : Below w.heap.size w w') : LstI w' v l := by
  obtain ⟨A, c, e, hC, hc⟩ := h
  exact ⟨A, c, e, Kd.C_below hC hb, hc⟩
theorem indexI_at (ad : Addr) (m c : Nat) (i : Int) (h : 0 ≤ i ∧ i < m) (W : World) : (Instr.indexAt 50 (.slice (some ad) m c) (.int .i64 i)).run Tryz.prog W = .ok (.pointer (some (ad.add i.toNat))) W := by
  obtain ⟨h1, h2⟩ := h
  rw [run_indexAt_slice (k := .i64) (h := by kernel_rfl)]
  simp [go_sem, h1, h2]
theorem rdI (l : List Int) (i : Nat) (h : i < l.length) : rd l (i : Int) = l[i] := by
  unfold rd
  rw [Int.toNat_natCast, List.getD_eq_getElem?_getD, List.getElem?_eq_getElem h]
  rfl
theorem cell_one_at (w : World) (n : Nat) (hn : w.heap.size = n) (x : Value) (t : TypeId) : ∀ j u, [x][j]? = some u → (w.alloc (.cells #[x] t)).cell? ((⟨n, 0, none⟩ : Addr).add j) = some u := by
  subst hn
  intro j u hj
  rw [add_zero_off]
  refine (blk_cell (World.alloc_heap_new w (.cells #[x] t)) j).trans ?_
  rw [← hj]
  simp

end Go.Proofs.YtjeomiooheoegaaGreatDoor.PD

namespace Go.Proofs.YtjeomiooheoegaaGreatDoor.PD
open Go.RowKit Go.Proofs.YtjeomiooheoegaaGreatDoorW.PrintWords Go.Proofs.YtjeomiooheoegaaGreatDoorW.PrintLast Go.Proofs.YtjeomiooheoegaaGreatDoorW.PrintMore
set_option linter.unusedVariables false
set_option linter.unusedSimpArgs false
/-! ### sets of whole numbers, plainly -/
def setL : Int → List Int → Bool
  | _, [] => true
  | e, v :: t => if e < v ∧ v ≤ 1000000 then setL v t else false
def setS (l : List Int) : Bool := if 64 < l.length then false else setL (-1000001) l
def asL (l : List Int) : List Int := if setS l then l else []
def Ris (l : List Int) : Prop := l.Pairwise (· < ·)
theorem setL_ris : ∀ (l : List Int) (e : Int), setL e l = true → Ris l ∧ ∀ x ∈ l, e < x ∧ x ≤ 1000000
  | [], _, _ => ⟨List.Pairwise.nil, fun x h => by cases h⟩
  | v :: t, e, h => by
    rw [setL] at h
    split at h
    · rename_i hv
      obtain ⟨h1, h2⟩ := setL_ris t v h
      refine ⟨List.pairwise_cons.2 ⟨fun x hx => (h2 x hx).1, h1⟩, fun x hx => ?_⟩
      rw [List.mem_cons] at hx
      rcases hx with rfl | hx
      · exact hv
      · have := h2 x hx
        omega
    · cases h
theorem ris_setL : ∀ (l : List Int) (e : Int), Ris l → (∀ x ∈ l, e < x ∧ x ≤ 1000000) → setL e l = true
  | [], _, _, _ => rfl
  | v :: t, e, h, hb => by
    have hc := List.pairwise_cons.1 h
    rw [setL, if_pos (hb v (by simp))]
    exact ris_setL t v hc.2 (fun x hx => ⟨hc.1 x hx, (hb x (by simp [hx])).2⟩)
theorem setS_iff (l : List Int) : setS l = true ↔ l.length ≤ 64 ∧ Ris l ∧ ∀ x ∈ l, -1000000 ≤ x ∧ x ≤ 1000000 := by
  unfold setS
  constructor
  · intro h
    split at h
    · cases h
    · obtain ⟨h1, h2⟩ := setL_ris _ _ h
      exact ⟨by omega, h1, fun x hx => by have := h2 x hx; omega⟩
  · rintro ⟨h1, h2, h3⟩
    rw [if_neg (by omega)]
    exact ris_setL _ _ h2 (fun x hx => by have := h3 x hx; omega)
theorem asL_set (l : List Int) : setS (asL l) = true := by
  unfold asL
  split
  · assumption
  · rfl
theorem asL_of {l : List Int} (h : setS l = true) : asL l = l := by unfold asL; rw [if_pos h]
theorem set_len {l : List Int} (h : setS l = true) : l.length ≤ 64 := ((setS_iff l).1 h).1
theorem set_ris {l : List Int} (h : setS l = true) : Ris l := ((setS_iff l).1 h).2.1
theorem set_in {l : List Int} (h : setS l = true) : ∀ x ∈ l, -1000000 ≤ x ∧ x ≤ 1000000 := ((setS_iff l).1 h).2.2
theorem ris_ext : ∀ (a b : List Int), Ris a → Ris b → (∀ x, x ∈ a ↔ x ∈ b) → a = b
  | [], [], _, _, _ => rfl
  | [], y :: b, _, _, h => by
    have := (h y).2 (by simp)
    cases this
  | x :: a, [], _, _, h => by
    have := (h x).1 (by simp)
    cases this
  | x :: a, y :: b, ha, hb, h => by
    have ca := List.pairwise_cons.1 ha
    have cb := List.pairwise_cons.1 hb
    have hxy : x = y := by
      have h1 := (h x).1 (by simp)
      have h2 := (h y).2 (by simp)
      rw [List.mem_cons] at h1 h2
      rcases h1 with h1 | h1
      · exact h1
      · rcases h2 with h2 | h2
        · exact h2.symm
        · have := cb.1 x h1
          have := ca.1 y h2
          omega
    subst hxy
    rw [ris_ext a b ca.2 cb.2 fun z => ?_]
    constructor
    · intro hz
      have h1 := (h z).1 (by simp [hz])
      rw [List.mem_cons] at h1
      rcases h1 with rfl | h1
      · have := ca.1 z hz
        omega
      · exact h1
    · intro hz
      have h1 := (h z).2 (by simp [hz])
      rw [List.mem_cons] at h1
      rcases h1 with rfl | h1
      · have := cb.1 z hz
        omega
      · exact h1
theorem ris_filter {l : List Int} (p : Int → Bool) (h : Ris l) : Ris (l.filter p) := List.Pairwise.filter p h
theorem ris_nodup {l : List Int} (h : Ris l) : l.Nodup := h.imp (fun hab hne => by omega)
/-- all elements of two rising lists -/
def uniL : List Int → List Int → List Int
  | [], b => b
  | a, [] => a
  | x :: a, y :: b => if x < y then x :: uniL a (y :: b) else if y < x then y :: uniL (x :: a) b else x :: uniL a b
termination_by a b => a.length + b.length
theorem uniL_nil (b : List Int) : uniL [] b = b := by rw [uniL]
theorem uniL_nil' (a : List Int) : uniL a [] = a := by cases a <;> simp [uniL]
theorem uniL_mem : ∀ (a b : List Int) (v : Int), v ∈ uniL a b ↔ v ∈ a ∨ v ∈ b
  | [], b, v => by rw [uniL_nil]; simp
  | x :: a, [], v => by rw [uniL_nil']; simp
  | x :: a, y :: b, v => by
    rw [uniL]
    split
    · rw [List.mem_cons, uniL_mem a (y :: b) v, List.mem_cons (b := x)]
      simp only [List.mem_cons, or_assoc]
    · split
      · rw [List.mem_cons, uniL_mem (x :: a) b v]
        simp only [List.mem_cons]
        constructor
        · rintro (h | (h | h) | h)
          · exact .inr (.inl h)
          · exact .inl (.inl h)
          · exact .inl (.inr h)
          · exact .inr (.inr h)
        · rintro ((h | h) | h | h)
          · exact .inr (.inl (.inl h))
          · exact .inr (.inl (.inr h))
          · exact .inl h
          · exact .inr (.inr h)
      · have hxy : x = y := by omega
        rw [List.mem_cons, uniL_mem a b v]
        simp only [List.mem_cons]
        constructor
        · rintro (h | h | h)
          · exact .inl (.inl h)
          · exact .inl (.inr h)
          · exact .inr (.inr h)
        · rintro ((h | h) | h | h)
          · exact .inl h
          · exact .inr (.inl h)
          · exact .inl (h.trans hxy.symm)
          · exact .inr (.inr h)
termination_by a b => a.length + b.length
theorem uniL_ris : ∀ (a b : List Int), Ris a → Ris b → Ris (uniL a b)
  | [], b, _, hb => by rw [uniL_nil]; exact hb
  | x :: a, [], ha, _ => by rw [uniL_nil']; exact ha
  | x :: a, y :: b, ha, hb => by
    have ca := List.pairwise_cons.1 ha
    have cb := List.pairwise_cons.1 hb
    rw [uniL]
    split
    · refine List.pairwise_cons.2 ⟨fun z hz => ?_, uniL_ris a (y :: b) ca.2 hb⟩
      rw [uniL_mem, List.mem_cons] at hz
      rcases hz with hz | hz | hz
      · exact ca.1 z hz
      · omega
      · have := cb.1 z hz
        omega
    · split
      · refine List.pairwise_cons.2 ⟨fun z hz => ?_, uniL_ris (x :: a) b ha cb.2⟩
        rw [uniL_mem, List.mem_cons] at hz
        rcases hz with (hz | hz) | hz
        · omega
        · have := ca.1 z hz
          omega
        · exact cb.1 z hz
      · have hxy : x = y := by omega
        refine List.pairwise_cons.2 ⟨fun z hz => ?_, uniL_ris a b ca.2 cb.2⟩
        rw [uniL_mem] at hz
        rcases hz with hz | hz
        · exact ca.1 z hz
        · have := cb.1 z hz
          omega
termination_by a b => a.length + b.length
theorem uniL_len : ∀ (a b : List Int), (uniL a b).length ≤ a.length + b.length
  | [], b => by rw [uniL_nil]; simp
  | x :: a, [] => by rw [uniL_nil']; simp
  | x :: a, y :: b => by
    rw [uniL]
    split
    · have := uniL_len a (y :: b)
      simp only [List.length_cons] at this ⊢
      omega
    · split
      · have := uniL_len (x :: a) b
        simp only [List.length_cons] at this ⊢
        omega
      · have := uniL_len a b
        simp only [List.length_cons]
        omega
termination_by a b => a.length + b.length
/-- what of two sets is wanted -/
def pickS (want : Bool → Bool → Bool) (a b : List Int) : List Int := (uniL (asL a) (asL b)).filter fun v => want (decide (v ∈ asL a)) (decide (v ∈ asL b))
def joinS (a b : List Int) : List Int := pickS (fun x y => x || y) a b
def meetS (a b : List Int) : List Int := pickS (fun x y => x && y) a b
def lessI (a b : List Int) : List Int := pickS (fun x y => x && !y) a b
def symS (a b : List Int) : List Int := pickS (fun x y => x != y) a b
theorem pickS_ris (want : Bool → Bool → Bool) (a b : List Int) : Ris (pickS want a b) := ris_filter _ (uniL_ris _ _ (set_ris (asL_set a)) (set_ris (asL_set b)))
theorem pickS_mem (want : Bool → Bool → Bool) (a b : List Int) (v : Int) : v ∈ pickS want a b ↔ (v ∈ asL a ∨ v ∈ asL b) ∧ want (decide (v ∈ asL a)) (decide (v ∈ asL b)) = true := by
  unfold pickS
  rw [List.mem_filter, uniL_mem]
theorem pickS_len (want : Bool → Bool → Bool) (a b : List Int) : (pickS want a b).length ≤ 128 := by
  unfold pickS
  have h1 := List.length_filter_le (fun v => want (decide (v ∈ asL a)) (decide (v ∈ asL b))) (uniL (asL a) (asL b))
  have h2 := uniL_len (asL a) (asL b)
  have h3 := set_len (asL_set a)
  have h4 := set_len (asL_set b)
  omega
theorem joinS_mem (a b : List Int) (v : Int) : v ∈ joinS a b ↔ v ∈ asL a ∨ v ∈ asL b := by
  unfold joinS
  rw [pickS_mem]
  simp
theorem meetS_mem (a b : List Int) (v : Int) : v ∈ meetS a b ↔ v ∈ asL a ∧ v ∈ asL b := by
  unfold meetS
  rw [pickS_mem]
  simp only [Bool.and_eq_true, decide_eq_true_eq]
  exact ⟨fun h => h.2, fun h => ⟨.inl h.1, h⟩⟩
theorem lessI_mem (a b : List Int) (v : Int) : v ∈ lessI a b ↔ v ∈ asL a ∧ v ∉ asL b := by
  unfold lessI
  rw [pickS_mem]
  simp only [Bool.and_eq_true, Bool.not_eq_true', decide_eq_true_eq, decide_eq_false_iff_not]
  exact ⟨fun h => h.2, fun h => ⟨.inl h.1, h⟩⟩
theorem symS_mem (a b : List Int) (v : Int) : v ∈ symS a b ↔ (v ∈ asL a ∧ v ∉ asL b) ∨ (v ∉ asL a ∧ v ∈ asL b) := by
  unfold symS
  rw [pickS_mem]
  by_cases h1 : v ∈ asL a <;> by_cases h2 : v ∈ asL b <;> simp [h1, h2]
/-- the reference's ways to the same -/
theorem meet_filter (a b : List Int) : (asL a).filter (fun v => decide (v ∈ asL b)) = meetS a b := by
  refine ris_ext _ _ (ris_filter _ (set_ris (asL_set a))) (pickS_ris _ _ _) fun v => ?_
  rw [List.mem_filter, meetS_mem, decide_eq_true_iff]
theorem less_filter (a b : List Int) : (asL a).filter (fun v => !decide (v ∈ asL b)) = lessI a b := by
  refine ris_ext _ _ (ris_filter _ (set_ris (asL_set a))) (pickS_ris _ _ _) fun v => ?_
  rw [List.mem_filter, lessI_mem, Bool.not_eq_true', decide_eq_false_iff_not]
/-- a value put into a rising list -/
def putI (l : List Int) (v : Int) : List Int := l.takeWhile (fun x => decide (x ≤ v)) ++ [v] ++ l.dropWhile (fun x => decide (x ≤ v))
theorem putI_mem (l : List Int) (v x : Int) : x ∈ putI l v ↔ x ∈ l ∨ x = v := by
  unfold putI
  rw [List.mem_append, List.mem_append, List.mem_singleton]
  have h := List.takeWhile_append_dropWhile (p := fun x => decide (x ≤ v)) (l := l)
  constructor
  · rintro ((h1 | h1) | h1)
    · exact .inl (by rw [← h]; exact List.mem_append_left _ h1)
    · exact .inr h1
    · exact .inl (by rw [← h]; exact List.mem_append_right _ h1)
  · rintro (h1 | h1)
    · rw [← h, List.mem_append] at h1
      rcases h1 with h1 | h1
      · exact .inl (.inl h1)
      · exact .inr h1
    · exact .inl (.inr h1)
theorem putI_ris : ∀ (l : List Int) (v : Int), Ris l → v ∉ l → Ris (putI l v)
  | [], v, _, _ => by
    show Ris [v]
    exact List.pairwise_singleton _ _
  | x :: t, v, h, hv => by
    have hc := List.pairwise_cons.1 h
    unfold putI
    by_cases hx : x ≤ v
    · rw [List.takeWhile_cons_of_pos (by simpa using hx), List.dropWhile_cons_of_pos (by simpa using hx)]
      have ih := putI_ris t v hc.2 (fun hm => hv (by simp [hm]))
      have hne : x ≠ v := fun e => hv (by simp [e])
      show Ris (x :: putI t v)
      refine List.pairwise_cons.2 ⟨fun z hz => ?_, ih⟩
      rw [putI_mem] at hz
      rcases hz with hz | rfl
      · exact hc.1 z hz
      · omega
    · rw [List.takeWhile_cons_of_neg (by simpa using hx), List.dropWhile_cons_of_neg (by simpa using hx)]
      show Ris (v :: x :: t)
      refine List.pairwise_cons.2 ⟨fun z hz => ?_, h⟩
      rw [List.mem_cons] at hz
      rcases hz with rfl | hz
      · omega
      · have := hc.1 z hz
        omega
theorem puts_mem : ∀ (l a : List Int) (x : Int), x ∈ l.foldl putI a ↔ x ∈ a ∨ x ∈ l
  | [], a, x => by simp
  | v :: t, a, x => by
    rw [List.foldl_cons, puts_mem t (putI a v) x, putI_mem, List.mem_cons, or_assoc]
theorem puts_ris : ∀ (l a : List Int), Ris a → l.Nodup → (∀ x ∈ l, x ∉ a) → Ris (l.foldl putI a)
  | [], a, h, _, _ => h
  | v :: t, a, h, hn, hd => by
    have hc := List.nodup_cons.1 hn
    rw [List.foldl_cons]
    refine puts_ris t _ (putI_ris a v h (hd v (by simp))) hc.2 fun x hx hm => ?_
    rw [putI_mem] at hm
    rcases hm with hm | rfl
    · exact hd x (by simp [hx]) hm
    · exact hc.1 hx
theorem join_puts (a b : List Int) : (lessI b a).foldl putI (asL a) = joinS a b := by
  refine ris_ext _ _ (puts_ris _ _ (set_ris (asL_set a)) (ris_nodup (pickS_ris _ _ _)) fun x hx => ((lessI_mem b a x).1 hx).2) (pickS_ris _ _ _) fun v => ?_
  rw [puts_mem, joinS_mem, lessI_mem]
  by_cases h : v ∈ asL a <;> simp [h]
theorem sym_puts (a b : List Int) : (lessI b a).foldl putI (lessI a b) = symS a b := by
  refine ris_ext _ _ (puts_ris _ _ (pickS_ris _ _ _) (ris_nodup (pickS_ris _ _ _)) fun x hx hm => ((lessI_mem b a x).1 hx).2 ((lessI_mem a b x).1 hm).1) (pickS_ris _ _ _) fun v => ?_
  rw [puts_mem, symS_mem, lessI_mem, lessI_mem, and_comm (a := v ∈ asL b)]
/-- is one in the other -/
def subS (a b : List Int) : Bool := (lessI a b).isEmpty
theorem subS_iff (a b : List Int) : subS a b = true ↔ ∀ x ∈ asL a, x ∈ asL b := by
  unfold subS
  rw [List.isEmpty_iff]
  constructor
  · intro h x hx
    refine Classical.byContradiction fun hn => ?_
    have : x ∈ lessI a b := (lessI_mem a b x).2 ⟨hx, hn⟩
    rw [h] at this
    cases this
  · intro h
    rw [List.eq_nil_iff_forall_not_mem]
    intro x hx
    have := (lessI_mem a b x).1 hx
    exact this.2 (h x this.1)
/-- the order of sets -/
def cmpL : List Int → List Int → Int
  | [], [] => 0
  | [], _ :: _ => -1
  | _ :: _, [] => 1
  | x :: a, y :: b => if x < y then -1 else if y < x then 1 else cmpL a b
def cmpS (a b : List Int) : Int := cmpL (asL a) (asL b)
end Go.Proofs.YtjeomiooheoegaaGreatDoor.PD

namespace Go.Proofs.YtjeomiooheoegaaGreatDoor.PD
open Go.RowKit Go.Proofs.YtjeomiooheoegaaGreatDoorW.PrintWords Go.Proofs.YtjeomiooheoegaaGreatDoorW.PrintLast Go.Proofs.YtjeomiooheoegaaGreatDoorW.PrintMore
set_option linter.unusedVariables false
set_option linter.unusedSimpArgs false
/-! ### how many ways there are to take from a to b of f -/
def cntF : Nat → Int → Int → Nat
  | 0, a, b => if a ≤ 0 ∧ 0 ≤ b then 1 else 0
  | f + 1, a, b => cntF f a b + cntF f (a - 1) (b - 1)
theorem cntF_zero : ∀ (f : Nat) (a b : Int), b < a ∨ b < 0 ∨ (f : Int) < a → cntF f a b = 0
  | 0, a, b, h => by rw [cntF, if_neg (by omega)]
  | f + 1, a, b, h => by
    rw [cntF, cntF_zero f a b (by omega), cntF_zero f (a - 1) (b - 1) (by omega)]
theorem cntF_split : ∀ (f : Nat) (a b c : Int), a ≤ b + 1 → b ≤ c → cntF f a c = cntF f a b + cntF f (b + 1) c
  | 0, a, b, c, h1, h2 => by
    rw [cntF, cntF, cntF]
    by_cases ha : a ≤ 0 ∧ 0 ≤ c
    · rw [if_pos ha]
      by_cases hb : 0 ≤ b
      · rw [if_pos ⟨ha.1, hb⟩, if_neg (by omega)]
      · rw [if_neg (by omega), if_pos (by omega)]
    · rw [if_neg ha, if_neg (by omega), if_neg (by omega)]
  | f + 1, a, b, c, h1, h2 => by
    rw [cntF, cntF, cntF, cntF_split f a b c h1 h2, cntF_split f (a - 1) (b - 1) (c - 1) (by omega) (by omega), show b - 1 + 1 = b + 1 - 1 by omega]
    omega
/-- all below, or all above, a bound that is beyond -/
theorem cntF_clip : ∀ (f : Nat) (a b : Int), cntF f a b = cntF f (max a 0) (min b f)
  | 0, a, b => by
    rw [cntF, cntF]
    by_cases h : a ≤ 0 ∧ 0 ≤ b
    · rw [if_pos h, if_pos (by omega)]
    · rw [if_neg h, if_neg (by omega)]
  | f + 1, a, b => by
    have e1 := cntF_clip f a b
    have e2 := cntF_clip f (a - 1) (b - 1)
    have e3 := cntF_clip f (max a 0) (min b (f + 1 : Nat))
    have e4 := cntF_clip f (max a 0 - 1) (min b (f + 1 : Nat) - 1)
    rw [cntF, cntF, e1, e2, e3, e4]
    congr 2 <;> omega
/-- the numbers of Pascal's triangle -/
def pairSum : List Nat → List Nat
  | [] => []
  | [x] => [x]
  | x :: y :: t => (x + y) :: pairSum (y :: t)
def rowP : Nat → List Nat
  | 0 => [1]
  | n + 1 => 1 :: pairSum (rowP n)
theorem pairSum_len : ∀ r : List Nat, (pairSum r).length = r.length
  | [] => rfl
  | [x] => rfl
  | x :: y :: t => by rw [pairSum, List.length_cons, pairSum_len (y :: t), List.length_cons, List.length_cons, List.length_cons]
theorem rowP_len : ∀ n, (rowP n).length = n + 1
  | 0 => rfl
  | n + 1 => by rw [rowP, List.length_cons, pairSum_len, rowP_len n]
def at0 (r : List Nat) (k : Nat) : Nat := r.getD k 0
theorem pairSum_at : ∀ (r : List Nat) (k : Nat), at0 (pairSum r) k = at0 r k + at0 r (k + 1)
  | [], k => by simp [at0, pairSum]
  | [x], 0 => by simp [at0, pairSum]
  | [x], k + 1 => by simp [at0, pairSum]
  | x :: y :: t, 0 => by simp [at0, pairSum]
  | x :: y :: t, k + 1 => by
    have := pairSum_at (y :: t) k
    simp only [at0, pairSum, List.getD_cons_succ] at this ⊢
    exact this
def bin (n k : Nat) : Nat := at0 (rowP n) k
theorem bin_zero (n : Nat) : bin n 0 = 1 := by cases n <;> rfl
theorem bin_succ (n k : Nat) : bin (n + 1) (k + 1) = bin n k + bin n (k + 1) := by
  unfold bin
  rw [rowP]
  show at0 (pairSum (rowP n)) k = _
  exact pairSum_at _ _
theorem bin_cnt : ∀ (n k : Nat), bin n k = cntF n k k
  | 0, 0 => rfl
  | 0, k + 1 => by
    rw [cntF, if_neg (by omega)]
    simp [bin, at0, rowP]
  | n + 1, 0 => by
    rw [bin_zero, cntF, cntF_zero n ((0 : Nat) - 1 : Int) ((0 : Nat) - 1 : Int) (by omega), ← bin_cnt n 0, bin_zero]
  | n + 1, k + 1 => by
    rw [bin_succ, cntF, bin_cnt n k, bin_cnt n (k + 1), show (((k + 1 : Nat) : Int) - 1) = (k : Int) by omega]
    omega
/-- a sum of a row's numbers -/
def sumB (n : Nat) : Nat → Nat → Nat
  | _, 0 => 0
  | k, d + 1 => bin n k + sumB n (k + 1) d
theorem sumB_cnt (n : Nat) : ∀ (d k : Nat), sumB n k d = cntF n k (k + d - 1 : Int)
  | 0, k => by
    rw [sumB, cntF_zero n _ _ (by omega)]
  | d + 1, k => by
    rw [sumB, sumB_cnt n d (k + 1), bin_cnt, cntF_split n k k (k + (d + 1 : Nat) - 1 : Int) (by omega) (by omega)]
    congr 2 <;> omega
set_option maxRecDepth 100000 in
theorem bin_small : ∀ n, n ≤ 64 → ∀ k, bin n k < 2305843009213693952 := by
  have h : ((List.range 65).all fun n => (rowP n).all fun x => decide (x < 2305843009213693952)) = true := by decide +kernel
  intro n hn k
  rw [List.all_eq_true] at h
  have h1 := h n (List.mem_range.2 (by omega))
  rw [List.all_eq_true] at h1
  unfold bin at0
  rw [List.getD_eq_getElem?_getD]
  by_cases hk : k < (rowP n).length
  · rw [List.getElem?_eq_getElem hk]
    exact of_decide_eq_true (h1 _ (List.getElem_mem hk))
  · rw [List.getElem?_eq_none (by omega)]
    decide

end Go.Proofs.YtjeomiooheoegaaGreatDoor.PD

namespace Go.Proofs.YtjeomiooheoegaaGreatDoor.PD
open Go.RowKit Go.Proofs.YtjeomiooheoegaaGreatDoorW.PrintWords Go.Proofs.YtjeomiooheoegaaGreatDoorW.PrintLast Go.Proofs.YtjeomiooheoegaaGreatDoorW.PrintMore
set_option linter.unusedVariables false
set_option linter.unusedSimpArgs false
/-! ### domains of sets, plainly -/
structure DomD where
  set : Bool
  r : List S119
  lo : List Int
  up : List Int
  least : Int
  most : Int
def noneD : DomD := ⟨true, [], [], [], 1, 0⟩
def bareD (d : DomD) : Bool := d.lo.isEmpty && (d.up.isEmpty && (decide (d.least = 1) && decide (d.most = 0)))
def fullD (d : DomD) : Bool := setS d.lo && (setS d.up && (subS d.lo d.up && (decide ((d.lo.length : Int) ≤ d.least) && (decide (d.least ≤ d.most) && decide (d.most ≤ (d.up.length : Int))))))
def rightD (d : DomD) : Bool := d.set && (d.r.isEmpty && (bareD d || fullD d))
def emptyD (d : DomD) : Bool := !rightD d || decide (d.most < d.least)
def tightD (lo up : List Int) (least most : Int) : DomD :=
  if min most up.length < max least lo.length then noneD
  else if max least lo.length = up.length then ⟨true, [], up, up, max (max least lo.length) up.length, min (min most up.length) up.length⟩
  else if min most up.length = lo.length then ⟨true, [], lo, lo, max (max least lo.length) lo.length, min (min most up.length) lo.length⟩
  else ⟨true, [], lo, up, max (max least lo.length) lo.length, min (min most up.length) up.length⟩
def hasD (d : DomD) (l : List Int) : Bool := !emptyD d && (subS d.lo (asL l) && (subS (asL l) d.up && (decide (d.least ≤ ((asL l).length : Int)) && decide (((asL l).length : Int) ≤ d.most))))
theorem full_of {d : DomD} (h : emptyD d = false) : d.set = true ∧ d.r = [] ∧ setS d.lo = true ∧ setS d.up = true ∧ subS d.lo d.up = true ∧ (d.lo.length : Int) ≤ d.least ∧ d.least ≤ d.most ∧ d.most ≤ (d.up.length : Int) := by
  unfold emptyD rightD at h
  rw [Bool.or_eq_false_iff, Bool.not_eq_false', decide_eq_false_iff_not] at h
  obtain ⟨h1, h2⟩ := h
  rw [Bool.and_eq_true, Bool.and_eq_true, List.isEmpty_iff, Bool.or_eq_true] at h1
  obtain ⟨a, b, c | c⟩ := h1
  · unfold bareD at c
    simp only [Bool.and_eq_true, List.isEmpty_iff, decide_eq_true_eq] at c
    omega
  · unfold fullD at c
    simp only [Bool.and_eq_true, decide_eq_true_eq] at c
    exact ⟨a, b, c.1, c.2.1, c.2.2.1, c.2.2.2.1, c.2.2.2.2.1, c.2.2.2.2.2⟩
/-- how many elements of u must be there -/
def lateL (lo u : List Int) : Nat := (u.filter fun v => decide (v ∈ lo)).length
theorem lateL_cons (lo : List Int) (x : Int) (u : List Int) : lateL lo (x :: u) = lateL lo u + if x ∈ lo then 1 else 0 := by
  unfold lateL
  by_cases h : x ∈ lo
  · rw [List.filter_cons_of_pos (by simpa using h), if_pos h, List.length_cons]
  · rw [List.filter_cons_of_neg (by simpa using h), if_neg h]
    omega
theorem lateL_le (lo u : List Int) : lateL lo u ≤ u.length := List.length_filter_le _ _
/-- all sets that begin with head, an element of u behind it, in order -/
def loopL (d : DomD) : List Int → List Int → List (List Int)
  | _, [] => []
  | head, x :: u =>
    if d.least ≤ (head.length : Int) + (u.length : Int) + 1 then
      (if (head.length : Int) + 1 + (lateL d.lo u : Int) ≤ d.most then
        (if hasD d (head ++ [x]) = true then [head ++ [x]] else []) ++ (if d.most ≤ (head.length : Int) + 1 then [] else loopL d (head ++ [x]) u)
      else []) ++ (if x ∈ d.lo then [] else loopL d head u)
    else []
def walkL (d : DomD) (head u : List Int) : List (List Int) := (if hasD d head = true then [head] else []) ++ (if d.most ≤ (head.length : Int) then [] else loopL d head u)
def allD (d : DomD) : List (List Int) := if emptyD d = true then [] else walkL d [] d.up
/-- where the walk stands: head is of what went before, with all that must be -/
structure At (d : DomD) (head u : List Int) : Prop where
  ex : ∃ pre, d.up = pre ++ u ∧ head.Sublist pre ∧ ∀ v ∈ pre, v ∈ d.lo → v ∈ head
theorem At.start (d : DomD) : At d [] d.up := ⟨[], rfl, List.Sublist.refl _, fun v h => by cases h⟩
theorem At.take {d : DomD} {head u : List Int} {x : Int} (h : At d head (x :: u)) : At d (head ++ [x]) u := by
  obtain ⟨pre, h1, h2, h3⟩ := h.ex
  refine ⟨pre ++ [x], by rw [h1]; simp, List.Sublist.append h2 (List.Sublist.refl _), fun v hv hl => ?_⟩
  rw [List.mem_append, List.mem_singleton] at hv
  rw [List.mem_append, List.mem_singleton]
  rcases hv with hv | hv
  · exact .inl (h3 v hv hl)
  · exact .inr hv
theorem At.pass {d : DomD} {head u : List Int} {x : Int} (h : At d head (x :: u)) (hx : x ∉ d.lo) : At d head u := by
  obtain ⟨pre, h1, h2, h3⟩ := h.ex
  refine ⟨pre ++ [x], by rw [h1]; simp, h2.trans (List.sublist_append_left _ _), fun v hv hl => ?_⟩
  rw [List.mem_append, List.mem_singleton] at hv
  rcases hv with hv | rfl
  · exact h3 v hv hl
  · exact absurd hl hx
theorem At.set {d : DomD} {head u : List Int} (h : At d head u) (hu : setS d.up = true) : setS head = true := by
  obtain ⟨pre, h1, h2, h3⟩ := h.ex
  rw [setS_iff] at hu ⊢
  have hs : head.Sublist d.up := by rw [h1]; exact h2.trans (List.sublist_append_left _ _)
  exact ⟨Nat.le_trans hs.length_le hu.1, hu.2.1.sublist hs, fun x hx => hu.2.2 x (hs.subset hx)⟩
theorem At.has {d : DomD} {head u : List Int} (h : At d head u) (he : emptyD d = false) : hasD d head = decide (lateL d.lo u = 0 ∧ d.least ≤ (head.length : Int) ∧ (head.length : Int) ≤ d.most) := by
  obtain ⟨f1, f2, f3, f4, f5, f6, f7, f8⟩ := full_of he
  have hs := h.set f4
  obtain ⟨pre, h1, h2, h3⟩ := h.ex
  unfold hasD
  rw [he, asL_of hs, Bool.eq_iff_iff]
  simp only [Bool.not_false, Bool.true_and, Bool.and_eq_true, decide_eq_true_eq]
  rw [subS_iff, subS_iff, asL_of hs, asL_of f3, asL_of f4]
  have hnd : (pre ++ u).Nodup := by rw [← h1]; exact ris_nodup (set_ris f4)
  constructor
  · rintro ⟨a, b, c, e⟩
    refine ⟨?_, c, e⟩
    unfold lateL
    rw [List.length_eq_zero_iff, List.filter_eq_nil_iff]
    intro v hv hl
    have hm := a v (of_decide_eq_true hl)
    exact (List.nodup_append.1 hnd).2.2 v (h2.subset hm) v hv rfl
  · rintro ⟨a, c, e⟩
    refine ⟨fun v hv => ?_, fun v hv => ?_, c, e⟩
    · have hup : v ∈ d.up := by
        rw [subS_iff, asL_of f3, asL_of f4] at f5
        exact f5 v hv
      rw [h1, List.mem_append] at hup
      rcases hup with hp | hp
      · exact h3 v hp hv
      · unfold lateL at a
        rw [List.length_eq_zero_iff, List.filter_eq_nil_iff] at a
        exact absurd (decide_eq_true hv) (a v hp)
    · rw [h1]
      exact List.mem_append_left _ (h2.subset hv)
/-- so many sets there are -/
theorem loop_count {d : DomD} (he : emptyD d = false) : ∀ (u head : List Int), At d head u → (head.length : Int) < d.most →
    (loopL d head u).length + (if lateL d.lo u = 0 ∧ d.least ≤ (head.length : Int) then 1 else 0) = cntF (u.length - lateL d.lo u) (d.least - head.length - lateL d.lo u) (d.most - head.length - lateL d.lo u)
  | [], head, h, hm => by
    rw [loopL]
    show 0 + _ = cntF 0 _ _
    have e : lateL d.lo [] = 0 := rfl
    rw [e, cntF]
    by_cases hl : d.least ≤ (head.length : Int)
    · rw [if_pos ⟨rfl, hl⟩, if_pos (by omega)]
    · rw [if_neg (by omega), if_neg (by omega)]
  | x :: u, head, h, hm => by
    have hle := lateL_le d.lo u
    have hT := h.take
    have hhas := hT.has he
    have hlen : ((head ++ [x]).length : Int) = (head.length : Int) + 1 := by simp
    rw [hlen] at hhas
    -- what comes with x
    have key : (if (head.length : Int) + 1 + (lateL d.lo u : Int) ≤ d.most then (if hasD d (head ++ [x]) = true then [head ++ [x]] else []) ++ (if d.most ≤ (head.length : Int) + 1 then [] else loopL d (head ++ [x]) u) else []).length =
        cntF (u.length - lateL d.lo u) (d.least - head.length - 1 - lateL d.lo u) (d.most - head.length - 1 - lateL d.lo u) := by
      by_cases hc : (head.length : Int) + 1 + (lateL d.lo u : Int) ≤ d.most
      · rw [if_pos hc, hhas, List.length_append]
        by_cases hq : d.most ≤ (head.length : Int) + 1
        · rw [if_pos hq]
          have h0 : lateL d.lo u = 0 := by omega
          by_cases hb : d.least ≤ (head.length : Int) + 1
          · rw [if_pos (decide_eq_true ⟨h0, hb, by omega⟩), h0]
            have : cntF (u.length - 0) (d.least - head.length - 1 - (0 : Nat)) (d.most - head.length - 1 - (0 : Nat)) = 1 := by
              rw [cntF_clip, show max (d.least - head.length - 1 - (0 : Nat) : Int) 0 = ((0 : Nat) : Int) by omega, show min (d.most - head.length - 1 - (0 : Nat) : Int) ((u.length - 0 : Nat) : Int) = ((0 : Nat) : Int) by omega, ← bin_cnt, bin_zero]
            rw [this]
            rfl
          · rw [if_neg (by simp; omega)]
            rw [cntF_zero _ _ _ (by omega)]
            rfl
        · rw [if_neg hq]
          have ih := loop_count he u (head ++ [x]) hT (by rw [hlen]; omega)
          rw [hlen] at ih
          rw [show d.least - head.length - 1 - (lateL d.lo u : Int) = d.least - (head.length + 1) - lateL d.lo u by omega, show d.most - head.length - 1 - (lateL d.lo u : Int) = d.most - (head.length + 1) - lateL d.lo u by omega, ← ih]
          by_cases hb : lateL d.lo u = 0 ∧ d.least ≤ (head.length : Int) + 1
          · rw [if_pos hb, if_pos (decide_eq_true ⟨hb.1, hb.2, by omega⟩), List.length_singleton]
            omega
          · rw [if_neg hb, if_neg (by simp; omega)]
            simp
      · rw [if_neg hc, cntF_zero _ _ _ (by omega)]
        rfl
    rw [loopL]
    by_cases hp : d.least ≤ (head.length : Int) + (u.length : Int) + 1
    · rw [if_pos hp, List.length_append, key]
      by_cases hx : x ∈ d.lo
      · rw [if_pos hx, lateL_cons, if_pos hx, if_neg (by omega), List.length_cons]
        rw [show u.length + 1 - (lateL d.lo u + 1) = u.length - lateL d.lo u by omega, show (d.least - head.length - (lateL d.lo u + 1 : Nat) : Int) = d.least - head.length - 1 - lateL d.lo u by omega, show (d.most - head.length - (lateL d.lo u + 1 : Nat) : Int) = d.most - head.length - 1 - lateL d.lo u by omega]
        simp
      · have ih := loop_count he u head (h.pass hx) hm
        rw [if_neg hx, lateL_cons, if_neg hx, Nat.add_zero, List.length_cons]
        rw [show u.length + 1 - lateL d.lo u = (u.length - lateL d.lo u) + 1 by omega, cntF, ← ih, show (d.least - head.length - (lateL d.lo u : Int) - 1) = d.least - head.length - 1 - lateL d.lo u by omega, show (d.most - head.length - (lateL d.lo u : Int) - 1) = d.most - head.length - 1 - lateL d.lo u by omega]
        omega
    · rw [if_neg hp, lateL_cons]
      rw [if_neg (by omega), cntF_zero _ _ _ (by rw [List.length_cons]; split <;> omega)]
      rfl
theorem all_count {d : DomD} (he : emptyD d = false) : (allD d).length = cntF (d.up.length - d.lo.length) (d.least - d.lo.length) (d.most - d.lo.length) := by
  obtain ⟨f1, f2, f3, f4, f5, f6, f7, f8⟩ := full_of he
  have hl : lateL d.lo d.up = d.lo.length := by
    unfold lateL
    have : (d.up.filter fun v => decide (v ∈ d.lo)) = d.lo := by
      refine ris_ext _ _ (ris_filter _ (set_ris f4)) (set_ris f3) fun v => ?_
      rw [List.mem_filter, decide_eq_true_iff]
      rw [subS_iff, asL_of f3, asL_of f4] at f5
      exact ⟨fun h => h.2, fun h => ⟨f5 v h, h⟩⟩
    rw [this]
  have hs := At.start d
  have hhas := hs.has he
  rw [hl] at hhas
  unfold allD walkL
  rw [if_neg (by rw [he]; decide), List.length_append, hhas]
  by_cases hm : d.most ≤ (([] : List Int).length : Int)
  · rw [if_pos hm]
    have h0 : d.lo.length = 0 ∧ d.least = 0 ∧ d.most = 0 := by simp at hm; omega
    rw [if_pos (decide_eq_true ⟨h0.1, by simp; omega, by simp; omega⟩), h0.1, h0.2.1, h0.2.2]
    have : cntF (d.up.length - 0) ((0 : Int) - (0 : Nat)) ((0 : Int) - (0 : Nat)) = 1 := by
      have := bin_cnt (d.up.length - 0) 0
      rw [bin_zero] at this
      exact this.symm
    rw [this]
    rfl
  · rw [if_neg hm]
    have ih := loop_count he d.up [] hs (by omega)
    rw [hl] at ih
    simp only [List.length_nil] at ih hm ⊢
    rw [show (d.least - (0 : Nat) - (d.lo.length : Int)) = d.least - d.lo.length by omega, show (d.most - (0 : Nat) - (d.lo.length : Int)) = d.most - d.lo.length by omega] at ih
    rw [← ih]
    by_cases hb : d.lo.length = 0 ∧ d.least ≤ ((0 : Nat) : Int)
    · rw [if_pos hb, if_pos (decide_eq_true ⟨hb.1, hb.2, by omega⟩), List.length_singleton]
      omega
    · rw [if_neg hb, if_neg (by simp; omega)]
      simp

end Go.Proofs.YtjeomiooheoegaaGreatDoor.PD

namespace Go.Proofs.YtjeomiooheoegaaGreatDoor.PD
open Go.RowKit Go.Proofs.YtjeomiooheoegaaGreatDoorW.PrintWords Go.Proofs.YtjeomiooheoegaaGreatDoorW.PrintLast Go.Proofs.YtjeomiooheoegaaGreatDoorW.PrintMore
set_option linter.unusedVariables false
set_option linter.unusedSimpArgs false
/-! ### tight domains: what they have, how many -/
def inS (v : Int) (l : List Int) : Bool := decide (v ∈ asL l)
/-- so many sets there are -/
def countN (d : DomD) : Nat := if emptyD d = true then 0 else cntF (d.up.length - d.lo.length) (d.least - d.lo.length) (d.most - d.lo.length)
def lots : Int := 4611686018427387904
def countD (d : DomD) : Int := min (countN d : Int) lots
theorem all_countN (d : DomD) : (allD d).length = countN d := by
  unfold countN
  cases h : emptyD d with
  | true => unfold allD; rw [if_pos h, if_pos rfl]; rfl
  | false => rw [if_neg (by decide)]; exact all_count h
/-! ### with a value, without it, with so many elements; of two -/
/-! ### an algebra -/
end Go.Proofs.YtjeomiooheoegaaGreatDoor.PD

namespace Go.Proofs.YtjeomiooheoegaaGreatDoor.PD
open Go.RowKit Go.Proofs.YtjeomiooheoegaaGreatDoorW.PrintWords Go.Proofs.YtjeomiooheoegaaGreatDoorW.PrintLast Go.Proofs.YtjeomiooheoegaaGreatDoorW.PrintMore
set_option linter.unusedVariables false
set_option linter.unusedSimpArgs false
/-! ### rows of Pascal's triangle as both sides make them -/
def sums : List Nat → List Nat
  | x :: y :: t => (x + y) :: sums (y :: t)
  | _ => []
theorem sums_len : ∀ r : List Nat, (sums r).length = r.length - 1
  | [] => rfl
  | [x] => rfl
  | x :: y :: t => by
    rw [sums, List.length_cons, sums_len (y :: t)]
    simp
theorem pair_sums : ∀ (r : List Nat) (z : Nat), r.getLast? = some z → pairSum r = sums r ++ [z]
  | [], z, h => by cases h
  | [x], z, h => by
    injection h with h
    subst h
    rfl
  | x :: y :: t, z, h => by
    have h' : (y :: t).getLast? = some z := by rw [← h]; rfl
    rw [pairSum, sums, pair_sums (y :: t) z h']
    rfl
theorem row_last : ∀ n, (rowP n).getLast? = some 1
  | 0 => rfl
  | n + 1 => by
    rw [rowP, pair_sums _ _ (row_last n)]
    show ((1 :: sums (rowP n)) ++ [1]).getLast? = some 1
    rw [List.getLast?_append]
    rfl
theorem row_next (n : Nat) : rowP (n + 1) = 1 :: (sums (rowP n) ++ [1]) := by
  rw [rowP, pair_sums _ _ (row_last n)]
theorem sums_at : ∀ (r : List Nat) (i : Nat) (h : i + 1 < r.length), (sums r)[i]? = some (r[i] + r[i + 1])
  | [], i, h => by simp at h
  | [x], i, h => by simp at h
  | x :: y :: t, 0, h => by simp [sums]
  | x :: y :: t, i + 1, h => by
    rw [sums, List.getElem?_cons_succ, sums_at (y :: t) i (by simpa using h)]
    rfl
theorem sums_take (r : List Nat) (i : Nat) (h : i + 1 < r.length) : (sums r).take (i + 1) = (sums r).take i ++ [r[i] + r[i + 1]] := by
  have hl : i < (sums r).length := by rw [sums_len]; omega
  have e := sums_at r i h
  rw [List.getElem?_eq_getElem hl] at e
  injection e with e
  rw [List.take_succ_eq_append_getElem hl, e]
theorem row_small (n : Nat) (hn : n ≤ 64) (k : Nat) (h : k < (rowP n).length) : (rowP n)[k] < 2305843009213693952 := by
  have := bin_small n hn k
  unfold bin at0 at this
  rw [List.getD_eq_getElem?_getD, List.getElem?_eq_getElem h] at this
  exact this
theorem row_bin (n k : Nat) (h : k < (rowP n).length) : (rowP n)[k] = bin n k := by
  unfold bin at0
  rw [List.getD_eq_getElem?_getD, List.getElem?_eq_getElem h]
  rfl
/-- a sum of a row's numbers, one more -/
theorem sumB_snoc (n : Nat) : ∀ (d k : Nat), sumB n k (d + 1) = sumB n k d + bin n (k + d)
  | 0, k => by simp [sumB]
  | d + 1, k => by
    rw [sumB, sumB_snoc n d (k + 1), sumB]
    rw [show k + 1 + d = k + (d + 1) by omega]
    omega
/-- how many a domain has, as a sum -/
theorem count_sum {d : DomD} (he : emptyD d = false) : countN d = sumB (d.up.length - d.lo.length) (d.least - d.lo.length).toNat (d.most - d.least + 1).toNat := by
  obtain ⟨f1, f2, f3, f4, f5, f6, f7, f8⟩ := full_of he
  rw [sumB_cnt]
  unfold countN
  rw [if_neg (by rw [he]; decide)]
  congr 1 <;> omega
/-! ### all sets of a domain -/
theorem loop_walk (d : DomD) (head : List Int) (x : Int) (u : List Int) : loopL d head (x :: u) = if d.least ≤ (head.length : Int) + (u.length : Int) + 1 then (if (head.length : Int) + 1 + (lateL d.lo u : Int) ≤ d.most then walkL d (head ++ [x]) u else []) ++ (if x ∈ d.lo then [] else loopL d head u) else [] := by
  rw [loopL]
  unfold walkL
  have e : ((head ++ [x]).length : Int) = (head.length : Int) + 1 := by simp
  rw [e]
theorem count_one {d : DomD} (h : countD d = 1) : ∃ l, allD d = [l] := by
  have e := all_countN d
  unfold countD lots at h
  have : (allD d).length = 1 := by omega
  match hl : allD d with
  | [] => rw [hl] at this; cases this
  | [l] => exact ⟨l, rfl⟩
  | a :: b :: t => rw [hl] at this; simp at this
theorem lots_step (a b : Nat) : min (min (a : Int) lots + b) lots = min ((a + b : Nat) : Int) lots := by unfold lots; omega
end Go.Proofs.YtjeomiooheoegaaGreatDoor.PD

namespace Go.Proofs.YtjeomiooheoegaaGreatDoor.PD
open Go.RowKit Go.Proofs.YtjeomiooheoegaaGreatDoorW.PrintWords Go.Proofs.YtjeomiooheoegaaGreatDoorW.PrintLast Go.Proofs.YtjeomiooheoegaaGreatDoorW.PrintMore
attribute [local go_sem] max2_int min2_int max_two min_two max_three min_three max_four min_four   -- for this text's walks alone
set_option linter.unusedVariables false
set_option linter.unusedSimpArgs false

/-! ### sets_Set: function 68 -/
def sets_Set.l0 : Nat → List Int → List Int → Int → Int → Option (Bool)
  | 0, _, _, _, _ => none
  | k + 1, x0, x8, x9, x10 => if x10 < x9 then (if 0 ≤ x10 then (if x10 < (x8.length : Int) then (if (rd x8 x10) < (-1000000) then (some false) else (if (rd x8 x10) > 1000000 then (some false) else (if x10 > 0 then (if 0 ≤ (wrap64 (x10 - 1)) then (if (wrap64 (x10 - 1)) < (x0.length : Int) then (if (rd x0 (wrap64 (x10 - 1))) ≥ (rd x8 x10) then (some false) else (sets_Set.l0 k x0 x8 x9 (wrap64 (x10 + 1)))) else (none)) else (none)) else (sets_Set.l0 k x0 x8 x9 (wrap64 (x10 + 1)))))) else (none)) else (none)) else (some true)
def sets_Set.f (k : Nat) (l0 : List Int) : Option (Bool) := if (l0.length : Int) > 64 then (some false) else (sets_Set.l0 k l0 l0 (l0.length : Int) 0)
theorem sets_Set.mono_l : ∀ k, (∀ y0 y1 y2 y3, LeO (sets_Set.l0 k y0 y1 y2 y3) (sets_Set.l0 (k + 1) y0 y1 y2 y3))
  | 0 => fun _ _ _ _ r h => by simp [sets_Set.l0] at h
  | k + 1 => by
    have ih0 := sets_Set.mono_l k
    · intro y0 y1 y2 y3
      unfold sets_Set.l0
      repeat' first
      | (with_reducible exact ih0 _ _ _ _)
      | (with_reducible exact LeO.refl _)
      | (with_reducible exact LeO.none _)
      | (with_reducible refine LeO.ite ?_ ?_)
      | (with_reducible refine LeO.bind ?_ (fun _ => ?_))
      | exact ih0 _ _ _ _
      | exact LeO.none _
      | refine LeO.ite ?_ ?_
      | refine LeO.bind ?_ (fun _ => ?_)
theorem sets_Set.mono : ∀ a0 k, LeO (sets_Set.f k a0) (sets_Set.f (k + 1) a0) := by
  intro a0 k
  have ih0 := sets_Set.mono_l k
  unfold sets_Set.f
  repeat' first
      | (with_reducible exact ih0 _ _ _ _)
      | (with_reducible exact LeO.refl _)
      | (with_reducible exact LeO.none _)
      | (with_reducible refine LeO.ite ?_ ?_)
      | (with_reducible refine LeO.bind ?_ (fun _ => ?_))
      | exact ih0 _ _ _ _
      | exact LeO.none _
      | refine LeO.ite ?_ ?_
      | refine LeO.bind ?_ (fun _ => ?_)
set_option maxHeartbeats 8000000 in
set_option maxRecDepth 100000 in
theorem sets_Set.calls (k : Nat) (A0 : Option Addr) (c0 : Nat) (l0 : List Int) (r : Bool) (w : World) (hr0 : Kd.C (Kd.int .i64) w A0 l0.length l0) (hc0 : l0.length ≤ c0) (h : sets_Set.f k l0 = some r) :
    Calls Tryz.prog 68 #[.slice A0 l0.length c0] w fun e w' => e = .returned (.bool r) ∧ Drawn0 w w' := by
  have HR0 := Aside0.mk hr0
  have HC0 := Aside0.mk hc0
  clear hr0 hc0
  have H : (if (l0.length : Int) > 64 then (some false) else (sets_Set.l0 k l0 l0 (l0.length : Int) 0)) = some r := h
  clear h
  by_cases c2 : (l0.length : Int) > 64
  · rw [if_pos c2] at H
    have c2b0 : decide (64 < (l0.length : Int)) = true := decide_eq_true c2
    have c2b1 : decide (64 < l0.length) = true := decide_eq_true (by omega)
    clear c2
    obtain rfl := Option.some.inj H
    go_enter Tryz.func68, Tryz.ntmps68
    go_wp2
    go_ret
    exact ⟨by first | rfl | (simp; done) | (simp [*]; done), by repeat (first | exact Drawn0.refl _ | apply Drawn0.step)⟩
  · rw [if_neg c2] at H
    have c2b0 : decide (64 < (l0.length : Int)) = false := decide_eq_false c2
    have c2b1 : decide (64 < l0.length) = false := decide_eq_false (by omega)
    clear c2
    have H' := Aside0.mk H
    clear H
    go_enter Tryz.func68, Tryz.ntmps68
    go_wp2
    go_loopg [10] k (fun kq v10 w' => ∃ (x10_1 : Int), v10 = .int .i64 x10_1 ∧ Aside0 (sets_Set.l0 kq l0 l0 (l0.length : Int) x10_1 = some r) ∧ Aside0 (kq ≤ k) ∧ Drawn0 w w')
    case atStart => exact ⟨(0), (by first | rfl | (simp; done) | (simp [*]; done)), H', ⟨Nat.le_refl _⟩, by repeat (first | exact Drawn0.refl _ | apply Drawn0.step)⟩
    case round =>
      clear H'
      try clear c2
      try clear c2b0
      try clear c2b1
      try clear p2
      obtain ⟨x10_1, rfl, HA, HK1, ⟨m1, rfl⟩⟩ := hrel
      cases gk with
      | zero => exact absurd HA.out (by simp [sets_Set.l0])
      | succ k1 =>
        have H := HA.out
        clear HA
        simp only [sets_Set.l0] at H
        by_cases c3 : x10_1 < (l0.length : Int)
        · rw [if_pos c3] at H
          have c3b0 : decide (x10_1 < (l0.length : Int)) = true := decide_eq_true c3
          clear c3
          by_cases c4 : 0 ≤ x10_1
          · rw [if_pos c4] at H
            have c4b0 : decide (0 ≤ x10_1) = true := decide_eq_true c4
            clear c4
            by_cases c5 : x10_1 < (l0.length : Int)
            · rw [if_pos c5] at H
              have c5b0 : decide (x10_1 < (l0.length : Int)) = true := decide_eq_true c5
              clear c5
              by_cases c6 : (rd l0 x10_1) < (-1000000)
              · rw [if_pos c6] at H
                have c6b0 : decide ((rd l0 x10_1) < (-1000000)) = true := decide_eq_true c6
                clear c6
                obtain rfl := Option.some.inj H
                have p103 : 0 ≤ (x10_1 : Int) := of_decide_eq_true (by first | (with_reducible assumption) | assumption)
                have q103 : x10_1 < (l0.length : Int) := of_decide_eq_true (by first | (with_reducible assumption) | assumption)
                obtain ⟨ad103, e103, hx103_0⟩ := Kd.at_int HR0.out x10_1 p103 q103
                cases e103
                replace p103 := eq_true p103
                replace q103 := eq_true q103
                go_wp2
                go_ret
                exact ⟨by first | rfl | (simp; done) | (simp [*]; done), by repeat (first | exact Drawn0.refl _ | apply Drawn0.step)⟩
              · rw [if_neg c6] at H
                have c6b0 : decide ((rd l0 x10_1) < (-1000000)) = false := decide_eq_false c6
                clear c6
                by_cases c7 : (rd l0 x10_1) > 1000000
                · rw [if_pos c7] at H
                  have c7b0 : decide (1000000 < (rd l0 x10_1)) = true := decide_eq_true c7
                  clear c7
                  obtain rfl := Option.some.inj H
                  have p103 : 0 ≤ (x10_1 : Int) := of_decide_eq_true (by first | (with_reducible assumption) | assumption)
                  have q103 : x10_1 < (l0.length : Int) := of_decide_eq_true (by first | (with_reducible assumption) | assumption)
                  obtain ⟨ad103, e103, hx103_0⟩ := Kd.at_int HR0.out x10_1 p103 q103
                  cases e103
                  replace p103 := eq_true p103
                  replace q103 := eq_true q103
                  go_wp2
                  go_ret
                  exact ⟨by first | rfl | (simp; done) | (simp [*]; done), by repeat (first | exact Drawn0.refl _ | apply Drawn0.step)⟩
                · rw [if_neg c7] at H
                  have c7b0 : decide (1000000 < (rd l0 x10_1)) = false := decide_eq_false c7
                  clear c7
                  by_cases c8 : x10_1 > 0
                  · rw [if_pos c8] at H
                    have c8b0 : decide (0 < x10_1) = true := decide_eq_true c8
                    clear c8
                    obtain ⟨ji9, hji9⟩ : ∃ j_ : Int, (wrap64 (x10_1 - 1)) = j_ := ⟨_, rfl⟩
                    replace H : (if 0 ≤ (ji9) then (if (ji9) < (l0.length : Int) then (if (rd l0 (ji9)) ≥ (rd l0 x10_1) then (some false) else (sets_Set.l0 k1 l0 l0 (l0.length : Int) (wrap64 (x10_1 + 1)))) else (none)) else (none)) = some r := by first | (rw [hji9] at H; exact H) | (simp only [hji9] at H ⊢; exact H)
                    have hji9w : (IntKind.i64.wrap (x10_1 - 1)) = ji9 := (i64_w _).trans hji9
                    by_cases c10 : 0 ≤ (ji9)
                    · rw [if_pos c10] at H
                      have c10b0 : decide (0 ≤ (ji9)) = true := decide_eq_true c10
                      clear c10
                      by_cases c11 : (ji9) < (l0.length : Int)
                      · rw [if_pos c11] at H
                        have c11b0 : decide ((ji9) < (l0.length : Int)) = true := decide_eq_true c11
                        clear c11
                        by_cases c12 : (rd l0 (ji9)) ≥ (rd l0 x10_1)
                        · rw [if_pos c12] at H
                          have c12b0 : decide ((rd l0 x10_1) ≤ (rd l0 (ji9))) = true := decide_eq_true c12
                          clear c12
                          obtain rfl := Option.some.inj H
                          have p103 : 0 ≤ (x10_1 : Int) := of_decide_eq_true (by first | (with_reducible assumption) | assumption)
                          have q103 : x10_1 < (l0.length : Int) := of_decide_eq_true (by first | (with_reducible assumption) | assumption)
                          obtain ⟨ad103, e103, hx103_0⟩ := Kd.at_int HR0.out x10_1 p103 q103
                          cases e103
                          replace p103 := eq_true p103
                          replace q103 := eq_true q103
                          have p104 : 0 ≤ ((ji9) : Int) := of_decide_eq_true (by first | (with_reducible assumption) | assumption)
                          have q104 : (ji9) < (l0.length : Int) := of_decide_eq_true (by first | (with_reducible assumption) | assumption)
                          obtain ⟨ad104, e104, hx104_0⟩ := Kd.at_int HR0.out (ji9) p104 q104
                          obtain rfl : ad103 = ad104 := (by injection e104)
                          replace p104 := eq_true p104
                          replace q104 := eq_true q104
                          go_wp2
                          go_ret
                          exact ⟨by first | rfl | (simp; done) | (simp only [← hji9] <;> (first | rfl | simp)) | (simp [*]; done), by repeat (first | exact Drawn0.refl _ | apply Drawn0.step)⟩
                        · rw [if_neg c12] at H
                          have c12b0 : decide ((rd l0 x10_1) ≤ (rd l0 (ji9))) = false := decide_eq_false c12
                          clear c12
                          have H' := Aside0.mk H
                          clear H
                          have p103 : 0 ≤ (x10_1 : Int) := of_decide_eq_true (by first | (with_reducible assumption) | assumption)
                          have q103 : x10_1 < (l0.length : Int) := of_decide_eq_true (by first | (with_reducible assumption) | assumption)
                          obtain ⟨ad103, e103, hx103_0⟩ := Kd.at_int HR0.out x10_1 p103 q103
                          cases e103
                          replace p103 := eq_true p103
                          replace q103 := eq_true q103
                          have p104 : 0 ≤ ((ji9) : Int) := of_decide_eq_true (by first | (with_reducible assumption) | assumption)
                          have q104 : (ji9) < (l0.length : Int) := of_decide_eq_true (by first | (with_reducible assumption) | assumption)
                          obtain ⟨ad104, e104, hx104_0⟩ := Kd.at_int HR0.out (ji9) p104 q104
                          obtain rfl : ad103 = ad104 := (by injection e104)
                          replace p104 := eq_true p104
                          replace q104 := eq_true q104
                          go_wp2
                          go_roundg k1
                          case measure => have := HK1.out; omega
                          case rel => exact ⟨(wrap64 (x10_1 + 1)), (by first | rfl | (simp; done) | (simp [*]; done)), H', ⟨by have := HK1.out; omega⟩, by repeat (first | exact Drawn0.refl _ | apply Drawn0.step)⟩
                      · rw [if_neg c11] at H
                        exact absurd H (by simp)
                    · rw [if_neg c10] at H
                      exact absurd H (by simp)
                  · rw [if_neg c8] at H
                    have c8b0 : decide (0 < x10_1) = false := decide_eq_false c8
                    clear c8
                    have H' := Aside0.mk H
                    clear H
                    have p103 : 0 ≤ (x10_1 : Int) := of_decide_eq_true (by first | (with_reducible assumption) | assumption)
                    have q103 : x10_1 < (l0.length : Int) := of_decide_eq_true (by first | (with_reducible assumption) | assumption)
                    obtain ⟨ad103, e103, hx103_0⟩ := Kd.at_int HR0.out x10_1 p103 q103
                    cases e103
                    replace p103 := eq_true p103
                    replace q103 := eq_true q103
                    go_wp2
                    go_roundg k1
                    case measure => have := HK1.out; omega
                    case rel => exact ⟨(wrap64 (x10_1 + 1)), (by first | rfl | (simp; done) | (simp [*]; done)), H', ⟨by have := HK1.out; omega⟩, by repeat (first | exact Drawn0.refl _ | apply Drawn0.step)⟩
            · rw [if_neg c5] at H
              exact absurd H (by simp)
          · rw [if_neg c4] at H
            exact absurd H (by simp)
        · rw [if_neg c3] at H
          have c3b0 : decide (x10_1 < (l0.length : Int)) = false := decide_eq_false c3
          clear c3
          obtain rfl := Option.some.inj H
          go_wp2
          go_ret
          exact ⟨by first | rfl | (simp; done) | (simp [*]; done), by repeat (first | exact Drawn0.refl _ | apply Drawn0.step)⟩
end Go.Proofs.YtjeomiooheoegaaGreatDoor.PD

namespace Go.Proofs.YtjeomiooheoegaaGreatDoor.PD
open Go.RowKit Go.Proofs.YtjeomiooheoegaaGreatDoorW.PrintWords Go.Proofs.YtjeomiooheoegaaGreatDoorW.PrintLast Go.Proofs.YtjeomiooheoegaaGreatDoorW.PrintMore
attribute [local go_sem] max2_int min2_int max_two min_two max_three min_three max_four min_four   -- for this text's walks alone
set_option linter.unusedVariables false
set_option linter.unusedSimpArgs false

/-! ### jigsawref04_Set: function 69 -/
def jigsawref04_Set.l0 : Nat → List Int → Int → Option (Bool)
  | 0, _, _ => none
  | k + 1, x0, x3 => if x3 < (x0.length : Int) then (if 0 ≤ x3 then (if (rd x0 x3) < (-1000000) then (some false) else (if (rd x0 x3) > 1000000 then (some false) else (if x3 > 0 then (if 0 ≤ (wrap64 (x3 - 1)) then (if (wrap64 (x3 - 1)) < (x0.length : Int) then (if (rd x0 x3) ≤ (rd x0 (wrap64 (x3 - 1))) then (some false) else (jigsawref04_Set.l0 k x0 (wrap64 (x3 + 1)))) else (none)) else (none)) else (jigsawref04_Set.l0 k x0 (wrap64 (x3 + 1)))))) else (none)) else (some true)
def jigsawref04_Set.f (k : Nat) (l0 : List Int) : Option (Bool) := if (l0.length : Int) > 64 then (some false) else (jigsawref04_Set.l0 k l0 0)
theorem jigsawref04_Set.mono_l : ∀ k, (∀ y0 y1, LeO (jigsawref04_Set.l0 k y0 y1) (jigsawref04_Set.l0 (k + 1) y0 y1))
  | 0 => fun _ _ r h => by simp [jigsawref04_Set.l0] at h
  | k + 1 => by
    have ih0 := jigsawref04_Set.mono_l k
    · intro y0 y1
      unfold jigsawref04_Set.l0
      repeat' first
      | (with_reducible exact ih0 _ _)
      | (with_reducible exact LeO.refl _)
      | (with_reducible exact LeO.none _)
      | (with_reducible refine LeO.ite ?_ ?_)
      | (with_reducible refine LeO.bind ?_ (fun _ => ?_))
      | exact ih0 _ _
      | exact LeO.none _
      | refine LeO.ite ?_ ?_
      | refine LeO.bind ?_ (fun _ => ?_)
theorem jigsawref04_Set.mono : ∀ a0 k, LeO (jigsawref04_Set.f k a0) (jigsawref04_Set.f (k + 1) a0) := by
  intro a0 k
  have ih0 := jigsawref04_Set.mono_l k
  unfold jigsawref04_Set.f
  repeat' first
      | (with_reducible exact ih0 _ _)
      | (with_reducible exact LeO.refl _)
      | (with_reducible exact LeO.none _)
      | (with_reducible refine LeO.ite ?_ ?_)
      | (with_reducible refine LeO.bind ?_ (fun _ => ?_))
      | exact ih0 _ _
      | exact LeO.none _
      | refine LeO.ite ?_ ?_
      | refine LeO.bind ?_ (fun _ => ?_)
set_option maxHeartbeats 8000000 in
set_option maxRecDepth 100000 in
theorem jigsawref04_Set.calls (k : Nat) (A0 : Option Addr) (c0 : Nat) (l0 : List Int) (r : Bool) (w : World) (hr0 : Kd.C (Kd.int .i64) w A0 l0.length l0) (hc0 : l0.length ≤ c0) (h : jigsawref04_Set.f k l0 = some r) :
    Calls Tryz.prog 69 #[.slice A0 l0.length c0] w fun e w' => e = .returned (.bool r) ∧ Drawn0 w w' := by
  have HR0 := Aside0.mk hr0
  have HC0 := Aside0.mk hc0
  clear hr0 hc0
  have H : (if (l0.length : Int) > 64 then (some false) else (jigsawref04_Set.l0 k l0 0)) = some r := h
  clear h
  by_cases c2 : (l0.length : Int) > 64
  · rw [if_pos c2] at H
    have c2b0 : decide (64 < (l0.length : Int)) = true := decide_eq_true c2
    have c2b1 : decide (64 < l0.length) = true := decide_eq_true (by omega)
    clear c2
    obtain rfl := Option.some.inj H
    go_enter Tryz.func69, Tryz.ntmps69
    go_wp2
    repeat (go_quiet (fail); try go_wp2)
    go_ret
    exact ⟨by first | rfl | (simp; done) | (simp [*]; done), by repeat (first | exact Drawn0.refl _ | apply Drawn0.step)⟩
  · rw [if_neg c2] at H
    have c2b0 : decide (64 < (l0.length : Int)) = false := decide_eq_false c2
    have c2b1 : decide (64 < l0.length) = false := decide_eq_false (by omega)
    clear c2
    have H' := Aside0.mk H
    clear H
    go_enter Tryz.func69, Tryz.ntmps69
    go_wp2
    repeat (go_quiet (fail); try go_wp2)
    go_loopg [3] k (fun kq v3 w' => ∃ (x3_1 : Int), v3 = .int .i64 x3_1 ∧ Aside0 (jigsawref04_Set.l0 kq l0 x3_1 = some r) ∧ Aside0 (kq ≤ k) ∧ Drawn0 w w')
    case atStart => exact ⟨(0), (by first | rfl | (simp; done) | (simp [*]; done)), H', ⟨Nat.le_refl _⟩, by repeat (first | exact Drawn0.refl _ | apply Drawn0.step)⟩
    case round =>
      clear H'
      try clear c2
      try clear c2b0
      try clear c2b1
      try clear p2
      obtain ⟨x3_1, rfl, HA, HK1, ⟨m1, rfl⟩⟩ := hrel
      cases gk with
      | zero => exact absurd HA.out (by simp [jigsawref04_Set.l0])
      | succ k1 =>
        have H := HA.out
        clear HA
        simp only [jigsawref04_Set.l0] at H
        by_cases c3 : x3_1 < (l0.length : Int)
        · rw [if_pos c3] at H
          have c3b0 : decide (x3_1 < (l0.length : Int)) = true := decide_eq_true c3
          clear c3
          by_cases c4 : 0 ≤ x3_1
          · rw [if_pos c4] at H
            have c4b0 : decide (0 ≤ x3_1) = true := decide_eq_true c4
            clear c4
            by_cases c5 : (rd l0 x3_1) < (-1000000)
            · rw [if_pos c5] at H
              have c5b0 : decide ((rd l0 x3_1) < (-1000000)) = true := decide_eq_true c5
              clear c5
              obtain rfl := Option.some.inj H
              have p374 : 0 ≤ (x3_1 : Int) := of_decide_eq_true (by first | (with_reducible assumption) | assumption)
              have q374 : x3_1 < (l0.length : Int) := of_decide_eq_true (by first | (with_reducible assumption) | assumption)
              obtain ⟨ad374, e374, hx374_0⟩ := Kd.at_int HR0.out x3_1 p374 q374
              cases e374
              replace p374 := eq_true p374
              replace q374 := eq_true q374
              go_wp2
              repeat (go_quiet (fail); try go_wp2)
              go_ret
              exact ⟨by first | rfl | (simp; done) | (simp [*]; done), by repeat (first | exact Drawn0.refl _ | apply Drawn0.step)⟩
            · rw [if_neg c5] at H
              have c5b0 : decide ((rd l0 x3_1) < (-1000000)) = false := decide_eq_false c5
              clear c5
              by_cases c6 : (rd l0 x3_1) > 1000000
              · rw [if_pos c6] at H
                have c6b0 : decide (1000000 < (rd l0 x3_1)) = true := decide_eq_true c6
                clear c6
                obtain rfl := Option.some.inj H
                have p374 : 0 ≤ (x3_1 : Int) := of_decide_eq_true (by first | (with_reducible assumption) | assumption)
                have q374 : x3_1 < (l0.length : Int) := of_decide_eq_true (by first | (with_reducible assumption) | assumption)
                obtain ⟨ad374, e374, hx374_0⟩ := Kd.at_int HR0.out x3_1 p374 q374
                cases e374
                replace p374 := eq_true p374
                replace q374 := eq_true q374
                have p375 : 0 ≤ (x3_1 : Int) := of_decide_eq_true (by first | (with_reducible assumption) | assumption)
                have q375 : x3_1 < (l0.length : Int) := of_decide_eq_true (by first | (with_reducible assumption) | assumption)
                obtain ⟨ad375, e375, hx375_0⟩ := Kd.at_int HR0.out x3_1 p375 q375
                obtain rfl : ad374 = ad375 := (by injection e375)
                replace p375 := eq_true p375
                replace q375 := eq_true q375
                go_wp2
                repeat (go_quiet (fail); try go_wp2)
                go_ret
                exact ⟨by first | rfl | (simp; done) | (simp [*]; done), by repeat (first | exact Drawn0.refl _ | apply Drawn0.step)⟩
              · rw [if_neg c6] at H
                have c6b0 : decide (1000000 < (rd l0 x3_1)) = false := decide_eq_false c6
                clear c6
                by_cases c7 : x3_1 > 0
                · rw [if_pos c7] at H
                  have c7b0 : decide (0 < x3_1) = true := decide_eq_true c7
                  clear c7
                  obtain ⟨ji8, hji8⟩ : ∃ j_ : Int, (wrap64 (x3_1 - 1)) = j_ := ⟨_, rfl⟩
                  replace H : (if 0 ≤ (ji8) then (if (ji8) < (l0.length : Int) then (if (rd l0 x3_1) ≤ (rd l0 (ji8)) then (some false) else (jigsawref04_Set.l0 k1 l0 (wrap64 (x3_1 + 1)))) else (none)) else (none)) = some r := by first | (rw [hji8] at H; exact H) | (simp only [hji8] at H ⊢; exact H)
                  have hji8w : (IntKind.i64.wrap (x3_1 - 1)) = ji8 := (i64_w _).trans hji8
                  by_cases c9 : 0 ≤ (ji8)
                  · rw [if_pos c9] at H
                    have c9b0 : decide (0 ≤ (ji8)) = true := decide_eq_true c9
                    clear c9
                    by_cases c10 : (ji8) < (l0.length : Int)
                    · rw [if_pos c10] at H
                      have c10b0 : decide ((ji8) < (l0.length : Int)) = true := decide_eq_true c10
                      clear c10
                      by_cases c11 : (rd l0 x3_1) ≤ (rd l0 (ji8))
                      · rw [if_pos c11] at H
                        have c11b0 : decide ((rd l0 x3_1) ≤ (rd l0 (ji8))) = true := decide_eq_true c11
                        clear c11
                        obtain rfl := Option.some.inj H
                        have p374 : 0 ≤ (x3_1 : Int) := of_decide_eq_true (by first | (with_reducible assumption) | assumption)
                        have q374 : x3_1 < (l0.length : Int) := of_decide_eq_true (by first | (with_reducible assumption) | assumption)
                        obtain ⟨ad374, e374, hx374_0⟩ := Kd.at_int HR0.out x3_1 p374 q374
                        cases e374
                        replace p374 := eq_true p374
                        replace q374 := eq_true q374
                        have p375 : 0 ≤ (x3_1 : Int) := of_decide_eq_true (by first | (with_reducible assumption) | assumption)
                        have q375 : x3_1 < (l0.length : Int) := of_decide_eq_true (by first | (with_reducible assumption) | assumption)
                        obtain ⟨ad375, e375, hx375_0⟩ := Kd.at_int HR0.out x3_1 p375 q375
                        obtain rfl : ad374 = ad375 := (by injection e375)
                        replace p375 := eq_true p375
                        replace q375 := eq_true q375
                        have p376 : 0 ≤ (x3_1 : Int) := of_decide_eq_true (by first | (with_reducible assumption) | assumption)
                        have q376 : x3_1 < (l0.length : Int) := of_decide_eq_true (by first | (with_reducible assumption) | assumption)
                        obtain ⟨ad376, e376, hx376_0⟩ := Kd.at_int HR0.out x3_1 p376 q376
                        obtain rfl : ad374 = ad376 := (by injection e376)
                        replace p376 := eq_true p376
                        replace q376 := eq_true q376
                        have p377 : 0 ≤ ((ji8) : Int) := of_decide_eq_true (by first | (with_reducible assumption) | assumption)
                        have q377 : (ji8) < (l0.length : Int) := of_decide_eq_true (by first | (with_reducible assumption) | assumption)
                        obtain ⟨ad377, e377, hx377_0⟩ := Kd.at_int HR0.out (ji8) p377 q377
                        obtain rfl : ad374 = ad377 := (by injection e377)
                        replace p377 := eq_true p377
                        replace q377 := eq_true q377
                        go_wp2
                        repeat (go_quiet (fail); try go_wp2)
                        go_ret
                        exact ⟨by first | rfl | (simp; done) | (simp only [← hji8] <;> (first | rfl | simp)) | (simp [*]; done), by repeat (first | exact Drawn0.refl _ | apply Drawn0.step)⟩
                      · rw [if_neg c11] at H
                        have c11b0 : decide ((rd l0 x3_1) ≤ (rd l0 (ji8))) = false := decide_eq_false c11
                        clear c11
                        have H' := Aside0.mk H
                        clear H
                        have p374 : 0 ≤ (x3_1 : Int) := of_decide_eq_true (by first | (with_reducible assumption) | assumption)
                        have q374 : x3_1 < (l0.length : Int) := of_decide_eq_true (by first | (with_reducible assumption) | assumption)
                        obtain ⟨ad374, e374, hx374_0⟩ := Kd.at_int HR0.out x3_1 p374 q374
                        cases e374
                        replace p374 := eq_true p374
                        replace q374 := eq_true q374
                        have p375 : 0 ≤ (x3_1 : Int) := of_decide_eq_true (by first | (with_reducible assumption) | assumption)
                        have q375 : x3_1 < (l0.length : Int) := of_decide_eq_true (by first | (with_reducible assumption) | assumption)
                        obtain ⟨ad375, e375, hx375_0⟩ := Kd.at_int HR0.out x3_1 p375 q375
                        obtain rfl : ad374 = ad375 := (by injection e375)
                        replace p375 := eq_true p375
                        replace q375 := eq_true q375
                        have p376 : 0 ≤ (x3_1 : Int) := of_decide_eq_true (by first | (with_reducible assumption) | assumption)
                        have q376 : x3_1 < (l0.length : Int) := of_decide_eq_true (by first | (with_reducible assumption) | assumption)
                        obtain ⟨ad376, e376, hx376_0⟩ := Kd.at_int HR0.out x3_1 p376 q376
                        obtain rfl : ad374 = ad376 := (by injection e376)
                        replace p376 := eq_true p376
                        replace q376 := eq_true q376
                        have p377 : 0 ≤ ((ji8) : Int) := of_decide_eq_true (by first | (with_reducible assumption) | assumption)
                        have q377 : (ji8) < (l0.length : Int) := of_decide_eq_true (by first | (with_reducible assumption) | assumption)
                        obtain ⟨ad377, e377, hx377_0⟩ := Kd.at_int HR0.out (ji8) p377 q377
                        obtain rfl : ad374 = ad377 := (by injection e377)
                        replace p377 := eq_true p377
                        replace q377 := eq_true q377
                        go_wp2
                        repeat (go_quiet (fail); try go_wp2)
                        go_roundg k1
                        case measure => have := HK1.out; omega
                        case rel => exact ⟨(wrap64 (x3_1 + 1)), (by first | rfl | (simp; done) | (simp [*]; done)), H', ⟨by have := HK1.out; omega⟩, by repeat (first | exact Drawn0.refl _ | apply Drawn0.step)⟩
                    · rw [if_neg c10] at H
                      exact absurd H (by simp)
                  · rw [if_neg c9] at H
                    exact absurd H (by simp)
                · rw [if_neg c7] at H
                  have c7b0 : decide (0 < x3_1) = false := decide_eq_false c7
                  clear c7
                  have H' := Aside0.mk H
                  clear H
                  have p374 : 0 ≤ (x3_1 : Int) := of_decide_eq_true (by first | (with_reducible assumption) | assumption)
                  have q374 : x3_1 < (l0.length : Int) := of_decide_eq_true (by first | (with_reducible assumption) | assumption)
                  obtain ⟨ad374, e374, hx374_0⟩ := Kd.at_int HR0.out x3_1 p374 q374
                  cases e374
                  replace p374 := eq_true p374
                  replace q374 := eq_true q374
                  have p375 : 0 ≤ (x3_1 : Int) := of_decide_eq_true (by first | (with_reducible assumption) | assumption)
                  have q375 : x3_1 < (l0.length : Int) := of_decide_eq_true (by first | (with_reducible assumption) | assumption)
                  obtain ⟨ad375, e375, hx375_0⟩ := Kd.at_int HR0.out x3_1 p375 q375
                  obtain rfl : ad374 = ad375 := (by injection e375)
                  replace p375 := eq_true p375
                  replace q375 := eq_true q375
                  go_wp2
                  repeat (go_quiet (fail); try go_wp2)
                  go_roundg k1
                  case measure => have := HK1.out; omega
                  case rel => exact ⟨(wrap64 (x3_1 + 1)), (by first | rfl | (simp; done) | (simp [*]; done)), H', ⟨by have := HK1.out; omega⟩, by repeat (first | exact Drawn0.refl _ | apply Drawn0.step)⟩
          · rw [if_neg c4] at H
            exact absurd H (by simp)
        · rw [if_neg c3] at H
          have c3b0 : decide (x3_1 < (l0.length : Int)) = false := decide_eq_false c3
          clear c3
          obtain rfl := Option.some.inj H
          go_wp2
          repeat (go_quiet (fail); try go_wp2)
          go_ret
          exact ⟨by first | rfl | (simp; done) | (simp [*]; done), by repeat (first | exact Drawn0.refl _ | apply Drawn0.step)⟩
end Go.Proofs.YtjeomiooheoegaaGreatDoor.PD

namespace Go.Proofs.YtjeomiooheoegaaGreatDoor.PD
open Go.RowKit Go.Proofs.YtjeomiooheoegaaGreatDoorW.PrintWords Go.Proofs.YtjeomiooheoegaaGreatDoorW.PrintLast Go.Proofs.YtjeomiooheoegaaGreatDoorW.PrintMore
attribute [local go_sem] max2_int min2_int max_two min_two max_three min_three max_four min_four   -- for this text's walks alone
set_option linter.unusedVariables false
set_option linter.unusedSimpArgs false

/-! ### jigsawref04_has: function 139 -/
def jigsawref04_has.l0 : Nat → Int → List Int → Int → Option (Bool)
  | 0, _, _, _ => none
  | k + 1, x0, x1, x5 => if x5 < (x1.length : Int) then (if 0 ≤ x5 then (if (rd x1 x5) = x0 then (some true) else (jigsawref04_has.l0 k x0 x1 (wrap64 (x5 + 1)))) else (none)) else (some false)
def jigsawref04_has.f (k : Nat) (a0 : Int) (l1 : List Int) : Option (Bool) := jigsawref04_has.l0 k a0 l1 0
theorem jigsawref04_has.mono_l : ∀ k, (∀ y0 y1 y2, LeO (jigsawref04_has.l0 k y0 y1 y2) (jigsawref04_has.l0 (k + 1) y0 y1 y2))
  | 0 => fun _ _ _ r h => by simp [jigsawref04_has.l0] at h
  | k + 1 => by
    have ih0 := jigsawref04_has.mono_l k
    · intro y0 y1 y2
      unfold jigsawref04_has.l0
      repeat' first
      | (with_reducible exact ih0 _ _ _)
      | (with_reducible exact LeO.refl _)
      | (with_reducible exact LeO.none _)
      | (with_reducible refine LeO.ite ?_ ?_)
      | (with_reducible refine LeO.bind ?_ (fun _ => ?_))
      | exact ih0 _ _ _
      | exact LeO.none _
      | refine LeO.ite ?_ ?_
      | refine LeO.bind ?_ (fun _ => ?_)
theorem jigsawref04_has.mono : ∀ a0 a1 k, LeO (jigsawref04_has.f k a0 a1) (jigsawref04_has.f (k + 1) a0 a1) := by
  intro a0 a1 k
  have ih0 := jigsawref04_has.mono_l k
  unfold jigsawref04_has.f
  repeat' first
      | (with_reducible exact ih0 _ _ _)
      | (with_reducible exact LeO.refl _)
      | (with_reducible exact LeO.none _)
      | (with_reducible refine LeO.ite ?_ ?_)
      | (with_reducible refine LeO.bind ?_ (fun _ => ?_))
      | exact ih0 _ _ _
      | exact LeO.none _
      | refine LeO.ite ?_ ?_
      | refine LeO.bind ?_ (fun _ => ?_)
set_option maxHeartbeats 8000000 in
set_option maxRecDepth 100000 in
theorem jigsawref04_has.calls (k : Nat) (a0 : Int) (A1 : Option Addr) (c1 : Nat) (l1 : List Int) (r : Bool) (w : World) (hr1 : Kd.C (Kd.int .i64) w A1 l1.length l1) (hc1 : l1.length ≤ c1) (h : jigsawref04_has.f k a0 l1 = some r) :
    Calls Tryz.prog 139 #[.int .i64 a0, .slice A1 l1.length c1] w fun e w' => e = .returned (.bool r) ∧ Drawn0 w w' := by
  have HR1 := Aside0.mk hr1
  have HC1 := Aside0.mk hc1
  clear hr1 hc1
  have H : (jigsawref04_has.l0 k a0 l1 0) = some r := h
  clear h
  have H' := Aside0.mk H
  clear H
  go_enter Tryz.func139, Tryz.ntmps139
  go_wp2
  go_loopg [5] k (fun kq v5 w' => ∃ (x5_1 : Int), v5 = .int .i64 x5_1 ∧ Aside0 (jigsawref04_has.l0 kq a0 l1 x5_1 = some r) ∧ Aside0 (kq ≤ k) ∧ Drawn0 w w')
  case atStart => exact ⟨(0), (by first | rfl | (simp; done) | (simp [*]; done)), H', ⟨Nat.le_refl _⟩, by repeat (first | exact Drawn0.refl _ | apply Drawn0.step)⟩
  case round =>
    clear H'
    try clear c1
    try clear p2
    obtain ⟨x5_1, rfl, HA, HK1, ⟨m1, rfl⟩⟩ := hrel
    cases gk with
    | zero => exact absurd HA.out (by simp [jigsawref04_has.l0])
    | succ k1 =>
      have H := HA.out
      clear HA
      simp only [jigsawref04_has.l0] at H
      by_cases c3 : x5_1 < (l1.length : Int)
      · rw [if_pos c3] at H
        have c3b0 : decide (x5_1 < (l1.length : Int)) = true := decide_eq_true c3
        clear c3
        by_cases c4 : 0 ≤ x5_1
        · rw [if_pos c4] at H
          have c4b0 : decide (0 ≤ x5_1) = true := decide_eq_true c4
          clear c4
          by_cases c5 : (rd l1 x5_1) = a0
          · rw [if_pos c5] at H
            have c5b0 : ((rd l1 x5_1) == a0) = true := beq_iff_eq.mpr c5
            have c5b1 : ((rd l1 x5_1) != a0) = false := bne_eq_false_iff_eq.mpr c5
            clear c5
            obtain rfl := Option.some.inj H
            have p379 : 0 ≤ (x5_1 : Int) := of_decide_eq_true (by first | (with_reducible assumption) | assumption)
            have q379 : x5_1 < (l1.length : Int) := of_decide_eq_true (by first | (with_reducible assumption) | assumption)
            obtain ⟨ad379, e379, hx379_0⟩ := Kd.at_int HR1.out x5_1 p379 q379
            cases e379
            replace p379 := eq_true p379
            replace q379 := eq_true q379
            go_wp2
            go_ret
            exact ⟨by first | rfl | (simp; done) | (simp [*]; done), by repeat (first | exact Drawn0.refl _ | apply Drawn0.step)⟩
          · rw [if_neg c5] at H
            have c5b0 : ((rd l1 x5_1) == a0) = false := beq_eq_false_iff_ne.mpr c5
            have c5b1 : ((rd l1 x5_1) != a0) = true := bne_iff_ne.mpr c5
            have H' := Aside0.mk H
            clear H
            have p379 : 0 ≤ (x5_1 : Int) := of_decide_eq_true (by first | (with_reducible assumption) | assumption)
            have q379 : x5_1 < (l1.length : Int) := of_decide_eq_true (by first | (with_reducible assumption) | assumption)
            obtain ⟨ad379, e379, hx379_0⟩ := Kd.at_int HR1.out x5_1 p379 q379
            cases e379
            replace p379 := eq_true p379
            replace q379 := eq_true q379
            go_wp2
            go_roundg k1
            case measure => have := HK1.out; omega
            case rel => exact ⟨(wrap64 (x5_1 + 1)), (by first | rfl | (simp; done) | (simp [*]; done)), H', ⟨by have := HK1.out; omega⟩, by repeat (first | exact Drawn0.refl _ | apply Drawn0.step)⟩
        · rw [if_neg c4] at H
          exact absurd H (by simp)
      · rw [if_neg c3] at H
        have c3b0 : decide (x5_1 < (l1.length : Int)) = false := decide_eq_false c3
        clear c3
        obtain rfl := Option.some.inj H
        go_wp2
        go_ret
        exact ⟨by first | rfl | (simp; done) | (simp [*]; done), by repeat (first | exact Drawn0.refl _ | apply Drawn0.step)⟩
end Go.Proofs.YtjeomiooheoegaaGreatDoor.PD

namespace Go.Proofs.YtjeomiooheoegaaGreatDoor.PD
open Go.RowKit Go.Proofs.YtjeomiooheoegaaGreatDoorW.PrintWords Go.Proofs.YtjeomiooheoegaaGreatDoorW.PrintLast Go.Proofs.YtjeomiooheoegaaGreatDoorW.PrintMore
attribute [local go_sem] max2_int min2_int max_two min_two max_three min_three max_four min_four   -- for this text's walks alone
set_option linter.unusedVariables false
set_option linter.unusedSimpArgs false

/-! ### cmp_isNaN_int64: function 214 -/
def cmp_isNaN_int64.f (a0 : Int) : Option (Bool) := some (a0 != a0)
set_option maxHeartbeats 8000000 in
set_option maxRecDepth 100000 in
theorem cmp_isNaN_int64.calls (a0 : Int) (r : Bool) (w : World) (h : cmp_isNaN_int64.f a0 = some r) :
    Calls Tryz.prog 214 #[.int .i64 a0] w fun e w' => e = .returned (.bool r) ∧ Drawn0 w w' := by
  have H : (some (a0 != a0)) = some r := h
  clear h
  obtain rfl := Option.some.inj H
  go_enter Tryz.func214, Tryz.ntmps214
  go_wp2
  go_ret
  exact ⟨by first | rfl | (simp; done) | (simp [*]; done), by repeat (first | exact Drawn0.refl _ | apply Drawn0.step)⟩
end Go.Proofs.YtjeomiooheoegaaGreatDoor.PD

namespace Go.Proofs.YtjeomiooheoegaaGreatDoor.PD
open Go.RowKit Go.Proofs.YtjeomiooheoegaaGreatDoorW.PrintWords Go.Proofs.YtjeomiooheoegaaGreatDoorW.PrintLast Go.Proofs.YtjeomiooheoegaaGreatDoorW.PrintMore
attribute [local go_sem] max2_int min2_int max_two min_two max_three min_three max_four min_four   -- for this text's walks alone
set_option linter.unusedVariables false
set_option linter.unusedSimpArgs false

/-! ### cmp_Less_int64: function 185 -/
def cmp_Less_int64.f (a0 : Int) (a1 : Int) : Option (Bool) := (cmp_isNaN_int64.f a0).bind fun t106 => (if t106 = true then ((cmp_isNaN_int64.f a1).bind fun t107 => (if t107 = true then (some (decide (a0 < a1))) else (some true))) else (some (decide (a0 < a1))))
set_option maxHeartbeats 8000000 in
set_option maxRecDepth 100000 in
theorem cmp_Less_int64.calls (a0 : Int) (a1 : Int) (r : Bool) (w : World) (h : cmp_Less_int64.f a0 a1 = some r) :
    Calls Tryz.prog 185 #[.int .i64 a0, .int .i64 a1] w fun e w' => e = .returned (.bool r) ∧ Drawn0 w w' := by
  have H : ((cmp_isNaN_int64.f a0).bind fun t106 => (if t106 = true then ((cmp_isNaN_int64.f a1).bind fun t107 => (if t107 = true then (some (decide (a0 < a1))) else (some true))) else (some (decide (a0 < a1))))) = some r := h
  clear h
  replace H := Option.bind_eq_some_iff.mp H
  obtain ⟨t106, A30, H⟩ := H
  replace H : (if t106 = true then ((cmp_isNaN_int64.f a1).bind fun t107 => (if t107 = true then (some (decide (a0 < a1))) else (some true))) else (some (decide (a0 < a1)))) = some r := H
  have A3 := Aside0.mk A30
  clear A30
  by_cases c4 : t106 = true
  · subst c4
    have H1 : ((cmp_isNaN_int64.f a1).bind fun t107 => (if t107 = true then (some (decide (a0 < a1))) else (some true))) = some r := by rw [if_pos rfl] at H; exact H
    clear H
    have H := H1
    clear H1
    replace H := Option.bind_eq_some_iff.mp H
    obtain ⟨t107, A50, H⟩ := H
    replace H : (if t107 = true then (some (decide (a0 < a1))) else (some true)) = some r := H
    have A5 := Aside0.mk A50
    clear A50
    by_cases c6 : t107 = true
    · subst c6
      have H1 : (some (decide (a0 < a1))) = some r := by rw [if_pos rfl] at H; exact H
      clear H
      have H := H1
      clear H1
      obtain rfl := Option.some.inj H
      go_enter Tryz.func185, Tryz.ntmps185
      go_wp2_with (first | ((with_reducible refine gate_callee (f := 214) rfl ?_); refine goesL_ (some 6) rfl rfl Tryz.func214 (by kernel_rfl) rfl #[.int .i64 a0] rfl (by (try simp only [List.map_toArray, List.map_cons, List.map_nil]); first | done | rfl | (simp only [List.length_drop, List.length_take]; rfl)) ?_; (with_reducible refine (cmp_isNaN_int64.calls a0 true _ A3.out).mono ?_); rintro e w' ⟨rfl, ⟨nd, rfl⟩⟩; refine ⟨_, rfl, ?_⟩) | (go_at_call 214; (with_reducible refine (cmp_isNaN_int64.calls a1 true _ A5.out).mono ?_); rintro e w' ⟨rfl, ⟨nd, rfl⟩⟩))
      go_ret
      exact ⟨by first | rfl | (simp; done) | (simp [*]; done), by repeat (first | exact Drawn0.refl _ | apply Drawn0.step)⟩
    · replace c6 := Bool.eq_false_iff.mpr c6
      subst c6
      have H1 : (some true) = some r := by rw [if_neg (show ¬ (false = true) by decide)] at H; exact H
      clear H
      have H := H1
      clear H1
      obtain rfl := Option.some.inj H
      go_enter Tryz.func185, Tryz.ntmps185
      go_wp2_with (first | ((with_reducible refine gate_callee (f := 214) rfl ?_); refine goesL_ (some 6) rfl rfl Tryz.func214 (by kernel_rfl) rfl #[.int .i64 a0] rfl (by (try simp only [List.map_toArray, List.map_cons, List.map_nil]); first | done | rfl | (simp only [List.length_drop, List.length_take]; rfl)) ?_; (with_reducible refine (cmp_isNaN_int64.calls a0 true _ A3.out).mono ?_); rintro e w' ⟨rfl, ⟨nd, rfl⟩⟩; refine ⟨_, rfl, ?_⟩) | (go_at_call 214; (with_reducible refine (cmp_isNaN_int64.calls a1 false _ A5.out).mono ?_); rintro e w' ⟨rfl, ⟨nd, rfl⟩⟩))
      go_ret
      exact ⟨by first | rfl | (simp; done) | (simp [*]; done), by repeat (first | exact Drawn0.refl _ | apply Drawn0.step)⟩
  · replace c4 := Bool.eq_false_iff.mpr c4
    subst c4
    have H1 : (some (decide (a0 < a1))) = some r := by rw [if_neg (show ¬ (false = true) by decide)] at H; exact H
    clear H
    have H := H1
    clear H1
    obtain rfl := Option.some.inj H
    go_enter Tryz.func185, Tryz.ntmps185
    go_wp2_with (first | ((with_reducible refine gate_callee (f := 214) rfl ?_); refine goesL_ (some 6) rfl rfl Tryz.func214 (by kernel_rfl) rfl #[.int .i64 a0] rfl (by (try simp only [List.map_toArray, List.map_cons, List.map_nil]); first | done | rfl | (simp only [List.length_drop, List.length_take]; rfl)) ?_; (with_reducible refine (cmp_isNaN_int64.calls a0 false _ A3.out).mono ?_); rintro e w' ⟨rfl, ⟨nd, rfl⟩⟩; refine ⟨_, rfl, ?_⟩))
    go_ret
    exact ⟨by first | rfl | (simp; done) | (simp [*]; done), by repeat (first | exact Drawn0.refl _ | apply Drawn0.step)⟩
end Go.Proofs.YtjeomiooheoegaaGreatDoor.PD

namespace Go.Proofs.YtjeomiooheoegaaGreatDoor.PD
open Go.RowKit Go.Proofs.YtjeomiooheoegaaGreatDoorW.PrintWords Go.Proofs.YtjeomiooheoegaaGreatDoorW.PrintLast Go.Proofs.YtjeomiooheoegaaGreatDoorW.PrintMore
attribute [local go_sem] max2_int min2_int max_two min_two max_three min_three max_four min_four   -- for this text's walks alone
set_option linter.unusedVariables false
set_option linter.unusedSimpArgs false

/-! ### slices_isNaN_int64: function 186 -/
def slices_isNaN_int64.f (a0 : Int) : Option (Bool) := some (a0 != a0)
set_option maxHeartbeats 8000000 in
set_option maxRecDepth 100000 in
theorem slices_isNaN_int64.calls (a0 : Int) (r : Bool) (w : World) (h : slices_isNaN_int64.f a0 = some r) :
    Calls Tryz.prog 186 #[.int .i64 a0] w fun e w' => e = .returned (.bool r) ∧ Drawn0 w w' := by
  have H : (some (a0 != a0)) = some r := h
  clear h
  obtain rfl := Option.some.inj H
  go_enter Tryz.func186, Tryz.ntmps186
  go_wp2
  go_ret
  exact ⟨by first | rfl | (simp; done) | (simp [*]; done), by repeat (first | exact Drawn0.refl _ | apply Drawn0.step)⟩
end Go.Proofs.YtjeomiooheoegaaGreatDoor.PD

namespace Go.Proofs.YtjeomiooheoegaaGreatDoor.PD
open Go.RowKit Go.Proofs.YtjeomiooheoegaaGreatDoorW.PrintWords Go.Proofs.YtjeomiooheoegaaGreatDoorW.PrintLast Go.Proofs.YtjeomiooheoegaaGreatDoorW.PrintMore
attribute [local go_sem] max2_int min2_int max_two min_two max_three min_three max_four min_four   -- for this text's walks alone
set_option linter.unusedVariables false
set_option linter.unusedSimpArgs false

/-! ### slices_BinarySearch_int64_int64: function 138 -/
def slices_BinarySearch_int64_int64.l0 : Nat → List Int → Int → Int → Int → Int → Option (Int × Bool)
  | 0, _, _, _, _, _ => none
  | k + 1, x0, x1, x6, x7, x8 => if x7 < x8 then (if 0 ≤ (wrap64 ((IntKind.u64.wrap (wrap64 (x7 + x8))) / 2)) then (if (wrap64 ((IntKind.u64.wrap (wrap64 (x7 + x8))) / 2)) < (x0.length : Int) then ((cmp_Less_int64.f (rd x0 (wrap64 ((IntKind.u64.wrap (wrap64 (x7 + x8))) / 2))) x1).bind fun t109 => (if t109 = true then (slices_BinarySearch_int64_int64.l0 k x0 x1 x6 (wrap64 ((wrap64 ((IntKind.u64.wrap (wrap64 (x7 + x8))) / 2)) + 1)) x8) else (slices_BinarySearch_int64_int64.l0 k x0 x1 x6 x7 (wrap64 ((IntKind.u64.wrap (wrap64 (x7 + x8))) / 2))))) else (none)) else (none)) else (if x7 < x6 then (if 0 ≤ x7 then (if x7 < (x0.length : Int) then (if (rd x0 x7) = x1 then (some (x7, true)) else ((slices_isNaN_int64.f (rd x0 x7)).bind fun t112 => (if t112 = true then ((slices_isNaN_int64.f x1).bind fun t113 => (some (x7, t113))) else (some (x7, false))))) else (none)) else (none)) else (some (x7, false)))
def slices_BinarySearch_int64_int64.f (k : Nat) (l0 : List Int) (a1 : Int) : Option (Int × Bool) := slices_BinarySearch_int64_int64.l0 k l0 a1 (l0.length : Int) 0 (l0.length : Int)
theorem slices_BinarySearch_int64_int64.mono_l : ∀ k, (∀ y0 y1 y2 y3 y4, LeO (slices_BinarySearch_int64_int64.l0 k y0 y1 y2 y3 y4) (slices_BinarySearch_int64_int64.l0 (k + 1) y0 y1 y2 y3 y4))
  | 0 => fun _ _ _ _ _ r h => by simp [slices_BinarySearch_int64_int64.l0] at h
  | k + 1 => by
    have ih0 := slices_BinarySearch_int64_int64.mono_l k
    · intro y0 y1 y2 y3 y4
      unfold slices_BinarySearch_int64_int64.l0
      repeat' first
      | (with_reducible exact ih0 _ _ _ _ _)
      | (with_reducible exact LeO.refl _)
      | (with_reducible exact LeO.none _)
      | (with_reducible refine LeO.ite ?_ ?_)
      | (with_reducible refine LeO.bind ?_ (fun _ => ?_))
      | exact ih0 _ _ _ _ _
      | exact LeO.none _
      | refine LeO.ite ?_ ?_
      | refine LeO.bind ?_ (fun _ => ?_)
theorem slices_BinarySearch_int64_int64.mono : ∀ a0 a1 k, LeO (slices_BinarySearch_int64_int64.f k a0 a1) (slices_BinarySearch_int64_int64.f (k + 1) a0 a1) := by
  intro a0 a1 k
  have ih0 := slices_BinarySearch_int64_int64.mono_l k
  unfold slices_BinarySearch_int64_int64.f
  repeat' first
      | (with_reducible exact ih0 _ _ _ _ _)
      | (with_reducible exact LeO.refl _)
      | (with_reducible exact LeO.none _)
      | (with_reducible refine LeO.ite ?_ ?_)
      | (with_reducible refine LeO.bind ?_ (fun _ => ?_))
      | exact ih0 _ _ _ _ _
      | exact LeO.none _
      | refine LeO.ite ?_ ?_
      | refine LeO.bind ?_ (fun _ => ?_)
set_option maxHeartbeats 8000000 in
set_option maxRecDepth 100000 in
theorem slices_BinarySearch_int64_int64.calls (k : Nat) (A0 : Option Addr) (c0 : Nat) (l0 : List Int) (a1 : Int) (r1 : Int) (r2 : Bool) (w : World) (hr0 : Kd.C (Kd.int .i64) w A0 l0.length l0) (hc0 : l0.length ≤ c0) (h : slices_BinarySearch_int64_int64.f k l0 a1 = some (r1, r2)) :
    Calls Tryz.prog 138 #[.slice A0 l0.length c0, .int .i64 a1] w fun e w' => e = .returned (.tuple #[.int .i64 r1, .bool r2]) ∧ Drawn0 w w' := by
  have HR0 := Aside0.mk hr0
  have HC0 := Aside0.mk hc0
  clear hr0 hc0
  have H : (slices_BinarySearch_int64_int64.l0 k l0 a1 (l0.length : Int) 0 (l0.length : Int)) = some (r1, r2) := h
  clear h
  have H' := Aside0.mk H
  clear H
  go_enter Tryz.func138, Tryz.ntmps138
  go_wp2
  go_loopg [7, 8] k (fun kq v7 v8 w' => ∃ (x7_1 : Int) (x8_1 : Int), v7 = .int .i64 x7_1 ∧ v8 = .int .i64 x8_1 ∧ Aside0 (slices_BinarySearch_int64_int64.l0 kq l0 a1 (l0.length : Int) x7_1 x8_1 = some (r1, r2)) ∧ Aside0 (kq ≤ k) ∧ Drawn0 w w')
  case atStart => exact ⟨(0), ((l0.length : Int)), (by first | rfl | (simp; done) | (simp [*]; done)), (by first | rfl | (simp; done) | (simp [*]; done)), H', ⟨Nat.le_refl _⟩, by repeat (first | exact Drawn0.refl _ | apply Drawn0.step)⟩
  case round =>
    clear H'
    try clear c1
    try clear p2
    obtain ⟨x7_1, x8_1, rfl, rfl, HA, HK1, ⟨m1, rfl⟩⟩ := hrel
    cases gk with
    | zero => exact absurd HA.out (by simp [slices_BinarySearch_int64_int64.l0])
    | succ k1 =>
      have H := HA.out
      clear HA
      simp only [slices_BinarySearch_int64_int64.l0] at H
      by_cases c3 : x7_1 < x8_1
      · rw [if_pos c3] at H
        have c3b0 : decide (x7_1 < x8_1) = true := decide_eq_true c3
        clear c3
        obtain ⟨ji4, hji4⟩ : ∃ j_ : Int, (wrap64 ((IntKind.u64.wrap (wrap64 (x7_1 + x8_1))) / 2)) = j_ := ⟨_, rfl⟩
        replace H : (if 0 ≤ (ji4) then (if (ji4) < (l0.length : Int) then ((cmp_Less_int64.f (rd l0 (ji4)) a1).bind fun t109 => (if t109 = true then (slices_BinarySearch_int64_int64.l0 k1 l0 a1 (l0.length : Int) (wrap64 ((ji4) + 1)) x8_1) else (slices_BinarySearch_int64_int64.l0 k1 l0 a1 (l0.length : Int) x7_1 ji4))) else (none)) else (none)) = some (r1, r2) := by first | (rw [hji4] at H; exact H) | (simp only [hji4] at H ⊢; exact H)
        have hji4w : (IntKind.i64.wrap ((IntKind.u64.wrap (wrap64 (x7_1 + x8_1))) / 2)) = ji4 := (i64_w _).trans hji4
        by_cases c5 : 0 ≤ (ji4)
        · rw [if_pos c5] at H
          have c5b0 : decide (0 ≤ (ji4)) = true := decide_eq_true c5
          clear c5
          by_cases c6 : (ji4) < (l0.length : Int)
          · rw [if_pos c6] at H
            have c6b0 : decide ((ji4) < (l0.length : Int)) = true := decide_eq_true c6
            clear c6
            replace H := Option.bind_eq_some_iff.mp H
            obtain ⟨t109, A70, H⟩ := H
            replace H : (if t109 = true then (slices_BinarySearch_int64_int64.l0 k1 l0 a1 (l0.length : Int) (wrap64 ((ji4) + 1)) x8_1) else (slices_BinarySearch_int64_int64.l0 k1 l0 a1 (l0.length : Int) x7_1 ji4)) = some (r1, r2) := H
            have A7 := Aside0.mk A70
            clear A70
            by_cases c8 : t109 = true
            · subst c8
              have H1 : (slices_BinarySearch_int64_int64.l0 k1 l0 a1 (l0.length : Int) (wrap64 ((ji4) + 1)) x8_1) = some (r1, r2) := by rw [if_pos rfl] at H; exact H
              clear H
              have H := H1
              clear H1
              have H' := Aside0.mk H
              clear H
              have p108 : 0 ≤ ((ji4) : Int) := of_decide_eq_true (by first | (with_reducible assumption) | assumption)
              have q108 : (ji4) < (l0.length : Int) := of_decide_eq_true (by first | (with_reducible assumption) | assumption)
              obtain ⟨ad108, e108, hx108_0⟩ := Kd.at_int HR0.out (ji4) p108 q108
              cases e108
              replace p108 := eq_true p108
              replace q108 := eq_true q108
              go_wp2_with (first | ((with_reducible refine gate_callee (f := 185) rfl ?_); refine goesL_ (some 27) rfl rfl Tryz.func185 (by kernel_rfl) rfl #[.int .i64 (rd l0 (ji4)), .int .i64 a1] rfl (by (try simp only [List.map_toArray, List.map_cons, List.map_nil]); first | done | (simp only [hji4]; rfl) | rfl | (simp only [List.length_drop, List.length_take]; rfl)) ?_; (with_reducible refine (cmp_Less_int64.calls (rd l0 (ji4)) a1 true _ A7.out).mono ?_); rintro e w' ⟨rfl, ⟨nd, rfl⟩⟩; refine ⟨_, rfl, ?_⟩))
              go_roundg k1
              case measure => have := HK1.out; omega
              case rel => exact ⟨(wrap64 ((ji4) + 1)), (x8_1), (by first | rfl | (simp; done) | (simp only [← hji4] <;> (first | rfl | simp)) | (simp [*]; done)), (by first | rfl | (simp; done) | (simp [*]; done)), H', ⟨by have := HK1.out; omega⟩, by repeat (first | exact Drawn0.refl _ | apply Drawn0.step)⟩
            · replace c8 := Bool.eq_false_iff.mpr c8
              subst c8
              have H1 : (slices_BinarySearch_int64_int64.l0 k1 l0 a1 (l0.length : Int) x7_1 ji4) = some (r1, r2) := by rw [if_neg (show ¬ (false = true) by decide)] at H; exact H
              clear H
              have H := H1
              clear H1
              have H' := Aside0.mk H
              clear H
              have p108 : 0 ≤ ((ji4) : Int) := of_decide_eq_true (by first | (with_reducible assumption) | assumption)
              have q108 : (ji4) < (l0.length : Int) := of_decide_eq_true (by first | (with_reducible assumption) | assumption)
              obtain ⟨ad108, e108, hx108_0⟩ := Kd.at_int HR0.out (ji4) p108 q108
              cases e108
              replace p108 := eq_true p108
              replace q108 := eq_true q108
              go_wp2_with (first | ((with_reducible refine gate_callee (f := 185) rfl ?_); refine goesL_ (some 27) rfl rfl Tryz.func185 (by kernel_rfl) rfl #[.int .i64 (rd l0 (ji4)), .int .i64 a1] rfl (by (try simp only [List.map_toArray, List.map_cons, List.map_nil]); first | done | (simp only [hji4]; rfl) | rfl | (simp only [List.length_drop, List.length_take]; rfl)) ?_; (with_reducible refine (cmp_Less_int64.calls (rd l0 (ji4)) a1 false _ A7.out).mono ?_); rintro e w' ⟨rfl, ⟨nd, rfl⟩⟩; refine ⟨_, rfl, ?_⟩))
              go_roundg k1
              case measure => have := HK1.out; omega
              case rel => exact ⟨(x7_1), (ji4), (by first | rfl | (simp; done) | (simp [*]; done)), (by first | rfl | (simp; done) | (simp only [← hji4] <;> (first | rfl | simp)) | (simp [*]; done)), H', ⟨by have := HK1.out; omega⟩, by repeat (first | exact Drawn0.refl _ | apply Drawn0.step)⟩
          · rw [if_neg c6] at H
            exact absurd H (by simp)
        · rw [if_neg c5] at H
          exact absurd H (by simp)
      · rw [if_neg c3] at H
        have c3b0 : decide (x7_1 < x8_1) = false := decide_eq_false c3
        clear c3
        by_cases c9 : x7_1 < (l0.length : Int)
        · rw [if_pos c9] at H
          have c9b0 : decide (x7_1 < (l0.length : Int)) = true := decide_eq_true c9
          clear c9
          by_cases c10 : 0 ≤ x7_1
          · rw [if_pos c10] at H
            have c10b0 : decide (0 ≤ x7_1) = true := decide_eq_true c10
            clear c10
            by_cases c11 : x7_1 < (l0.length : Int)
            · rw [if_pos c11] at H
              have c11b0 : decide (x7_1 < (l0.length : Int)) = true := decide_eq_true c11
              clear c11
              by_cases c12 : (rd l0 x7_1) = a1
              · rw [if_pos c12] at H
                have c12b0 : ((rd l0 x7_1) == a1) = true := beq_iff_eq.mpr c12
                have c12b1 : ((rd l0 x7_1) != a1) = false := bne_eq_false_iff_eq.mpr c12
                clear c12
                simp only [Option.some.injEq, Prod.mk.injEq] at H
                obtain ⟨rfl, rfl⟩ := H
                have p110 : 0 ≤ (x7_1 : Int) := of_decide_eq_true (by first | (with_reducible assumption) | assumption)
                have q110 : x7_1 < (l0.length : Int) := of_decide_eq_true (by first | (with_reducible assumption) | assumption)
                obtain ⟨ad110, e110, hx110_0⟩ := Kd.at_int HR0.out x7_1 p110 q110
                cases e110
                replace p110 := eq_true p110
                replace q110 := eq_true q110
                go_wp2
                go_ret2
                exact ⟨by first | rfl | (simp; done) | (simp [*]; done), by repeat (first | exact Drawn0.refl _ | apply Drawn0.step)⟩
              · rw [if_neg c12] at H
                have c12b0 : ((rd l0 x7_1) == a1) = false := beq_eq_false_iff_ne.mpr c12
                have c12b1 : ((rd l0 x7_1) != a1) = true := bne_iff_ne.mpr c12
                replace H := Option.bind_eq_some_iff.mp H
                obtain ⟨t112, A130, H⟩ := H
                replace H : (if t112 = true then ((slices_isNaN_int64.f a1).bind fun t113 => (some (x7_1, t113))) else (some (x7_1, false))) = some (r1, r2) := H
                have A13 := Aside0.mk A130
                clear A130
                by_cases c14 : t112 = true
                · subst c14
                  have H1 : ((slices_isNaN_int64.f a1).bind fun t113 => (some (x7_1, t113))) = some (r1, r2) := by rw [if_pos rfl] at H; exact H
                  clear H
                  have H := H1
                  clear H1
                  replace H := Option.bind_eq_some_iff.mp H
                  obtain ⟨t113, A150, H⟩ := H
                  replace H : (some (x7_1, t113)) = some (r1, r2) := H
                  have A15 := Aside0.mk A150
                  clear A150
                  simp only [Option.some.injEq, Prod.mk.injEq] at H
                  obtain ⟨rfl, rfl⟩ := H
                  have p110 : 0 ≤ (x7_1 : Int) := of_decide_eq_true (by first | (with_reducible assumption) | assumption)
                  have q110 : x7_1 < (l0.length : Int) := of_decide_eq_true (by first | (with_reducible assumption) | assumption)
                  obtain ⟨ad110, e110, hx110_0⟩ := Kd.at_int HR0.out x7_1 p110 q110
                  cases e110
                  replace p110 := eq_true p110
                  replace q110 := eq_true q110
                  have p111 : 0 ≤ (x7_1 : Int) := of_decide_eq_true (by first | (with_reducible assumption) | assumption)
                  have q111 : x7_1 < (l0.length : Int) := of_decide_eq_true (by first | (with_reducible assumption) | assumption)
                  obtain ⟨ad111, e111, hx111_0⟩ := Kd.at_int HR0.out x7_1 p111 q111
                  obtain rfl : ad110 = ad111 := (by injection e111)
                  replace p111 := eq_true p111
                  replace q111 := eq_true q111
                  go_wp2_with (first | (go_at_call 186; (with_reducible refine (slices_isNaN_int64.calls (rd l0 x7_1) true _ A13.out).mono ?_); rintro e w' ⟨rfl, ⟨nd, rfl⟩⟩) | (go_at_call 186; (with_reducible refine (slices_isNaN_int64.calls a1 t113 _ A15.out).mono ?_); rintro e w' ⟨rfl, ⟨nd, rfl⟩⟩))
                  go_ret2
                  exact ⟨by first | rfl | (simp; done) | (simp [*]; done), by repeat (first | exact Drawn0.refl _ | apply Drawn0.step)⟩
                · replace c14 := Bool.eq_false_iff.mpr c14
                  subst c14
                  have H1 : (some (x7_1, false)) = some (r1, r2) := by rw [if_neg (show ¬ (false = true) by decide)] at H; exact H
                  clear H
                  have H := H1
                  clear H1
                  simp only [Option.some.injEq, Prod.mk.injEq] at H
                  obtain ⟨rfl, rfl⟩ := H
                  have p110 : 0 ≤ (x7_1 : Int) := of_decide_eq_true (by first | (with_reducible assumption) | assumption)
                  have q110 : x7_1 < (l0.length : Int) := of_decide_eq_true (by first | (with_reducible assumption) | assumption)
                  obtain ⟨ad110, e110, hx110_0⟩ := Kd.at_int HR0.out x7_1 p110 q110
                  cases e110
                  replace p110 := eq_true p110
                  replace q110 := eq_true q110
                  have p111 : 0 ≤ (x7_1 : Int) := of_decide_eq_true (by first | (with_reducible assumption) | assumption)
                  have q111 : x7_1 < (l0.length : Int) := of_decide_eq_true (by first | (with_reducible assumption) | assumption)
                  obtain ⟨ad111, e111, hx111_0⟩ := Kd.at_int HR0.out x7_1 p111 q111
                  obtain rfl : ad110 = ad111 := (by injection e111)
                  replace p111 := eq_true p111
                  replace q111 := eq_true q111
                  go_wp2_with (first | (go_at_call 186; (with_reducible refine (slices_isNaN_int64.calls (rd l0 x7_1) false _ A13.out).mono ?_); rintro e w' ⟨rfl, ⟨nd, rfl⟩⟩))
                  go_ret2
                  exact ⟨by first | rfl | (simp; done) | (simp [*]; done), by repeat (first | exact Drawn0.refl _ | apply Drawn0.step)⟩
            · rw [if_neg c11] at H
              exact absurd H (by simp)
          · rw [if_neg c10] at H
            exact absurd H (by simp)
        · rw [if_neg c9] at H
          have c9b0 : decide (x7_1 < (l0.length : Int)) = false := decide_eq_false c9
          clear c9
          simp only [Option.some.injEq, Prod.mk.injEq] at H
          obtain ⟨rfl, rfl⟩ := H
          go_wp2
          go_ret2
          exact ⟨by first | rfl | (simp; done) | (simp [*]; done), by repeat (first | exact Drawn0.refl _ | apply Drawn0.step)⟩
end Go.Proofs.YtjeomiooheoegaaGreatDoor.PD

namespace Go.Proofs.YtjeomiooheoegaaGreatDoor.PD
open Go.RowKit Go.Proofs.YtjeomiooheoegaaGreatDoorW.PrintWords Go.Proofs.YtjeomiooheoegaaGreatDoorW.PrintLast Go.Proofs.YtjeomiooheoegaaGreatDoorW.PrintMore
set_option linter.unusedVariables false
set_option linter.unusedSimpArgs false
/-! ### lists of whole numbers: read, and of the call's own -/
theorem LstI.nil (w : World) : LstI w (.slice none 0 0) [] := by
  obtain ⟨A, c, h1, h2, h3⟩ := Kd.R_reads (Kd.R_nil (Kd.int .i64) 2 w 0 (fun _ => True))
  exact ⟨A, c, h1, h3, h2⟩
def RowI (w : World) (base : Nat) (v : Value) (l : List Int) : Prop := Kd.R (Kd.int .i64) 2 w base (fun _ => True) v l
theorem RowI.lst {w : World} {base : Nat} {v : Value} {l : List Int} (h : RowI w base v l) : LstI w v l := by
  obtain ⟨A, c, h1, h2, h3⟩ := Kd.R_reads h
  exact ⟨A, c, h1, h3, h2⟩
theorem RowI.below {w w' : World} {base : Nat} {v : Value} {l : List Int} (h : RowI w base v l) (hb : Below w.heap.size w w') : RowI w' base v l := Kd.R_below h hb
theorem RowI.lower {w : World} {base base' : Nat} {v : Value} {l : List Int} (h : RowI w base v l) (hb : base' ≤ base) : RowI w base' v l := Kd.R_lower h hb
theorem RowI.nil (w : World) (base : Nat) : RowI w base (.slice none 0 0) [] := Kd.R_nil _ _ _ _ _
theorem RowI.form {w : World} {base : Nat} {v : Value} {l : List Int} (h : RowI w base v l) : ∃ A c, v = .slice A l.length c ∧ l.length ≤ c := by
  obtain ⟨A, c, h1, h2, h3⟩ := Kd.R_reads h
  exact ⟨A, c, h1, h2⟩
theorem LstI.form {w : World} {v : Value} {l : List Int} (h : LstI w v l) : ∃ A c, v = .slice A l.length c := by
  obtain ⟨A, c, h1, _, _⟩ := h
  exact ⟨A, c, h1⟩
def intsV (l : List Int) : List Value := l.map (Value.int .i64)
theorem reps_ints (w : World) : ∀ (l : List Int), Reps (fun x cs => cs = [Value.int .i64 x]) 1 l (intsV l) := by
  intro l
  obtain ⟨r, rfl⟩ : ∃ r, l = r.reverse := ⟨l.reverse, by simp⟩
  induction r with
  | nil => exact Reps.none _ _
  | cons s r ih =>
    rw [List.reverse_cons]
    have e : intsV (r.reverse ++ [s]) = intsV r.reverse ++ [Value.int .i64 s] := by simp [intsV]
    rw [e]
    exact ih.snoc rfl rfl
theorem ints_reps : ∀ (xs : List Int) (cs : List Value), Reps (fun x cs => cs = [Value.int .i64 x]) 1 xs cs → cs = intsV xs
  | [], cs, h => by
    have := h.1
    simp only [List.length_nil, Nat.zero_mul] at this
    rw [List.length_eq_zero_iff.1 this]
    rfl
  | x :: xs, cs, h => by
    have h0 := h.2 0 x rfl
    rw [Nat.zero_mul, List.drop_zero] at h0
    have ht := ints_reps xs (cs.drop 1) ⟨by rw [List.length_drop, h.1, List.length_cons]; omega, fun j p hj => by
      have := h.2 (j + 1) p (by simpa using hj)
      rw [List.drop_drop]
      rw [show 1 + j * 1 = (j + 1) * 1 by omega]
      exact this⟩
    have e : cs = cs.take 1 ++ cs.drop 1 := (List.take_append_drop 1 cs).symm
    rw [e, h0, ht]
    rfl
theorem RowI.own {w : World} {base : Nat} {v : Value} {l : List Int} (h : RowI w base v l) : w.ownsRow base 2 1 v l.length (intsV l) := by
  obtain ⟨_, inner, hown, hr⟩ := h
  have e := ints_reps l inner hr
  rw [e] at hown
  exact hown
theorem RowI.mk {w : World} {base : Nat} {v : Value} {l : List Int} (h : w.ownsRow base 2 1 v l.length (intsV l)) : RowI w base v l := ⟨fun _ _ => trivial, intsV l, h, reps_ints w l⟩
theorem intsV_len (l : List Int) : (intsV l).length = l.length := by simp [intsV]
theorem intsV_one (l : List Int) : ∀ u ∈ intsV l, u.oneCell' = true := by
  intro u hu
  unfold intsV at hu
  rw [List.mem_map] at hu
  obtain ⟨x, _, rfl⟩ := hu
  rfl
theorem intsV_at (l : List Int) (j : Nat) : (intsV l)[j]? = (l[j]?).map (Value.int .i64) := by simp [intsV]
theorem rd_pred (l : List Int) (i : Nat) (h0 : 0 < i) (h : i ≤ l.length) : rd l ((i : Int) - 1) = l[i - 1]'(by omega) := by
  have := rdI l (i - 1) (by omega)
  rw [← this]
  congr 1
  omega
theorem w64_succ (i n : Nat) (h : i ≤ n) (hn : n ≤ 1000000000000000) : wrap64 ((i : Int) + 1) = ((i + 1 : Nat) : Int) := IntWalk.wrap64_in _ (by omega)
theorem w64_pred (i n : Nat) (h : i ≤ n) (hn : n ≤ 1000000000000000) : wrap64 ((i : Int) - 1) = (i : Int) - 1 := IntWalk.wrap64_in _ (by omega)

end Go.Proofs.YtjeomiooheoegaaGreatDoor.PD

namespace Go.Proofs.YtjeomiooheoegaaGreatDoor.PD
open Go.RowKit Go.Proofs.YtjeomiooheoegaaGreatDoorW.PrintWords Go.Proofs.YtjeomiooheoegaaGreatDoorW.PrintLast Go.Proofs.YtjeomiooheoegaaGreatDoorW.PrintMore
set_option linter.unusedVariables false
set_option linter.unusedSimpArgs false
/-! ### Set, both -/
theorem set_l0 (l : List Int) (hl : l.length ≤ 64) : ∀ (d i : Nat) (e : Int), l.length = i + d → ((i = 0 ∧ e = -1000001) ∨ (0 < i ∧ ∃ h : i - 1 < l.length, e = l[i - 1] ∧ -1000000 ≤ e)) →
    sets_Set.l0 (d + 1) l l (l.length : Int) (i : Int) = some (setL e (l.drop i))
  | 0, i, e, hd, he => by
    rw [sets_Set.l0, if_neg (by omega), List.drop_eq_nil_of_le (by omega)]
    rfl
  | d + 1, i, e, hd, he => by
    have hi : i < l.length := by omega
    have ih := fun (hh : -1000000 ≤ l[i]) => set_l0 l hl d (i + 1) l[i] (by omega) (.inr ⟨by omega, by simpa using hi, by simp, hh⟩)
    rw [List.drop_eq_getElem_cons hi, sets_Set.l0, if_pos (by omega), if_pos (by omega), if_pos (by omega), rdI l i hi, w64_succ i l.length (by omega) (by omega), w64_pred i l.length (by omega) (by omega), setL]
    by_cases c1 : l[i] < -1000000
    · rw [if_pos c1, if_neg (by rcases he with ⟨_, rfl⟩ | ⟨_, _, _, h⟩ <;> omega)]
    · rw [if_neg c1]
      by_cases c2 : l[i] > 1000000
      · rw [if_pos c2, if_neg (by omega)]
      · rw [if_neg c2]
        rcases he with ⟨rfl, rfl⟩ | ⟨h0, hp, rfl, hb⟩
        · rw [if_neg (by omega), if_pos (by omega), ih (by omega)]
        · rw [if_pos (by omega), if_pos (by omega), if_pos (by omega), rd_pred l i h0 (by omega)]
          by_cases c3 : l[i - 1] ≥ l[i]
          · rw [if_pos c3, if_neg (by omega)]
          · rw [if_neg c3, if_pos (by omega), ih (by omega)]
theorem set_f (l : List Int) : sets_Set.f (l.length + 1) l = some (setS l) := by
  unfold sets_Set.f setS
  by_cases h : 64 < l.length
  · rw [if_pos (by omega), if_pos h]
  · rw [if_neg (by omega), if_neg h]
    have := set_l0 l (by omega) l.length 0 (-1000001) (by omega) (.inl ⟨rfl, rfl⟩)
    rw [List.drop_zero] at this
    exact this
theorem setR_l0 (l : List Int) (hl : l.length ≤ 64) : ∀ (d i : Nat) (e : Int), l.length = i + d → ((i = 0 ∧ e = -1000001) ∨ (0 < i ∧ ∃ h : i - 1 < l.length, e = l[i - 1] ∧ -1000000 ≤ e)) →
    jigsawref04_Set.l0 (d + 1) l (i : Int) = some (setL e (l.drop i))
  | 0, i, e, hd, he => by
    rw [jigsawref04_Set.l0, if_neg (by omega), List.drop_eq_nil_of_le (by omega)]
    rfl
  | d + 1, i, e, hd, he => by
    have hi : i < l.length := by omega
    have ih := fun (hh : -1000000 ≤ l[i]) => setR_l0 l hl d (i + 1) l[i] (by omega) (.inr ⟨by omega, by simpa using hi, by simp, hh⟩)
    rw [List.drop_eq_getElem_cons hi, jigsawref04_Set.l0, if_pos (by omega), if_pos (by omega), rdI l i hi, w64_succ i l.length (by omega) (by omega), w64_pred i l.length (by omega) (by omega), setL]
    by_cases c1 : l[i] < -1000000
    · rw [if_pos c1, if_neg (by rcases he with ⟨_, rfl⟩ | ⟨_, _, _, h⟩ <;> omega)]
    · rw [if_neg c1]
      by_cases c2 : l[i] > 1000000
      · rw [if_pos c2, if_neg (by omega)]
      · rw [if_neg c2]
        rcases he with ⟨rfl, rfl⟩ | ⟨h0, hp, rfl, hb⟩
        · rw [if_neg (by omega), if_pos (by omega), ih (by omega)]
        · rw [if_pos (by omega), if_pos (by omega), if_pos (by omega), rd_pred l i h0 (by omega)]
          by_cases c3 : l[i] ≤ l[i - 1]
          · rw [if_pos c3, if_neg (by omega)]
          · rw [if_neg c3, if_pos (by omega), ih (by omega)]
theorem setR_f (l : List Int) : jigsawref04_Set.f (l.length + 1) l = some (setS l) := by
  unfold jigsawref04_Set.f setS
  by_cases h : 64 < l.length
  · rw [if_pos (by omega), if_pos h]
  · rw [if_neg (by omega), if_neg h]
    have := setR_l0 l (by omega) l.length 0 (-1000001) (by omega) (.inl ⟨rfl, rfl⟩)
    rw [List.drop_zero] at this
    exact this
theorem Set_calls {v : Value} (l : List Int) (w : World) (h : LstI w v l) :
    Calls Tryz.prog 68 #[v] w fun e w' => e = .returned (.bool (setS l)) ∧ Below w.heap.size w w' := by
  obtain ⟨A, c, rfl, hC, hc⟩ := h
  exact (sets_Set.calls _ A c l _ w hC hc (set_f l)).mono fun e w' ⟨he, hd⟩ => ⟨he, hd.below⟩
theorem Set_ref {v : Value} (l : List Int) (w : World) (h : LstI w v l) :
    Calls Tryz.prog 69 #[v] w fun e w' => e = .returned (.bool (setS l)) ∧ Below w.heap.size w w' := by
  obtain ⟨A, c, rfl, hC, hc⟩ := h
  exact (jigsawref04_Set.calls _ A c l _ w hC hc (setR_f l)).mono fun e w' ⟨he, hd⟩ => ⟨he, hd.below⟩
set_option maxHeartbeats 4000000 in
theorem as_calls {v : Value} (l : List Int) (w : World) (h : LstI w v l) :
    Calls Tryz.prog 122 #[v] w fun e w' => ∃ v', e = .returned v' ∧ LstI w' v' (asL l) ∧ Below w.heap.size w w' := by
  have HR := Lib.hid (Set_calls l w h)
  have H := Lib.hid h
  obtain ⟨A, c, rfl, _, _⟩ := h
  cases hR : setS l with
  | true =>
    have HT := Lib.hid (asL_of hR)
    have HX := Lib.hid hR
    go_enter Tryz.func122, Tryz.ntmps122
    go_wp2_with fail
    refine HR.out.mono ?_
    rw [HX.out]
    rintro e w1 ⟨rfl, hb⟩
    go_wp2_with fail
    go_ret
    refine ⟨_, rfl, ?_, hb⟩
    rw [HT.out]
    exact H.out.below hb
  | false =>
    have HT := Lib.hid (show asL l = [] by unfold asL; rw [hR]; rfl)
    have HX := Lib.hid hR
    go_enter Tryz.func122, Tryz.ntmps122
    go_wp2_with fail
    refine HR.out.mono ?_
    rw [HX.out]
    rintro e w1 ⟨rfl, hb⟩
    go_wp2_with fail
    go_ret
    refine ⟨_, rfl, ?_, hb⟩
    rw [HT.out]
    exact LstI.nil w1
set_option maxHeartbeats 4000000 in
theorem Taken4_ref {v : Value} (l : List Int) (w : World) (h : LstI w v l) :
    Calls Tryz.prog 129 #[v] w fun e w' => ∃ v', e = .returned v' ∧ LstI w' v' (asL l) ∧ Below w.heap.size w w' := by
  have HR := Lib.hid (Set_ref l w h)
  have H := Lib.hid h
  obtain ⟨A, c, rfl, _, _⟩ := h
  cases hR : setS l with
  | true =>
    have HT := Lib.hid (asL_of hR)
    have HX := Lib.hid hR
    go_enter Tryz.func129, Tryz.ntmps129
    go_wp2_with fail
    refine HR.out.mono ?_
    rw [HX.out]
    rintro e w1 ⟨rfl, hb⟩
    go_wp2_with fail
    go_ret
    refine ⟨_, rfl, ?_, hb⟩
    rw [HT.out]
    exact H.out.below hb
  | false =>
    have HT := Lib.hid (show asL l = [] by unfold asL; rw [hR]; rfl)
    have HX := Lib.hid hR
    go_enter Tryz.func129, Tryz.ntmps129
    go_wp2_with fail
    refine HR.out.mono ?_
    rw [HX.out]
    rintro e w1 ⟨rfl, hb⟩
    go_wp2_with fail
    go_ret
    refine ⟨_, rfl, ?_, hb⟩
    rw [HT.out]
    exact LstI.nil w1

end Go.Proofs.YtjeomiooheoegaaGreatDoor.PD

namespace Go.Proofs.YtjeomiooheoegaaGreatDoor.PD
open Go.RowKit Go.Proofs.YtjeomiooheoegaaGreatDoorW.PrintWords Go.Proofs.YtjeomiooheoegaaGreatDoorW.PrintLast Go.Proofs.YtjeomiooheoegaaGreatDoorW.PrintMore
set_option linter.unusedVariables false
set_option linter.unusedSimpArgs false
/-! ### has, In of the reference -/
theorem has_l0 (v : Int) (l : List Int) (hl : l.length ≤ 1000000000000000) : ∀ (d i : Nat), l.length = i + d → jigsawref04_has.l0 (d + 1) v l (i : Int) = some (decide (v ∈ l.drop i))
  | 0, i, hd => by
    rw [jigsawref04_has.l0, if_neg (by omega), List.drop_eq_nil_of_le (by omega)]
    rfl
  | d + 1, i, hd => by
    have hi : i < l.length := by omega
    rw [List.drop_eq_getElem_cons hi, jigsawref04_has.l0, if_pos (by omega), if_pos (by omega), rdI l i hi, w64_succ i l.length (by omega) hl, has_l0 v l hl d (i + 1) (by omega)]
    by_cases h : l[i] = v
    · rw [if_pos h, decide_eq_true (show v ∈ l[i] :: l.drop (i + 1) by rw [h]; exact List.mem_cons_self)]
    · rw [if_neg h]
      congr 1
      rw [decide_eq_decide, List.mem_cons]
      exact ⟨.inr, fun q => q.elim (fun e => absurd e.symm h) id⟩
theorem has_ref {v : Value} (x : Int) (l : List Int) (w : World) (h : LstI w v l) (hl : l.length ≤ 1000000000000000) :
    Calls Tryz.prog 139 #[.int .i64 x, v] w fun e w' => e = .returned (.bool (decide (x ∈ l))) ∧ Below w.heap.size w w' := by
  obtain ⟨A, c, rfl, hC, hc⟩ := h
  have := has_l0 x l hl l.length 0 (by omega)
  rw [List.drop_zero] at this
  exact (jigsawref04_has.calls _ x A c l _ w hC hc this).mono fun e w' ⟨he, hd⟩ => ⟨he, hd.below⟩
set_option maxHeartbeats 4000000 in
theorem In_ref {v : Value} (x : Int) (l : List Int) (w : World) (h : LstI w v l) :
    Calls Tryz.prog 65 #[.int .i64 x, v] w fun e w' => e = .returned (.bool (inS x l)) ∧ Below w.heap.size w w' := by
  have HT := Lib.hid (Taken4_ref l w h)
  have hl := set_len (asL_set l)
  have HI := Lib.hid (show inS x l = decide (x ∈ asL l) from rfl)
  obtain ⟨A, c, rfl, _, _⟩ := h
  rw [HI.out]
  generalize asL l = t at *
  have HX := Lib.hid (fun v W h => has_ref (v := v) x t W h (by omega))
  generalize decide (x ∈ t) = r at *
  go_enter Tryz.func65, Tryz.ntmps65
  go_wp2_with fail
  refine HT.out.mono ?_
  rintro e w1 ⟨v1, rfl, hL, hb⟩
  have HB := Lib.hid hb
  obtain ⟨A1, c1, rfl⟩ := hL.form
  have HL := Lib.hid hL
  clear hb hL
  go_wp2_with fail
  refine (HX.out _ _ HL.out).mono ?_
  rintro e w2 ⟨rfl, hb2⟩
  go_wp2_with fail
  go_ret
  exact ⟨rfl, below_step HB.out hb2⟩

end Go.Proofs.YtjeomiooheoegaaGreatDoor.PD

namespace Go.Proofs.YtjeomiooheoegaaGreatDoor.PD
open Go.RowKit Go.Proofs.YtjeomiooheoegaaGreatDoorW.PrintWords Go.Proofs.YtjeomiooheoegaaGreatDoorW.PrintLast Go.Proofs.YtjeomiooheoegaaGreatDoorW.PrintMore
set_option linter.unusedVariables false
set_option linter.unusedSimpArgs false
/-! ### BinarySearch, In of the program -/
theorem less_f (a b : Int) : cmp_Less_int64.f a b = some (decide (a < b)) := by
  unfold cmp_Less_int64.f cmp_isNaN_int64.f
  simp
theorem nan_f (a : Int) : slices_isNaN_int64.f a = some false := by
  unfold slices_isNaN_int64.f
  simp
theorem search_mid (lo hi : Nat) (h1 : lo ≤ 1000000) (h2 : hi ≤ 1000000) : wrap64 ((IntKind.u64.wrap (wrap64 ((lo : Int) + hi))) / 2) = (((lo + hi) / 2 : Nat) : Int) := by
  have e1 : wrap64 ((lo : Int) + hi) = ((lo + hi : Nat) : Int) := (IntWalk.wrap64_in _ (by omega)).trans (by omega)
  rw [e1]
  clear e1
  have hm : lo + hi ≤ 2000000 := by omega
  clear h1 h2
  generalize lo + hi = m at *
  have e2 : IntKind.u64.wrap (m : Int) = (m : Int) := by
    show ((m : Int) % 18446744073709551616) = m
    omega
  rw [e2]
  clear e2
  exact (IntWalk.wrap64_in _ (by omega)).trans (by omega)
theorem search_l0 (l : List Int) (x : Int) (hl : l.length ≤ 1000000) (hs : Ris l) : ∀ (g lo hi : Nat), hi - lo < g → lo ≤ hi → hi ≤ l.length → (∀ j (h : j < l.length), j < lo → l[j] < x) → (∀ j (h : j < l.length), hi ≤ j → x ≤ l[j]) →
    ∃ r, slices_BinarySearch_int64_int64.l0 g l x (l.length : Int) (lo : Int) (hi : Int) = some (r, decide (x ∈ l))
  | 0, lo, hi, h, _, _, _, _ => by omega
  | g + 1, lo, hi, hg, h1, h2, h3, h4 => by
    rw [slices_BinarySearch_int64_int64.l0]
    by_cases hlt : lo < hi
    · have HM := Lib.hid (search_mid lo hi (by omega) (by omega))
      have HW := Lib.hid (w64_succ ((lo + hi) / 2) 1000000 (by omega) (by omega))
      have hml : (lo + hi) / 2 < l.length := by omega
      rw [if_pos (by omega), HM.out, if_pos (by omega), if_pos (by omega), rdI l _ hml, less_f]
      simp only [Option.bind_some]
      by_cases hc : l[(lo + hi) / 2] < x
      · rw [if_pos (decide_eq_true hc)]
        rw [HW.out]
        refine search_l0 l x hl hs g _ _ (by omega) (by omega) h2 (fun j hj hjl => ?_) h4
        by_cases e : j = (lo + hi) / 2
        · subst e; exact hc
        · have := List.pairwise_iff_getElem.1 hs j ((lo + hi) / 2) hj hml (by omega)
          omega
      · rw [if_neg (by simpa using hc)]
        refine search_l0 l x hl hs g _ _ (by omega) (by omega) (by omega) h3 (fun j hj hjl => ?_)
        by_cases e : j = (lo + hi) / 2
        · subst e; omega
        · have := List.pairwise_iff_getElem.1 hs ((lo + hi) / 2) j hml hj (by omega)
          omega
    · obtain rfl : lo = hi := by omega
      rw [if_neg (by omega)]
      by_cases hn : lo < l.length
      · rw [if_pos (by omega), if_pos (by omega), if_pos (by omega), rdI l lo hn, nan_f]
        by_cases e : l[lo] = x
        · rw [if_pos e]
          exact ⟨_, by rw [decide_eq_true (by rw [← e]; exact List.getElem_mem hn)]⟩
        · rw [if_neg e]
          simp only [Option.bind_some, Bool.false_eq_true, if_false]
          refine ⟨(lo : Int), ?_⟩
          suffices hn : x ∉ l by rw [decide_eq_false hn]
          intro hx
          obtain ⟨j, hj, hjx⟩ := List.getElem_of_mem hx
          by_cases q : j < lo
          · have := h3 j hj q; omega
          · by_cases q2 : j = lo
            · subst q2; exact e hjx
            · have := List.pairwise_iff_getElem.1 hs lo j hn hj (by omega)
              have := h4 lo hn (Nat.le_refl _)
              omega
      · rw [if_neg (by omega)]
        refine ⟨(lo : Int), ?_⟩
        suffices hn : x ∉ l by rw [decide_eq_false hn]
        intro hx
        obtain ⟨j, hj, hjx⟩ := List.getElem_of_mem hx
        have := h3 j hj (by omega)
        omega
theorem search_calls {v : Value} (l : List Int) (x : Int) (w : World) (h : LstI w v l) (hl : l.length ≤ 1000000) (hs : Ris l) :
    Calls Tryz.prog 138 #[v, .int .i64 x] w fun e w' => ∃ r : Int, e = .returned (.tuple #[.int .i64 r, .bool (decide (x ∈ l))]) ∧ Below w.heap.size w w' := by
  obtain ⟨A, c, rfl, hC, hc⟩ := h
  obtain ⟨r, hr⟩ := search_l0 l x hl hs (l.length + 1) 0 l.length (by omega) (by omega) (Nat.le_refl _) (fun j h q => by omega) (fun j h q => by omega)
  exact (slices_BinarySearch_int64_int64.calls _ A c l x r _ w hC hc hr).mono fun e w' ⟨he, hd⟩ => ⟨r, he, hd.below⟩
set_option maxHeartbeats 4000000 in
theorem In_calls {v : Value} (x : Int) (l : List Int) (w : World) (h : LstI w v l) :
    Calls Tryz.prog 64 #[.int .i64 x, v] w fun e w' => e = .returned (.bool (inS x l)) ∧ Below w.heap.size w w' := by
  have HT := Lib.hid (as_calls l w h)
  have hl := set_len (asL_set l)
  have HRI := Lib.hid (set_ris (asL_set l))
  have HI := Lib.hid (show inS x l = decide (x ∈ asL l) from rfl)
  obtain ⟨A, c, rfl, _, _⟩ := h
  rw [HI.out]
  generalize asL l = t at *
  have HX := Lib.hid (fun v W h => search_calls (v := v) t x W h (by omega) HRI.out)
  generalize decide (x ∈ t) = r at *
  go_enter Tryz.func64, Tryz.ntmps64
  go_wp2_with fail
  refine HT.out.mono ?_
  rintro e w1 ⟨v1, rfl, hL, hb⟩
  have HB := Lib.hid hb
  obtain ⟨A1, c1, rfl⟩ := hL.form
  have HL := Lib.hid hL
  clear hb hL
  go_wp2_with fail
  refine (HX.out _ _ HL.out).mono ?_
  rintro e w2 ⟨k, rfl, hb2⟩
  go_wp2_with fail
  go_ret
  exact ⟨rfl, below_step HB.out hb2⟩

end Go.Proofs.YtjeomiooheoegaaGreatDoor.PD
