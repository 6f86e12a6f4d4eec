/- Parts of the laws of bits: functions of the program, each with the proof of what it answers; the conditions are those of each theorem. -/
import Derived.Test.YtfkbkcdiajjljaaDoorBu
namespace Go.Proofs.YtfkbkcdiajjljaaDoor.PBitsSteps
open Go.RowKit Go.Proofs.YtfkbkcdiajjljaaDoorW.PrintWords Go.Proofs.YtfkbkcdiajjljaaDoorW.PrintLast Go.Proofs.YtfkbkcdiajjljaaDoorW.PrintMore
set_option linter.unusedVariables false
set_option linter.unusedSimpArgs false
/-! ### keep, And, Minus -/
/-- another set, or none -/
def OSet (W : World) (p : Value) (bs : List Nat) (M : Int → Bool) : Prop :=
  (p = .pointer none ∧ bs = [] ∧ M = fun _ => false) ∨ ∃ g gp f r, p = setP g ∧ bs = [g, gp] ∧ SetAt W g gp f r M
theorem OSet.keep {W W' : World} {p : Value} {bs : List Nat} {M : Int → Bool} (h : OSet W p bs M) (hk : keepsB bs W W') : OSet W' p bs M := by
  rcases h with h | ⟨g, gp, f, r, rfl, rfl, h⟩
  · exact .inl h
  · exact .inr ⟨g, gp, f, r, rfl, rfl, h.keep (hk g (by simp)) (hk gp (by simp))⟩
theorem OSet.lt {W : World} {p : Value} {bs : List Nat} {M : Int → Bool} (h : OSet W p bs M) : ∀ b ∈ bs, b < W.heap.size := by
  rcases h with ⟨_, rfl, _⟩ | ⟨g, gp, f, r, rfl, rfl, h⟩
  · intro b hb; cases hb
  · intro b hb
    have := h.lt
    simp only [List.mem_cons, List.not_mem_nil, or_false] at hb
    rcases hb with rfl | rfl
    · exact this.1
    · exact this.2.1
theorem OSet.below {W W' : World} {p : Value} {bs : List Nat} {M : Int → Bool} (h : OSet W p bs M) (hb : Below W.heap.size W W') : OSet W' p bs M := h.keep (fun b hbm => hb.block b (h.lt b hbm))
theorem OSet.one {W : World} {p : Value} {bs : List Nat} {M : Int → Bool} (h : OSet W p bs M) : p.oneCell' = true := by
  rcases h with ⟨rfl, _⟩ | ⟨g, gp, f, r, rfl, _⟩ <;> rfl
theorem OSet.has {W : World} {p : Value} {bs : List Nat} {M : Int → Bool} (h : OSet W p bs M) (v : Int) :
    Calls Tryd.prog 12 #[p, .int .i64 v] W fun e w' => e = .returned (.bool (M v)) ∧ Drawn0 W w' := by
  rcases h with ⟨rfl, _, rfl⟩ | ⟨g, gp, f, r, rfl, _, h⟩
  · exact has_nil v W
  · exact h.has v
theorem OSet.copy {W : World} {p : Value} {bs : List Nat} {M : Int → Bool} (h : OSet W p bs M) :
    Calls Tryd.prog 36 #[p] W fun e w' => ∃ p' bs', e = .returned p' ∧ (∀ b ∈ bs', W.heap.size ≤ b) ∧ OSet w' p' bs' M ∧ Below W.heap.size W w' := by
  rcases h with ⟨rfl, _, rfl⟩ | ⟨g, gp, f, r, rfl, _, h⟩
  · refine (copy_nil W).mono ?_
    rintro e w' ⟨rfl, rfl⟩
    exact ⟨_, [], rfl, (fun b hb => by cases hb), Or.inl ⟨rfl, rfl, rfl⟩, Below.refl _ _⟩
  · refine h.copy.mono ?_
    rintro e w' ⟨g', gp', rfl, k1, k2, k3, k4⟩
    refine ⟨_, [g', gp'], rfl, fun b hb => ?_, .inr ⟨g', gp', f, r, rfl, rfl, k3⟩, k4⟩
    simp only [List.mem_cons, List.not_mem_nil, or_false] at hb
    rcases hb with rfl | rfl
    · exact k1
    · exact k2
theorem minus1_calls {W : World} {p : Value} {bs : List Nat} {M : Int → Bool} {bx : Nat} (h : OSet W p bs M) (hb : Boxed W bx 23 p) (v : Int) :
    Calls Tryd.prog 59 #[.int .i64 v, .pointer (some ⟨bx, 0, none⟩)] W fun e w' => e = .returned (.bool (!M v)) ∧ Drawn0 W w' := by
  have hc := hb.cell
  have H := Lib.hid h
  clear h hb
  go_enter Tryd.func59, Tryd.ntmps59
  go_wp2_with fail
  refine (H.out.has v).mono ?_
  rintro e w1 ⟨rfl, hd⟩
  go_wp2_with fail
  go_ret
  exact ⟨rfl, hd⟩
def keepX (ex : List Nat) (W0 W : World) : Prop := W0.heap.size ≤ W.heap.size ∧ ∀ b, b < W0.heap.size → b ∉ ex → W.heap[b]? = W0.heap[b]?
theorem keepX.refl (ex : List Nat) (W : World) : keepX ex W W := ⟨Nat.le_refl _, fun _ _ _ => rfl⟩
theorem keepX.trans {ex : List Nat} {A B C : World} (h : keepX ex A B) (k : keepX ex B C) : keepX ex A C :=
  ⟨Nat.le_trans h.1 k.1, fun b hb hx => (k.2 b (Nat.lt_of_lt_of_le hb h.1) hx).trans (h.2 b hb hx)⟩
theorem keepX.keepsB {ex bs : List Nat} {W0 W : World} (h : keepX ex W0 W) (hb : ∀ b ∈ bs, b < W0.heap.size ∧ b ∉ ex) : keepsB bs W0 W := fun b hm => h.2 b (hb b hm).1 (hb b hm).2
theorem ownFrom_keepX {β : Type} (ex : List Nat) (W0 : World) : OwnFrom W0.heap.size (fun (_ : β) W => keepX ex W0 W) := by
  intro s W W' row hs hg hr
  refine ⟨Nat.le_trans hs.1 hg.size, fun b hb hx => (hg.block b (Nat.lt_of_lt_of_le hb hs.1) (fun e => ?_)).trans (hs.2 b hb hx)⟩
  have := (hr b e.symm).1
  omega
/-- what stays, some values having been looked at -/
def keptM (M0 K : Int → Bool) (pre : List Int) (x : Int) : Bool := M0 x && (K x || !decide (x ∈ pre))
def anyOut (K : Int → Bool) (pre : List Int) : Bool := pre.any fun x => !K x
theorem keptM_nil (M0 K : Int → Bool) (x : Int) : keptM M0 K [] x = M0 x := by simp [keptM]
theorem keptM_stay (M0 K : Int → Bool) (pre : List Int) (v : Int) (h : K v = true) (x : Int) : keptM M0 K pre x = keptM M0 K (pre ++ [v]) x := by
  unfold keptM
  by_cases e : x = v
  · subst e; simp [h]
  · simp [e]
theorem keptM_drop (M0 K : Int → Bool) (pre : List Int) (v : Int) (h : K v = false) (x : Int) : (keptM M0 K pre x && !(x == v)) = keptM M0 K (pre ++ [v]) x := by
  unfold keptM
  by_cases e : x = v
  · subst e; simp [h]
  · simp [e]
theorem keptM_all (M0 K : Int → Bool) (pre : List Int) (h : ∀ x, M0 x = true → x ∈ pre) (x : Int) : keptM M0 K pre x = (M0 x && K x) := by
  unfold keptM
  cases hm : M0 x with
  | false => rfl
  | true => simp [h x hm]

attribute [local go_sem] Oper.semAt_some
open Go.Shelf in
set_option maxRecDepth 100000 in
set_option maxHeartbeats 4000000 in
theorem keep_and {w : World} {g gp : Nat} {f r : Int} {M0 Mo : Int → Bool} {p : Value} {bs : List Nat}  (n0 : Nat) (h : SetAt w g gp f r M0) (hL : TabLaid w) (ho : OSet w p bs Mo) (hbs : gp ∉ bs) (hg0 : 0 < gp) (hn : n0 ≤ gp ∧ n0 ≤ w.heap.size) :
    Calls Tryd.prog 58 #[setP g, .func (.func 12) #[p] #[]] w fun e w' => e = .returned (.bool (anyOut (Mo) (vals M0 f r))) ∧ SetAt w' g gp f r (fun x => M0 x && (Mo) x) ∧ keepX [gp] w w' ∧ Below n0 w w' := by
  have hs0 := h
  have hr : 0 < r ∧ r ≤ 65536 ∧ -1000000 ≤ f ∧ f + r ≤ 1000001 := by
    obtain ⟨n, c, ws, cs, h1, h2, h3, h4, h5, h6⟩ := h
    exact ⟨h6.room.2.1, h6.room.2.2.1, h6.room.2.2.2⟩
  have hin := fun v => h.inn v
  have hlt := h.lt
  have hz : 0 < w.heap.size := by omega
  have hob := ho.lt
  have HS := Lib.hid hs0; have HL := Lib.hid hL; have HIN := Lib.hid hin; have HO := Lib.hid ho; have HOB := Lib.hid hob; have HBS := Lib.hid hbs
  skip
  clear hs0 h hL hin ho hob hbs
  refine (callsIn_wide (n := 5)).1 ?_
  refine callsIn_of_wp_marks Tryd.func58 rfl trivial ?_ rfl
  simp only [Tryd.ntmps58, List.size_toArray, List.length_cons, List.length_nil, Nat.reduceAdd, Nat.reduceSub, Array.replicate_succ, Array.replicate_zero, List.push_toArray, List.append_toArray, List.nil_append, List.cons_append]
  refine wpIn_wide.2 ?_
  have U : setP g = .pointer (some ⟨g, 0, none⟩) := rfl
  rw [U]
  go_wp2_with fail
  rw [← U]
  generalize hW3 : World.alloc _ (.cells #[.bool false] 4) = W3
  have hsz3 : W3.heap.size = w.heap.size + 3 := by rw [← hW3]; simp
  have hB3 : Below w.heap.size w W3 := by rw [← hW3]; exact (((Below.refl _ w).alloc (Nat.le_refl _) _).alloc (by simp) _).alloc (by simp; omega) _
  have bxs : Boxed W3 w.heap.size 23 (setP g) := by
    rw [← hW3]; exact ((Boxed.new w 23 _).alloc _).alloc _
  have bxw : Boxed W3 (w.heap.size + 1) 31 (.func (.func 12) #[p] #[]) := by
    rw [← hW3]
    have := Boxed.new (w.alloc (.cells #[setP g] 23)) 31 (.func (.func 12) #[p] #[])
    rw [World.size_alloc] at this
    exact this.alloc _
  have bxa : Boxed W3 (w.heap.size + 1 + 1) 4 (.bool false) := by
    rw [← hW3]
    have := Boxed.new ((w.alloc (.cells #[setP g] 23)).alloc (.cells #[.func (.func 12) #[p] #[]] 31)) 4 (.bool false)
    rw [World.size_alloc, World.size_alloc] at this
    exact this
  clear hW3
  refine ((HS.out.below hB3).each).mono ?_
  rintro e W0 ⟨B, gc, gpc, rfl, ⟨k1, k2, k3⟩, k4, k5, k6⟩
  rw [hsz3] at k1 k2 k3
  have hBW : Below w.heap.size w W0 := below_step hB3 k6
  have hS0 := HS.out.below hBW
  have b1 := boxed_below bxs k6
  have b2 := boxed_below bxw k6
  have b3 := boxed_below bxa k6
  have hL0 : TabLaid W0 := tab_keep HL.out (hBW.block 0 hz)
  have hO0 := HO.out.below hBW
  have hltB := k4.lt
  have hlt' := k5.lt
  have hws := k6.size
  rw [hsz3] at hws
  have hst := each_stops (5 - 1) (by decide) B gc gpc f r M0 W0 k4 k5 hL0 (by omega) hr HIN.out
  have HB1 := Lib.hid b1; have HB2 := Lib.hid b2; have HB3 := Lib.hid b3; have HS0 := Lib.hid hS0; have HO0 := Lib.hid hO0; have HBW := Lib.hid (hBW.mono hn.2)
  have hKX : keepX [gp] w W0 := ⟨hBW.size, fun b hb _ => hBW.block b hb⟩
  have HKX := Lib.hid hKX
  clear b1 b2 b3 hS0 hO0 hBW hKX k4 k5 k6 hB3 bxs bxw bxa hL0
  go_wp2_with fail
  refine (wpIn_wide (n := 5)).1 ?_
  refine wpIn_rangeFunc_ownF rfl (by decide) (gf := 61) (lb := #[.pointer (some ⟨B, 0, none⟩)]) rfl trivial (enters_of Tryd.func61 (by kernel_rfl) rfl)
    hst (fun h k => keepsB_trans h k)
    (fun W l o o' hl ho hoc _ b hb => World.putObj_heap_other (by simp only [List.mem_cons, List.not_mem_nil, or_false] at hb; omega))
    (Below.refl _ _) (fun _ => rfl)
    (fun (pre : List (Val M0)) W => ((SetAt W g gp f r (keptM M0 (Mo) (valL pre)) ∧ Boxed W (w.heap.size + 1 + 1) 4 (.bool (anyOut (Mo) (valL pre)))) ∧ keepX [gp, w.heap.size + 1 + 1] W0 W) ∧ Below n0 w W)
    (fun _ _ _ => False)
    (OwnFrom.and (OwnFrom.and (OwnFrom.and (ownFrom_setAt _ g gp (by omega) (by omega) _ _ (fun pre : List (Val M0) => keptM M0 (Mo) (valL pre))) (Own.from (boxed_own (w.heap.size + 1 + 1) 4 (fun pre : List (Val M0) => .bool (anyOut (Mo) (valL pre)))) _)) (ownFrom_keepX _ _)) (ownFrom_below hn.2 (by omega)))
    (fun _ _ _ _ _ hs _ _ => hs)
    ⟨⟨⟨HS0.out.ext (fun x => (keptM_nil _ _ x).symm), HB3.out⟩, keepX.refl _ _⟩, HBW.out⟩
    (fun x => { tmps := #[.pointer (some ⟨g, 0, none⟩), .func (.func 12) #[p] #[], .pointer (some ⟨w.heap.size, 0, none⟩), .pointer (some ⟨w.heap.size + 1, 0, none⟩), .bool false, .pointer (some ⟨w.heap.size + 1 + 1, 0, none⟩), .int .i64 x.1, .pointer (some ⟨g, 0, none⟩), .func (.func 61) #[] #[.pointer (some ⟨B, 0, none⟩)], .int .i64 x.1, undef, undef, undef, undef, undef, undef, undef, undef], defers := [] }) ?assign ?body ?done ?stop
  case assign =>
    intro l x W K hK
    gi_wp2
    exact hK
  case body =>
    rintro l pre x W ⟨⟨⟨hs, hba⟩, hk⟩, hB⟩ hlt2
    have hx := HIN.out x.1 x.2
    have c1 : W.cell? ⟨w.heap.size, 0, none⟩ = some (.pointer (some ⟨g, 0, none⟩)) := Boxed.cell (t := 23) ((hk.2 _ (by omega) (by simp; omega)).trans HB1.out)
    have c2 : W.cell? ⟨w.heap.size + 1, 0, none⟩ = some (.func (.func 12) #[p] #[]) := Boxed.cell (t := 31) ((hk.2 _ (by omega) (by simp; omega)).trans HB2.out)
    have hOW : OSet W p bs Mo := HO0.out.keep (hk.keepsB (fun b hb => ⟨by have := HOB.out b hb; omega, by
      have := HOB.out b hb
      simp only [List.mem_cons, List.not_mem_nil, or_false, not_or]
      exact ⟨fun e => HBS.out (e ▸ hb), by omega⟩⟩))
    have hcall := hOW.has x.1
    have HSB := Lib.hid hs; have HBA := Lib.hid hba; have HK := Lib.hid hk; have HBB := Lib.hid hB
    clear hs hba hk hB hst hOW
    cases hMo : (Mo) x.1 with
    | true =>
      rw [hMo] at hcall
      have HC := Lib.hid hcall
      clear hcall
      gi_wp2_with (refine ⟨trivial, (CallsIn.inRound l (callsIn_wide.2 HC.out)).mono ?_⟩; rintro e w' ⟨rfl, ⟨⟨m, rfl⟩⟩⟩)
      refine ⟨⟨Nat.le_refl _, fun _ _ h _ => h⟩, fun b hb => rfl, ⟨⟨(HSB.out.drawn m).ext (fun y => ?_), ?_⟩, HK.out⟩, pw_below_drewN HBB.out m⟩
      · rw [valL_snoc]; exact keptM_stay _ _ _ _ hMo y
      · have e : anyOut (Mo) (valL (pre ++ [x])) = anyOut (Mo) (valL pre) := by rw [valL_snoc]; simp only [anyOut, List.any_append, List.any_cons, List.any_nil, Bool.or_false]; simp [hMo]
        rw [e]; exact HBA.out
    | false =>
      rw [hMo] at hcall
      have HC := Lib.hid hcall
      clear hcall
      gi_wp2_with (refine ⟨trivial, (CallsIn.inRound l (callsIn_wide.2 HC.out)).mono ?_⟩; rintro e w' ⟨rfl, ⟨⟨m, rfl⟩⟩⟩)
      rw [← U]
      refine ⟨trivial, (CallsIn.inRound l (callsIn_wide.2 ((HSB.out.drawn m).del2 x.1 n0 hn.1))).mono ?_⟩
      rintro e w' ⟨rfl, hs', hk', hb'⟩
      have hba' : Boxed w' (w.heap.size + 1 + 1) 4 (.bool (anyOut (Mo) (valL pre))) := (hk' _ (by omega)).trans HBA.out
      have cA := hba'.cell
      have fA := hba'.frozen
      have HS' := Lib.hid hs'; have HK' := Lib.hid hk'; have HB' := Lib.hid hb'; have HBA' := Lib.hid hba'
      clear hs' hk' hb' hba'
      rw [U]
      gi_wp2
      have hbig : w'.heap.size = w'.heap.size := rfl
      have hkeepW : ∀ b, b ≠ gp → b ≠ w.heap.size + 1 + 1 → (w'.setCell ⟨w.heap.size + 1 + 1, 0, none⟩ (.bool true)).heap[b]? = W.heap[b]? := fun b h1 h2 => (Below.heap_setCell w' ⟨w.heap.size + 1 + 1, 0, none⟩ (.bool true) b h2).trans (HK'.out b h1)
      have hsz' : W.heap.size ≤ w'.heap.size := HB'.out.size
      have hsz'' : (w'.setCell ⟨w.heap.size + 1 + 1, 0, none⟩ (.bool true)).heap.size = w'.heap.size := by simp [World.setCell]
      refine ⟨⟨by rw [hsz'']; exact hsz', fun k o hk ho => ?_⟩, fun b hb => ?_, ⟨⟨?_, ?_⟩, Nat.le_trans HK.out.1 (by rw [hsz'']; exact hsz'), fun b hb hx => ?_⟩, ?_⟩
      · rw [hkeepW k (fun e => ?_) (fun e => ?_)]
        · exact hk
        · subst e
          obtain ⟨_, _, _, _, _, q2, _⟩ := HSB.out
          rw [q2] at hk; cases hk; cases ho
        · subst e
          rw [show W.heap[w.heap.size + 1 + 1]? = _ from HBA.out] at hk; cases hk; cases ho
      · simp only [List.mem_cons, List.not_mem_nil, or_false] at hb
        exact hkeepW b (by omega) (by omega)
      · refine (HS'.out.keep (Below.heap_setCell w' ⟨w.heap.size + 1 + 1, 0, none⟩ (.bool true) g (by show g ≠ w.heap.size + 1 + 1; omega)) (Below.heap_setCell w' ⟨w.heap.size + 1 + 1, 0, none⟩ (.bool true) gp (by show gp ≠ w.heap.size + 1 + 1; omega))).ext (fun y => ?_)
        rw [valL_snoc]; exact keptM_drop _ _ _ _ hMo y
      · have e : anyOut (Mo) (valL (pre ++ [x])) = true := by rw [valL_snoc]; simp only [anyOut, List.any_append, List.any_cons, List.any_nil, Bool.or_false]; simp [hMo]
        rw [e]; exact HBA'.out.set (.bool true)
      · simp only [List.mem_cons, List.not_mem_nil, or_false, not_or] at hx
        rw [hkeepW b hx.1 hx.2]
        exact HK.out.2 b hb (by simp only [List.mem_cons, List.not_mem_nil, or_false, not_or]; exact hx)
      · exact ((HBB.out.trans (pw_below_drewN (Below.refl _ _) m)).trans HB'.out).setCell (p := ⟨w.heap.size + 1 + 1, 0, none⟩) (by show n0 ≤ w.heap.size + 1 + 1; omega) (.bool true)
  case done =>
    rintro D xs W hD hS ⟨⟨⟨hs, hba⟩, hk⟩, hB⟩ hK
    have hxs : valL xs = vals M0 f r := hS
    rw [hxs] at hs hba
    have cA := hba.cell
    have HSB := Lib.hid hs; have HK := Lib.hid hk; have HBB := Lib.hid hB
    clear hs hk hB hst hS
    gi_wp2_with fail
    go_wp2_with fail
    refine ⟨by simp, .inl ⟨_, _, rfl, run_takeDeferred hK, ?_⟩⟩
    refine ⟨_, by simp [results, Tryd.results58, go_sem]; rfl, ?_⟩
    refine ⟨rfl, ?_, ⟨?_, fun b hb hx => ?_⟩, HBB.out.trans (belowK_b (w := w) hn.2 W D _ _ (by omega) hK rfl rfl)⟩
    · refine (HSB.out.keep (World.putObj_heap_other (by omega)) (World.putObj_heap_other (by omega))).ext (fun y => ?_)
      exact keptM_all _ _ _ (fun v hv => (mem_vals M0 f r HIN.out v).2 hv) y
    · have := HK.out.1
      simp
      omega
    · rw [World.putObj_heap_other (by omega)]
      simp only [List.mem_cons, List.not_mem_nil, or_false] at hx
      by_cases e : b = w.heap.size + 1 + 1
      · omega
      · rw [HK.out.2 b (by omega) (by simp only [List.mem_cons, List.not_mem_nil, or_false, not_or]; exact ⟨hx, e⟩)]
        exact HKX.out.2 b hb (by simp; exact hx)
  case stop =>
    rintro D c pre W _ _ h _
    exact h.elim

end Go.Proofs.YtfkbkcdiajjljaaDoor.PBitsSteps
