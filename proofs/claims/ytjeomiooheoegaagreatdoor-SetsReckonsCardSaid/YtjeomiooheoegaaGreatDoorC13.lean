/- Parts of the laws of sets and branch: functions of the program, each with the proof of what it answers; the conditions are those of each theorem. -/
import Derived.Test.YtjeomiooheoegaaGreatDoorC11
import Derived.Test.YtjeomiooheoegaaGreatDoorC12
import Derived.RangeFuncNested
import Derived.RangeFuncBound
import Derived.RangeFuncCalls
import Derived.RangeFuncLeaves
import Derived.Shelf.Abstract
import Derived.Shelf.RegionOpen
import Derived.WalkKit
import Derived.OwnWalkIn
import Derived.TacticsInMore
import Derived.LoopNIn
import Derived.LoopIn
import Derived.Test.YtjeomiooheoegaaGreatDoorC1
namespace Go.Proofs.YtjeomiooheoegaaGreatDoor.PD
open Go.RowKit Go.Proofs.YtjeomiooheoegaaGreatDoorW.PrintWords Go.Proofs.YtjeomiooheoegaaGreatDoorW.PrintLast Go.Proofs.YtjeomiooheoegaaGreatDoorW.PrintMore
set_option linter.unusedVariables false
set_option linter.unusedSimpArgs false
/-! ### closed facts of known -/
def D0 : DomD := ⟨true, [], [1], [1, 2, 3], 1, 2⟩
theorem known_of : ofD [1] [1, 2, 3] 0 2 = (D0, 0) := by kernel_rfl
theorem known_all : allD D0 = [[1], [1, 2], [1, 3]] := by kernel_rfl
theorem known_count : countD D0 = 3 := by kernel_rfl
theorem known_cmp : cmpS [1, 3] [1, 2, 9] = 1 := by kernel_rfl
theorem known_parse : (parseP ⟨#[123, 49, 44, 49, 125]⟩).2 = 20 := by kernel_rfl
theorem known_text : setT (asL [1]) ++ (setT (asL [1, 2]) ++ setT (asL [1, 3])) = ⟨#[123, 49, 125, 123, 49, 44, 50, 125, 123, 49, 44, 51, 125]⟩ := by kernel_rfl
theorem func_eqIn_nil (d : Nat) (fn : Fn) (a b : Array Value) (W : World) : (Op.equalIn (d + 1) 80 (.func fn a b) .nilFunc).run Tryz.prog W = .ok false W := by
  have h := Tryz.underlying80
  simp [Op.equalIn, run_underlying h]
theorem func_eql_nil (fn : Fn) (a b : Array Value) (W : World) : (binOp .eql 80 (.func fn a b) .nilFunc).run Tryz.prog W = .ok (.bool false) W := by
  have h : (Op.equal 80 (.func fn a b) .nilFunc).run Tryz.prog W = .ok false W := func_eqIn_nil 9999 fn a b W
  simp only [binOp]
  simp [h]
theorem lit_lst (W : World) (l : List Int) (hl : l.length ≤ 100) : LstI (W.alloc (.cells (l.map (Value.int .i64)).toArray 2)) (.slice (some ⟨W.heap.size, 0, none⟩) l.length l.length) l :=
  (RowI.mk (own_lit W 0 2 .i64 l (Nat.zero_le _) (by omega))).lst
/-! ### cells stay -/
theorem RowI.keepA {A B : World} {base : Nat} {v : Value} {l : List Int} (h : RowI A base v l) (hk : KeepA (fun _ => False) A B) : RowI B base v l := by
  have ho := h.own
  refine RowI.mk ⟨ho.1, ?_⟩
  rcases ho.2 with hn | ⟨g, cap, cur, hv, hbg, hg, hr⟩
  · exact .inl hn
  · exact .inr ⟨g, cap, cur, hv, hbg, hk.2 g _ (fun h => h) hg rfl, hr⟩
theorem ownFrom_keepA {β : Type} (n : Nat) (P : β → World → Prop) (h : ∀ s A B, P s A → KeepA (fun _ => False) A B → P s B) : OwnFrom n P := fun s A B row hs hg hr =>
  h s A B hs ⟨hg.size, fun b o _ ho hc => (grownBy_keeps_cells hg (fun r e => (hr r e).2) ho hc).trans ho⟩
theorem keepsOthers_below {W W' : World} (h : Below W.heap.size W W') : KeepsOthers W W' := ⟨h.size, fun k o hk _ => (h.block k (Array.getElem?_eq_some_iff.1 hk).1).trans hk⟩
theorem keepX_below {Pb : Nat → Prop} {x : Value × List Int} {W W' : World} (h : Below W.heap.size W W') : KeepX Pb x W W' := ⟨h.size, fun b o _ _ ho _ => (h.block b (Array.getElem?_eq_some_iff.1 ho).1).trans ho⟩
theorem keepX_set {Pb : Nat → Prop} {x : Value × List Int} (W : World) (g : Nat) (hg : Pb g) (u : Value) : KeepX Pb x W (W.setCell ⟨g, 0, none⟩ u) := ⟨by simp, fun b o h1 _ ho _ => (Below.heap_setCell _ _ _ b (fun e => h1 (by rw [e]; exact hg))).trans ho⟩
theorem keepX_put {Pb : Nat → Prop} {x : Value × List Int} (W : World) (l : Nat) (o o' : Obj) (hl : W.heap[l]? = some o) (hc : o.isCells = false) : KeepX Pb x W (W.putObj l o') :=
  ⟨by simp, fun b o1 _ _ ho h1 => (World.putObj_heap_other (fun e => by subst e; rw [hl] at ho; injection ho with ho; subst ho; rw [hc] at h1; cases h1)).trans ho⟩
def catT : List (Value × List Int) → ByteArray
  | [] => ⟨#[]⟩
  | x :: t => setT (asL x.2) ++ catT t
theorem catT_snoc : ∀ (pre : List (Value × List Int)) (x : Value × List Int), catT (pre ++ [x]) = catT pre ++ setT (asL x.2)
  | [], x => by
    show setT (asL x.2) ++ (⟨#[]⟩ : ByteArray) = (⟨#[]⟩ : ByteArray) ++ setT (asL x.2)
    rw [ba_nil, ba_nil']
  | y :: t, x => by rw [List.cons_append, catT, catT, catT_snoc t x, ba_assoc]
theorem catT_size : ∀ (pre : List (Value × List Int)), (catT pre).size ≤ 1300 * pre.length
  | [] => by show (⟨#[]⟩ : ByteArray).size ≤ _; exact Nat.zero_le _
  | x :: t => by
    have := catT_size t
    have := setT_size (asL_set x.2)
    rw [catT, ByteArray.size_append, List.length_cons]
    omega
theorem catT_known {xs : List (Value × List Int)} (h : xs.map Prod.snd = allD D0) : catT xs = ⟨#[123, 49, 125, 123, 49, 44, 50, 125, 123, 49, 44, 51, 125]⟩ := by
  rw [known_all] at h
  rcases xs with _ | ⟨x, _ | ⟨y, _ | ⟨z, _ | ⟨u, t⟩⟩⟩⟩
  · simp at h
  · simp at h
  · simp at h
  · simp only [List.map_cons, List.map_nil, List.cons.injEq, and_true] at h
    show setT (asL x.2) ++ (setT (asL y.2) ++ (setT (asL z.2) ++ (⟨#[]⟩ : ByteArray))) = _
    rw [h.1, h.2.1, h.2.2, ba_nil', known_text]
  · simp at h

end Go.Proofs.YtjeomiooheoegaaGreatDoor.PD

namespace Go.Proofs.YtjeomiooheoegaaGreatDoor.PD
open Go.RowKit Go.Proofs.YtjeomiooheoegaaGreatDoorW.PrintWords Go.Proofs.YtjeomiooheoegaaGreatDoorW.PrintLast Go.Proofs.YtjeomiooheoegaaGreatDoorW.PrintMore
set_option linter.unusedVariables false
set_option linter.unusedSimpArgs false
/-! ### known -/
attribute [local go_sem] Oper.semAt_some
open Go.Shelf in
set_option maxRecDepth 100000 in
set_option maxHeartbeats 16000000 in
theorem known_calls (w : World) (hd : DomLaid w) : Calls Tryz.prog 48 #[] w fun e w' => e = .returned (.bool true) ∧ Below w.heap.size w w' := by
  have HD := Lib.hid hd
  clear hd
  have HB1 := Lib.hid ((Below.refl w.heap.size w).alloc (Nat.le_refl _) (.cells #[.int .i64 1] 2) |>.alloc (by simp) (.cells #[.int .i64 1, .int .i64 2, .int .i64 3] 2))
  have HOF : Hid (Calls Tryz.prog 72 #[.slice (some ⟨w.heap.size, 0, none⟩) 1 1, .slice (some ⟨w.heap.size + 1, 0, none⟩) 3 3, .int .i64 0, .int .i64 2] ((w.alloc (.cells #[.int .i64 1] 2)).alloc (.cells #[.int .i64 1, .int .i64 2, .int .i64 3] 2)) fun e w' => ∃ v', e = .returned (.tuple #[v', .int .i64 0]) ∧ OwnD w' (w.heap.size + 1 + 1) v' D0 ∧ Below (w.heap.size + 1 + 1) ((w.alloc (.cells #[.int .i64 1] 2)).alloc (.cells #[.int .i64 1, .int .i64 2, .int .i64 3] 2)) w') := Lib.hid (by
    have h := Of_calls [1] [1, 2, 3] 0 2 ((w.alloc (.cells #[.int .i64 1] 2)).alloc (.cells #[.int .i64 1, .int .i64 2, .int .i64 3] 2)) ((lit_lst w [1] (by simp)).below ((Below.refl _ _).alloc (Nat.le_refl _) _)) (lit_lst (w.alloc (.cells #[.int .i64 1] 2)) [1, 2, 3] (by simp))
    rw [known_of] at h
    simp only [List.length_cons, List.length_nil, World.size_alloc, Nat.zero_add, Nat.reduceAdd] at h
    exact h)
  refine (callsIn_wide (n := 5)).1 ?_
  refine callsIn_of_wp_marks Tryz.func48 rfl trivial ?_ rfl
  simp only [Tryz.ntmps48, List.size_toArray, List.length_cons, List.length_nil, Nat.reduceAdd, Nat.reduceSub, Array.replicate_succ, Array.replicate_zero, List.push_toArray, List.append_toArray, List.nil_append, List.cons_append]
  refine wpIn_wide.2 ?_
  go_wp2_with fail
  refine HOF.out.mono ?_
  rintro e w1 ⟨v1, rfl, hO1, hb1⟩
  have HB := Lib.hid (HB1.out.trans (hb1.mono (by omega)))
  have HDM0 := Lib.hid (show DomV w1 v1 D0 from hO1.dom)
  obtain ⟨r, lo, up, rfl, h1, h2, h3, -⟩ := hO1
  obtain ⟨A1, k1, e1⟩ := h1.lst.form
  obtain ⟨A2, k2, e2⟩ := h2.lst.form
  obtain ⟨A3, k3, e3⟩ := h3.lst.form
  subst e1 e2 e3
  have HDM : Hid (DomV w1 (.agg #[.bool true, .slice A1 0 k1, .slice A2 1 k2, .slice A3 3 k3, .int .i64 1, .int .i64 2]) D0) := HDM0
  clear h1 h2 h3 hb1 HOF HB1 HDM0
  dsimp only [D0, List.length_nil, List.length_cons, Nat.zero_add, Nat.reduceAdd]
  go_wp2_with fail
  obtain ⟨W2, hW2⟩ : ∃ W2, (w1.alloc (.cells #[.bool true, .slice A1 0 k1, .slice A2 1 k2, .slice A3 3 k3, .int .i64 1, .int .i64 2] 52)).alloc (.cells #[.string ⟨#[]⟩] 9) = W2 := ⟨_, rfl⟩
  have hb12 : Below w1.heap.size w1 W2 := by rw [← hW2]; exact ((Below.refl _ _).alloc (Nat.le_refl _) _).alloc (by simp) _
  have hX2 : BoxD W2 w1.heap.size true (.slice A1 0 k1) (.slice A2 1 k2) (.slice A3 3 k3) 1 2 := by rw [← hW2]; exact (BoxD.new w1 _ _ _ _ _ _).below ((Below.refl _ _).alloc (Nat.le_refl _) _)
  have hS2 : Boxed W2 (w1.heap.size + 1) 9 (.string ⟨#[]⟩) := by rw [← hW2]; have h := Boxed.new (w1.alloc (.cells #[.bool true, .slice A1 0 k1, .slice A2 1 k2, .slice A3 3 k3, .int .i64 1, .int .i64 2] 52)) 9 (.string ⟨#[]⟩); rw [World.size_alloc] at h; exact h
  have hsz2 : W2.heap.size = w1.heap.size + 2 := by rw [← hW2]; simp
  rw [hW2]
  clear hW2
  refine (Each_calls D0 W2 (HDM.out.below hb12) (by decide) (by decide) (by decide)).mono ?_
  rintro e w2 ⟨g, Ar, nr, cr, vl, vu, rfl, hg, hbx, hr, hl, hu, hb2⟩
  have HB2 := Lib.hid (below_step HB.out (below_step hb12 hb2))
  have HX := Lib.hid (hX2.below hb2)
  have HS := Lib.hid ((hb2.block _ hS2.lt).trans hS2 : Boxed w2 (w1.heap.size + 1) 9 (.string ⟨#[]⟩))
  have HL := Lib.hid hl; have HU := Lib.hid hu; have HR := Lib.hid hr; have HBX := Lib.hid hbx; have HSZ := Lib.hid hsz2; have HSW := Lib.hid hb2.size
  clear hl hu hr hbx hsz2 hX2 hS2
  have HB12 := Lib.hid (below_step hb12 hb2 : Below w1.heap.size w1 w2)
  clear hb12 hb2
  have hnf := fun (b : Array Value) (W : World) => func_eql_nil (.func 120) #[] b W
  go_wp2_with fail
  have hPb : ∀ b, (fun b : Nat => b = w1.heap.size + 1) b → b < w2.heap.size := fun b hb => by have := HSW.out; have := HSZ.out; omega
  have hStL : StayI (fun b => b = w1.heap.size + 1) w2 vl D0.lo := ⟨HL.out.lst, fun k hk e => by have := HL.out.base k hk; have := HSZ.out; omega⟩
  have hStU : StayI (fun b => b = w1.heap.size + 1) w2 vu D0.up := ⟨HU.out.lst, fun k hk e => by have := HU.out.base k hk; have := HSZ.out; omega⟩
  have hst := sets_each_stops (5 - 1) (by decide) g D0 w2 (fun b => b = w1.heap.size + 1) Ar nr cr vl vu HBX.out HR.out.lst hStL hStU (by decide) (by decide) hPb
  have hNN : (allD D0).length = 3 := by rw [known_all]; rfl
  have HG := Lib.hid hg
  clear hg hPb hStL hStU HBX HR HL HU
  refine (wpIn_wide (n := 5)).1 ?_
  refine range_handing rfl (by decide) (gf := 120) (lb := #[.pointer (some ⟨g, 0, none⟩)]) rfl trivial (enters_of Tryz.func120 (by kernel_rfl) rfl)
    hst (fun h k => KeepX.trans h k) (fun x W l o o' _ hl ho _ => keepX_put W l o o' hl ho)
    (Below.refl _ _) (fun _ => rfl)
    (fun x => ownFrom_keepA _ _ (fun _ A B h hk => RowI.keepA h hk))
    (fun (pre : List (Value × List Int)) W => (Boxed W (w1.heap.size + 1) 9 (.string (catT pre)) ∧ BoxD W w1.heap.size true (.slice A1 0 k1) (.slice A2 1 k2) (.slice A3 3 k3) 1 2) ∧ Below w1.heap.size w1 W)
    (fun _ _ _ => False)
    (OwnFrom.and (OwnFrom.and (Own.from (boxed_own _ _ _) _) (ownFrom_keepA _ _ (fun _ A B h hk => hk.2 _ _ (fun e => e) h rfl))) (ownFrom_below (Nat.le_refl _) (by have := HSW.out; have := HSZ.out; omega)))
    (fun _ _ _ _ _ hs _ _ => hs)
    ⟨⟨HS.out, HX.out⟩, HB12.out⟩
    (fun x => { tmps := #[Value.bool false, Value.pointer (some { block := w1.heap.size, off := 0 }), Value.int IntKind.i64 0, Value.pointer (some { block := w1.heap.size + 1, off := 0 }), Value.func (Fn.func 120) #[] #[Value.pointer (some { block := g, off := 0 })], x.1, undef, undef, Value.tuple #[Value.agg #[Value.bool true, Value.slice A1 0 k1, Value.slice A2 1 k2, Value.slice A3 3 k3, Value.int IntKind.i64 1, Value.int IntKind.i64 2], Value.int IntKind.i64 0], Value.slice (some { block := w.heap.size, off := 0 }) 1 1, Value.slice (some { block := w.heap.size + 1, off := 0 }) 3 3, Value.tuple #[Value.agg #[Value.bool true, Value.slice A1 0 k1, Value.slice A2 1 k2, Value.slice A3 3 k3, Value.int IntKind.i64 1, Value.int IntKind.i64 2], Value.int IntKind.i64 0], Value.agg #[Value.bool true, Value.slice A1 0 k1, Value.slice A2 1 k2, Value.slice A3 3 k3, Value.int IntKind.i64 1, Value.int IntKind.i64 2], Value.int IntKind.i64 0, Value.agg #[Value.bool true, Value.slice A1 0 k1, Value.slice A2 1 k2, Value.slice A3 3 k3, Value.int IntKind.i64 1, Value.int IntKind.i64 2], Value.func (Fn.func 120) #[] #[Value.pointer (some { block := g, off := 0 })], Value.func (Fn.func 120) #[] #[Value.pointer (some { block := g, off := 0 })], Value.bool false, Value.func (Fn.func 120) #[] #[Value.pointer (some { block := g, off := 0 })], x.1, undef, undef, undef, undef, undef, undef, undef, undef, undef, undef, undef, undef, undef, undef, undef, undef, undef, undef, undef, undef, undef, undef, undef, undef, undef, undef, undef, undef, undef, undef, undef, undef, undef, undef, undef, undef, undef, undef, undef], defers := [] })
    ?assign ?body ?done ?stop
  case assign =>
    intro l x W K hK
    gi_wp2
    exact hK
  case body =>
    rintro l pre x W ⟨⟨b1, b2⟩, hB⟩ hq hlt
    rw [hNN] at hlt
    have c1 := b1.cell; have f1 := b1.frozen
    have hpz := catT_size pre
    have htz := setT_size (asL_set x.2)
    have HT := Lib.hid (Text_calls x.2 W.drew (hq.lst.below ((Below.refl _ _).drew)) ((HD.out.below (below_step HB.out hB)).below ((Below.refl _ _).drew)))
    have HCS := Lib.hid (catT_snoc pre x)
    generalize hcb : catT (pre ++ [x]) = cb at *
    generalize setT (asL x.2) = tx at *
    have HCB := Lib.hid hcb
    generalize catT pre = ca at *
    have hc1 : (9223372036854775807 < ca.size + tx.size) = False := eq_false (by omega)
    have HB1 := Lib.hid b1; have HB2' := Lib.hid b2; have HBW := Lib.hid hB
    clear b1 b2 hB hq hpz htz hst hcb
    gi_wp2_with fail
    gi_region_with (refine ⟨trivial, (CallsIn.inRound l (callsIn_wide.2 HT.out)).mono ?_⟩; rintro e W3 ⟨rfl, hb3⟩; have HB3 := Lib.hid ((Below.refl W.heap.size W).drew.trans hb3); have hbx3 : Boxed W3 (w1.heap.size + 1) 9 (.string ca) := (hb3.block _ HB1.out.lt).trans HB1.out; have HBX3 := Lib.hid hbx3; have c3 := hbx3.cell; have f3 := hbx3.frozen; clear hb3 hbx3)
    all_goals
      gi_wp2_with fail
      refine ⟨(keepsOthers_below HB3.out).trans (KeepsOthers.setCell _ _ _), KeepX.trans (keepX_below HB3.out) (keepX_set (Pb := fun b => b = w1.heap.size + 1) _ (w1.heap.size + 1) rfl _), ⟨?_, ?_⟩, ?_⟩
      · rw [HCB.out, HCS.out]
        exact HBX3.out.set _
      · exact (Below.heap_setCell _ _ _ w1.heap.size (by show w1.heap.size ≠ w1.heap.size + 1; omega)).trans (HB2'.out.below HB3.out)
      · exact (below_step HBW.out HB3.out).setCell (p := ⟨w1.heap.size + 1, 0, none⟩) (by show w1.heap.size ≤ w1.heap.size + 1; omega) _
  case done =>
    rintro D xs W hD hxs ⟨⟨b1, b2⟩, hB⟩ hK
    rw [catT_known hxs] at b1
    have HPS : Hid (Calls Tryz.prog 58 #[.string ⟨#[123, 49, 44, 49, 125]⟩] W fun e w' => ∃ v', e = .returned (.tuple #[v', .int .i64 20]) ∧ RowI w' W.heap.size v' (parseP ⟨#[123, 49, 44, 49, 125]⟩).1 ∧ Below W.heap.size W w') := Lib.hid (by
      have h := Parse_calls ⟨#[123, 49, 44, 49, 125]⟩ (by decide) W (HD.out.below (below_step HB.out hB))
      rw [known_parse] at h
      exact h)
    have HB1 := Lib.hid b1; have HB2' := Lib.hid b2; have HBW := Lib.hid hB; have HK := Lib.hid hK
    clear b1 b2 hB hK hxs hst hnf
    gi_wp2_with fail
    go_wp2_with fail
    refine HPS.out.mono ?_
    rintro e W4 ⟨v4, rfl, -, hb4⟩
    have HB4 := Lib.hid (below_step HBW.out hb4)
    have hx4 : BoxD W4 w1.heap.size true (.slice A1 0 k1) (.slice A2 1 k2) (.slice A3 3 k3) 1 2 := HB2'.out.below hb4
    have HS4 : Hid (Boxed W4 (w1.heap.size + 1) 9 (.string ⟨#[123, 49, 125, 123, 49, 44, 50, 125, 123, 49, 44, 51, 125]⟩)) := Lib.hid ((hb4.block _ HB1.out.lt).trans HB1.out)
    have HX4 := Lib.hid hx4
    have HK4 := Lib.hid ((hb4.block D (Array.getElem?_eq_some_iff.1 HK.out).1).trans HK.out)
    have HCN : Hid (Calls Tryz.prog 47 #[.agg #[.bool true, .slice A1 0 k1, .slice A2 1 k2, .slice A3 3 k3, .int .i64 1, .int .i64 2]] W4 fun e w' => e = .returned (.int .i64 3) ∧ Below W4.heap.size W4 w') := Lib.hid (by
      have h := Count_calls D0 W4 (HDM.out.below HB4.out) (by decide) (by decide)
      rw [known_count] at h
      exact h)
    obtain ⟨x_0, x_1, x_2, x_3, x_4, x_5⟩ := hx4.cells
    clear hb4 hx4 HPS HK HB2' HB1
    go_wp2_with fail
    refine HCN.out.mono ?_
    rintro e W5 ⟨rfl, hb5⟩
    have HB5 := Lib.hid (below_step HB4.out hb5)
    have HK5 := Lib.hid ((hb5.block D (Array.getElem?_eq_some_iff.1 HK4.out).1).trans HK4.out)
    have hs5 : Boxed W5 (w1.heap.size + 1) 9 (.string ⟨#[123, 49, 125, 123, 49, 44, 50, 125, 123, 49, 44, 51, 125]⟩) := (hb5.block _ HS4.out.lt).trans HS4.out
    have c5 := hs5.cell
    have HCM : Hid (Calls Tryz.prog 62 #[.slice (some ⟨W5.heap.size, 0, none⟩) 2 2, .slice (some ⟨W5.heap.size + 1, 0, none⟩) 3 3] ((W5.alloc (.cells #[.int .i64 1, .int .i64 3] 2)).alloc (.cells #[.int .i64 1, .int .i64 2, .int .i64 9] 2)) fun e w' => e = .returned (.int .i64 1) ∧ Below W5.heap.size W5 w') := Lib.hid (by
      have h := Cmp_calls [1, 3] [1, 2, 9] ((W5.alloc (.cells #[.int .i64 1, .int .i64 3] 2)).alloc (.cells #[.int .i64 1, .int .i64 2, .int .i64 9] 2)) ((lit_lst W5 [1, 3] (by simp)).below ((Below.refl _ _).alloc (Nat.le_refl _) _)) (lit_lst (W5.alloc (.cells #[.int .i64 1, .int .i64 3] 2)) [1, 2, 9] (by simp))
      rw [known_cmp] at h
      simp only [List.length_cons, List.length_nil, World.size_alloc, Nat.zero_add, Nat.reduceAdd] at h
      exact h.mono (fun e w' q => ⟨q.1, (((Below.refl W5.heap.size W5).alloc (Nat.le_refl _) _).alloc (by simp) _).trans (q.2.mono (by omega))⟩))
    clear hb5 hs5 x_0 x_1 x_2 x_3 x_4 x_5 HCN HX4 HS4
    go_wp2_with fail
    refine HCM.out.mono ?_
    rintro e W6 ⟨rfl, hb6⟩
    have HB6 := Lib.hid (below_step HB.out (below_step HB5.out hb6))
    have HK6 := Lib.hid ((hb6.block D (Array.getElem?_eq_some_iff.1 HK5.out).1).trans HK5.out)
    clear hb6 c5 HCM
    go_wp2_with fail
    refine ⟨by simp, .inl ⟨_, _, rfl, run_takeDeferred HK6.out, ?_⟩⟩
    refine ⟨_, by simp [results, Tryz.results48, go_sem]; rfl, ?_⟩
    exact ⟨rfl, HB6.out.trans (belowK_b (w := w) (Nat.le_refl _) W6 D _ _ (by have := HSW.out; have := HSZ.out; have := HB.out.size; omega) HK6.out rfl rfl)⟩
  case stop =>
    rintro D c pre W _ _ h _
    exact h.elim

end Go.Proofs.YtjeomiooheoegaaGreatDoor.PD

namespace Go.Proofs.YtjeomiooheoegaaGreatDoor.PD
open Go.RowKit Go.Proofs.YtjeomiooheoegaaGreatDoorW.PrintWords Go.Proofs.YtjeomiooheoegaaGreatDoorW.PrintLast Go.Proofs.YtjeomiooheoegaaGreatDoorW.PrintMore
attribute [local go_sem] max2_int min2_int max_two min_two max_three min_three max_four min_four   -- for this text's walks alone
set_option linter.unusedVariables false
set_option linter.unusedSimpArgs false

/-! ### jigsawref01_Same: function 45 -/
def jigsawref01_Same.l0 : Nat → List Int → List Int → Int → Option (Bool)
  | 0, _, _, _ => none
  | k + 1, x0, x1, x5 => if x5 < (x0.length : Int) then (if 0 ≤ x5 then (if x5 < (x1.length : Int) then (if (rd x0 x5) = (rd x1 x5) then (jigsawref01_Same.l0 k x0 x1 (wrap64 (x5 + 1))) else (some false)) else (none)) else (none)) else (some true)
def jigsawref01_Same.f (k : Nat) (l0 : List Int) (l1 : List Int) : Option (Bool) := if (l0.length : Int) = (l1.length : Int) then (jigsawref01_Same.l0 k l0 l1 0) else (some false)
theorem jigsawref01_Same.mono_l : ∀ k, (∀ y0 y1 y2, LeO (jigsawref01_Same.l0 k y0 y1 y2) (jigsawref01_Same.l0 (k + 1) y0 y1 y2))
  | 0 => fun _ _ _ r h => by simp [jigsawref01_Same.l0] at h
  | k + 1 => by
    have ih0 := jigsawref01_Same.mono_l k
    · intro y0 y1 y2
      unfold jigsawref01_Same.l0
      repeat' first
      | (with_reducible exact ih0 _ _ _)
      | (with_reducible exact LeO.refl _)
      | (with_reducible exact LeO.none _)
      | (with_reducible refine LeO.ite ?_ ?_)
      | (with_reducible refine LeO.bind ?_ (fun _ => ?_))
      | exact ih0 _ _ _
      | exact LeO.none _
      | refine LeO.ite ?_ ?_
      | refine LeO.bind ?_ (fun _ => ?_)
theorem jigsawref01_Same.mono : ∀ a0 a1 k, LeO (jigsawref01_Same.f k a0 a1) (jigsawref01_Same.f (k + 1) a0 a1) := by
  intro a0 a1 k
  have ih0 := jigsawref01_Same.mono_l k
  unfold jigsawref01_Same.f
  repeat' first
      | (with_reducible exact ih0 _ _ _)
      | (with_reducible exact LeO.refl _)
      | (with_reducible exact LeO.none _)
      | (with_reducible refine LeO.ite ?_ ?_)
      | (with_reducible refine LeO.bind ?_ (fun _ => ?_))
      | exact ih0 _ _ _
      | exact LeO.none _
      | refine LeO.ite ?_ ?_
      | refine LeO.bind ?_ (fun _ => ?_)
set_option maxHeartbeats 8000000 in
set_option maxRecDepth 100000 in
theorem jigsawref01_Same.calls (k : Nat) (A0 : Option Addr) (c0 : Nat) (l0 : List Int) (A1 : Option Addr) (c1 : Nat) (l1 : List Int) (r : Bool) (w : World) (hr0 : Kd.C (Kd.int .i64) w A0 l0.length l0) (hc0 : l0.length ≤ c0) (hr1 : Kd.C (Kd.int .i64) w A1 l1.length l1) (hc1 : l1.length ≤ c1) (h : jigsawref01_Same.f k l0 l1 = some r) :
    Calls Tryz.prog 45 #[.slice A0 l0.length c0, .slice A1 l1.length c1] w fun e w' => e = .returned (.bool r) ∧ Drawn0 w w' := by
  have HR0 := Aside0.mk hr0
  have HC0 := Aside0.mk hc0
  clear hr0 hc0
  have HR1 := Aside0.mk hr1
  have HC1 := Aside0.mk hc1
  clear hr1 hc1
  have H : (if (l0.length : Int) = (l1.length : Int) then (jigsawref01_Same.l0 k l0 l1 0) else (some false)) = some r := h
  clear h
  by_cases c3 : (l0.length : Int) = (l1.length : Int)
  · rw [if_pos c3] at H
    have c3b0 : ((l0.length : Int) == (l1.length : Int)) = true := beq_iff_eq.mpr c3
    have c3b1 : ((l0.length : Int) != (l1.length : Int)) = false := bne_eq_false_iff_eq.mpr c3
    have c3b2 : (l0.length == l1.length) = true := by first | simpa using c3 | (simp at c3 ⊢; omega)
    clear c3
    have H' := Aside0.mk H
    clear H
    go_enter Tryz.func45, Tryz.ntmps45
    go_wp2
    repeat (go_quiet (fail); try go_wp2)
    go_loopg [5] k (fun kq v5 w' => ∃ (x5_1 : Int), v5 = .int .i64 x5_1 ∧ Aside0 (jigsawref01_Same.l0 kq l0 l1 x5_1 = some r) ∧ Aside0 (kq ≤ k) ∧ Drawn0 w w')
    case atStart => exact ⟨(0), (by first | rfl | (simp; done) | (simp [*]; done)), H', ⟨Nat.le_refl _⟩, by repeat (first | exact Drawn0.refl _ | apply Drawn0.step)⟩
    case round =>
      clear H'
      try clear c1
      try clear p2
      try clear c3
      try clear c3b0
      try clear c3b1
      try clear c3b2
      obtain ⟨x5_1, rfl, HA, HK1, ⟨m1, rfl⟩⟩ := hrel
      cases gk with
      | zero => exact absurd HA.out (by simp [jigsawref01_Same.l0])
      | succ k1 =>
        have H := HA.out
        clear HA
        simp only [jigsawref01_Same.l0] at H
        by_cases c4 : x5_1 < (l0.length : Int)
        · rw [if_pos c4] at H
          have c4b0 : decide (x5_1 < (l0.length : Int)) = true := decide_eq_true c4
          clear c4
          by_cases c5 : 0 ≤ x5_1
          · rw [if_pos c5] at H
            have c5b0 : decide (0 ≤ x5_1) = true := decide_eq_true c5
            clear c5
            by_cases c6 : x5_1 < (l1.length : Int)
            · rw [if_pos c6] at H
              have c6b0 : decide (x5_1 < (l1.length : Int)) = true := decide_eq_true c6
              clear c6
              by_cases c7 : (rd l0 x5_1) = (rd l1 x5_1)
              · rw [if_pos c7] at H
                have c7b0 : ((rd l0 x5_1) == (rd l1 x5_1)) = true := beq_iff_eq.mpr c7
                have c7b1 : ((rd l0 x5_1) != (rd l1 x5_1)) = false := bne_eq_false_iff_eq.mpr c7
                clear c7
                have H' := Aside0.mk H
                clear H
                have p101 : 0 ≤ (x5_1 : Int) := of_decide_eq_true (by first | (with_reducible assumption) | assumption)
                have q101 : x5_1 < (l0.length : Int) := of_decide_eq_true (by first | (with_reducible assumption) | assumption)
                obtain ⟨ad101, e101, hx101_0⟩ := Kd.at_int HR0.out x5_1 p101 q101
                cases e101
                replace p101 := eq_true p101
                replace q101 := eq_true q101
                have p102 : 0 ≤ (x5_1 : Int) := of_decide_eq_true (by first | (with_reducible assumption) | assumption)
                have q102 : x5_1 < (l1.length : Int) := of_decide_eq_true (by first | (with_reducible assumption) | assumption)
                obtain ⟨ad102, e102, hx102_0⟩ := Kd.at_int HR1.out x5_1 p102 q102
                cases e102
                replace p102 := eq_true p102
                replace q102 := eq_true q102
                go_wp2
                repeat (go_quiet (fail); try go_wp2)
                go_roundg k1
                case measure => have := HK1.out; omega
                case rel => exact ⟨(wrap64 (x5_1 + 1)), (by first | rfl | (simp; done) | (simp [*]; done)), H', ⟨by have := HK1.out; omega⟩, by repeat (first | exact Drawn0.refl _ | apply Drawn0.step)⟩
              · rw [if_neg c7] at H
                have c7b0 : ((rd l0 x5_1) == (rd l1 x5_1)) = false := beq_eq_false_iff_ne.mpr c7
                have c7b1 : ((rd l0 x5_1) != (rd l1 x5_1)) = true := bne_iff_ne.mpr c7
                obtain rfl := Option.some.inj H
                have p101 : 0 ≤ (x5_1 : Int) := of_decide_eq_true (by first | (with_reducible assumption) | assumption)
                have q101 : x5_1 < (l0.length : Int) := of_decide_eq_true (by first | (with_reducible assumption) | assumption)
                obtain ⟨ad101, e101, hx101_0⟩ := Kd.at_int HR0.out x5_1 p101 q101
                cases e101
                replace p101 := eq_true p101
                replace q101 := eq_true q101
                have p102 : 0 ≤ (x5_1 : Int) := of_decide_eq_true (by first | (with_reducible assumption) | assumption)
                have q102 : x5_1 < (l1.length : Int) := of_decide_eq_true (by first | (with_reducible assumption) | assumption)
                obtain ⟨ad102, e102, hx102_0⟩ := Kd.at_int HR1.out x5_1 p102 q102
                cases e102
                replace p102 := eq_true p102
                replace q102 := eq_true q102
                go_wp2
                repeat (go_quiet (fail); try go_wp2)
                go_ret
                exact ⟨by first | rfl | (simp; done) | (simp [*]; done), by repeat (first | exact Drawn0.refl _ | apply Drawn0.step)⟩
            · rw [if_neg c6] at H
              exact absurd H (by simp)
          · rw [if_neg c5] at H
            exact absurd H (by simp)
        · rw [if_neg c4] at H
          have c4b0 : decide (x5_1 < (l0.length : Int)) = false := decide_eq_false c4
          clear c4
          obtain rfl := Option.some.inj H
          go_wp2
          repeat (go_quiet (fail); try go_wp2)
          go_ret
          exact ⟨by first | rfl | (simp; done) | (simp [*]; done), by repeat (first | exact Drawn0.refl _ | apply Drawn0.step)⟩
  · rw [if_neg c3] at H
    have c3b0 : ((l0.length : Int) == (l1.length : Int)) = false := beq_eq_false_iff_ne.mpr c3
    have c3b1 : ((l0.length : Int) != (l1.length : Int)) = true := bne_iff_ne.mpr c3
    have c3b2 : (l0.length == l1.length) = false := by first | simpa using c3 | (simp at c3 ⊢; omega)
    obtain rfl := Option.some.inj H
    go_enter Tryz.func45, Tryz.ntmps45
    go_wp2
    repeat (go_quiet (fail); try go_wp2)
    go_ret
    exact ⟨by first | rfl | (simp; done) | (simp [*]; done), by repeat (first | exact Drawn0.refl _ | apply Drawn0.step)⟩
end Go.Proofs.YtjeomiooheoegaaGreatDoor.PD
