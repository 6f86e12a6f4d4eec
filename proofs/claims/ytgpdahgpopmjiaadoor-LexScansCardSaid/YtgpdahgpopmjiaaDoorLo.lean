/- Parts of the laws of lex: functions of the program, each with the proof of what it answers; the conditions are those of each theorem. -/
import Derived.Test.YtgpdahgpopmjiaaDoorLn
import Derived.Laws.IdiomStrings
import Derived.Deep.RegionHeld3
namespace Go.Proofs.YtgpdahgpopmjiaaDoor.PL
open Go.RowKit Go.Proofs.YtgpdahgpopmjiaaDoorW.PrintWords Go.Proofs.YtgpdahgpopmjiaaDoorW.PrintLast Go.Proofs.YtgpdahgpopmjiaaDoorW.PrintMore
set_option linter.unusedVariables false
set_option linter.unusedSimpArgs false
theorem cell_one_new (w : World) (x : Value) (t : TypeId) : ∀ j u, [x][j]? = some u → (w.alloc (.cells #[x] t)).cell? ((⟨w.heap.size, 0, none⟩ : Addr).add j) = some u := by
  intro j u hj
  rw [add_zero_off]
  refine (blk_cell (World.alloc_heap_new w (.cells #[x] t)) j).trans ?_
  rw [← hj]
  simp
theorem joinText_pos {T : List Tok} (h : 0 < T.length) : 0 < (joinText T).length := by
  cases T with
  | nil => cases h
  | cons t T => simp [joinText]; omega
theorem key_at {T T2 : List Tok} (h : T2.map key = T.map key) (j : Nat) (h2 : j < T2.length) (h1 : j < T.length) : T2[j].kind = T[j].kind ∧ T2[j].n = T[j].n ∧ tokText T2[j] = tokText T[j] := by
  have q : (T2.map key)[j]'(by rw [List.length_map]; exact h2) = (T.map key)[j]'(by rw [List.length_map]; exact h1) := by simp only [h]
  rw [List.getElem_map, List.getElem_map] at q
  unfold key at q
  injection q with q1 q
  injection q with q2 q3
  exact ⟨q1, q2, q3⟩
/-- the world in the second loop: both lists stand -/
def JoinS (w : World) (A A2 : Option Addr) (m : Nat) (T T2 : List Tok) (v : World) : Prop :=
  Below w.heap.size w v ∧ Kd.C k28 v A m (T.map tokS) ∧ Kd.C k28 v A2 m (T2.map tokS)
/-- two tokens of one key, each in its list -/
structure JoinF (T T2 : List Tok) (j : Nat) (kd n : Int) (b1 b2 : ByteArray) (p1 p2 : Nat) : Prop where
  h1 : j < T.length
  h2 : j < T2.length
  k1 : T[j].kind = kd
  k2 : T2[j].kind = kd
  n1 : T[j].n = n
  n2 : T2[j].n = n
  x1 : txt T[j] = b1
  x2 : txt T2[j] = b2
  q1 : T[j].pos = p1
  q2 : T2[j].pos = p2
theorem JoinS.step {w v v' : World} {A A2 : Option Addr} {m : Nat} {T T2 : List Tok} (h : JoinS w A A2 m T T2 v) (hb : Below v.heap.size v v') : JoinS w A A2 m T T2 v' :=
  ⟨below_step h.1 hb, Kd.C_below h.2.1 hb, Kd.C_below h.2.2 hb⟩
def JoinA (w : World) (a1 a2 : Addr) (m j : Nat) (T T2 : List Tok) (kd n : Int) (b1 b2 : ByteArray) (p1 p2 : Nat) (v : World) : Prop :=
  v.cell? (a1.add (j * 4)) = some (.int .i64 kd) ∧ v.cell? ⟨(a1.add (j * 4)).block, (a1.add (j * 4)).off + 1, none⟩ = some (.string b1) ∧ v.cell? ⟨(a1.add (j * 4)).block, (a1.add (j * 4)).off + 2, none⟩ = some (.int .i64 n) ∧ v.cell? ⟨(a1.add (j * 4)).block, (a1.add (j * 4)).off + 3, none⟩ = some (.int .i64 (p1 : Nat)) ∧ v.cell? (a2.add (j * 4)) = some (.int .i64 kd) ∧ v.cell? ⟨(a2.add (j * 4)).block, (a2.add (j * 4)).off + 1, none⟩ = some (.string b2) ∧ v.cell? ⟨(a2.add (j * 4)).block, (a2.add (j * 4)).off + 2, none⟩ = some (.int .i64 n) ∧ v.cell? ⟨(a2.add (j * 4)).block, (a2.add (j * 4)).off + 3, none⟩ = some (.int .i64 (p2 : Nat)) ∧ JoinS w (some a1) (some a2) m T T2 v
theorem JoinS.all {w v : World} {a1 a2 : Addr} {m j : Nat} {T T2 : List Tok} {kd n : Int} {b1 b2 : ByteArray} {p1 p2 : Nat} (h : JoinS w (some a1) (some a2) m T T2 v) (f : JoinF T T2 j kd n b1 b2 p1 p2) : JoinA w a1 a2 m j T T2 kd n b1 b2 p1 p2 v := by
  obtain ⟨b1, hA, x0, x1, x2, x3⟩ := tok_at h.2.1 j f.h1
  obtain ⟨b2, hA2, y0, y1, y2, y3⟩ := tok_at h.2.2 j f.h2
  injection hA with hA
  injection hA2 with hA2
  subst hA
  subst hA2
  rw [f.k1] at x0
  rw [f.x1] at x1
  rw [f.n1] at x2
  rw [f.q1] at x3
  rw [f.k2] at y0
  rw [f.x2] at y1
  rw [f.n2] at y2
  rw [f.q2] at y3
  exact ⟨x0, x1, x2, x3, y0, y1, y2, y3, h⟩
theorem text_joined (t : Tok) (hn : -1000000000 ≤ t.n ∧ t.n ≤ 1000000000) (X : ByteArray) (hX : (⟨(tokText t).toArray⟩ : ByteArray) = X) (W : World) (hl : LxLaid W) : Calls Tryd.prog 11 #[.agg #[.int .i64 t.kind, .string (txt t), .int .i64 t.n, .int .i64 (t.pos : Nat)]] W fun e w' => e = .returned (.string X) ∧ Below W.heap.size W w' := by
  have h := text_calls (tokS t) (by show _ ≤ t.n ∧ t.n ≤ _; omega) W hl
  rw [textB_tok, hX] at h
  exact h
set_option maxRecDepth 100000 in
set_option maxHeartbeats 32000000 in
theorem joins_calls (s : ByteArray) (hs : s.size ≤ 140737488351232) (w : World) (hl : LxLaid w) : Calls Tryd.prog 4 #[.string s] w fun e w' => e = .returned (.bool true) ∧ Below w.heap.size w w' := by
  have HSC := Lib.hid (scan_calls s hs w hl)
  have HL := Lib.hid hl
  clear hl
  obtain ⟨i0, hi, hz0, hz1, hz2⟩ := info_parts info5
  refine calls_of_wp Tryd.func4 rfl ?_
  simp only [Tryd.ntmps4, List.size_toArray, List.length_cons, List.length_nil, Nat.reduceAdd, Nat.reduceSub, Array.replicate_succ, Array.replicate_zero, List.push_toArray, List.append_toArray, List.nil_append, List.cons_append]
  go_wp2_with fail
  refine HSC.out.mono ?_
  rintro e w1 ⟨A, m, c, hcap, rfl, hC, hb1⟩
  have HB1 := Lib.hid hb1
  clear hb1
  generalize hr : allL (ll s) = r at *
  unfold scanL at hC ⊢
  rw [hr] at hC ⊢
  obtain ⟨T, why, i⟩ := r
  by_cases h0 : why = 0
  · subst h0
    have htk := allL_toks hr
    have HP1 := Lib.hid (allL_places hr).2.1
    have HTK := Lib.hid htk
    have HJ := Lib.hid (fun h => allL_joins hr h)
    have hm0 : T.length = m := by have := hC.1; rw [if_pos rfl, List.length_map] at this; omega
    have hlen := allL_len (ll s)
    rw [hr] at hlen
    rw [if_pos rfl] at hC
    have HC := Lib.hid hC; have HM := Lib.hid hm0
    have hm2 : m ≤ 65538 := by rw [← HM.out]; exact hlen
    clear hC hm0 HSC hr htk hlen
    go_wp2_with fail
    go_loopw [6, 7] (fun u v wr => ∃ k : Nat, v = .int .i64 k ∧ k ≤ m ∧ Hid (wr.ownsRow w1.heap.size 5 1 u (joinText (T.take k)).length (bytesV (joinText (T.take k)))) ∧ Hid (Below w1.heap.size w1 wr))
      (fun _ v _ => m - (intOf v).toNat)
    case atStart => exact ⟨0, rfl, Nat.zero_le _, Lib.hid (World.ownsRow_nil _ _ _ _), Lib.hid (Below.refl _ _)⟩
    case round =>
      obtain ⟨k, rfl, hk, HR, HB⟩ := hrel
      obtain ⟨A0, c0, rfl⟩ := row_form HR.out
      by_cases hkm : k < m
      · have hkT : k < T.length := by rw [HM.out]; exact hkm
        obtain ⟨ad, hA, x0, x1, x2, x3⟩ := tok_at (Kd.C_below HC.out HB.out) k hkT
        subst hA
        obtain ⟨hn, _, hx⟩ := HTK.out _ (List.getElem_mem hkT)
        have HTX := Lib.hid (text_calls (tokS T[k]) (by show _ ≤ T[k].n ∧ T[k].n ≤ _; omega) wr (HL.out.below (below_step HB1.out HB.out)))
        have hjl := joinText_len (fun t ht => (HTK.out t ht).2.2) k (by omega)
        have HJS := Lib.hid (joinText_to hkT)
        generalize joinText (T.take k) = J8 at *
        go_wp2_with fail
        refine HTX.out.mono ?_
        rintro e w2 ⟨rfl, hb2⟩
        rw [textB_tok]
        have HR2 := Lib.hid (pw_own_below HR.out hb2); have HB2 := Lib.hid (HB.out.trans (hb2.mono HB.out.size))
        have hsz2 : w1.heap.size ≤ w2.heap.size := HB2.out.size
        have hBs : (⟨(tokText T[k]).toArray⟩ : ByteArray).size = (tokText T[k]).length := rfl
        clear hb2 x0 x1 x2 x3
        go_wp2_with (first
          | ((with_reducible refine gate_dst (N := 38) rfl ?_); refine Lib.wpList_append_own_string _ rfl _ _ 32 9 rfl w1.heap.size 5 i0 Tryd.underlying32 Tryd.underlying9 hi hz0 hz1 hz2 _ _ _ rfl HR2.out _ rfl (by rw [hBs]; simp only [maxLen]; omega) (by rw [hBs]; omega) hsz2 ?_; intro v' w3 hown3 hg3 _; obtain ⟨A', c', rfl⟩ := row_form hown3; have HR3 := Lib.hid hown3; have HG3 := Lib.hid hg3; have hsz3 := hg3.size; clear hown3 hg3)
          | ((with_reducible refine gate_dst (N := 41) rfl ?_); refine wpList_append_own _ rfl _ _ 32 rfl w1.heap.size 5 i0 _ 1 1 Tryd.underlying32 hi hz0 hz1 hz2 rfl (by decide) _ _ _ rfl (HR3.out.alloc _) ⟨w3.heap.size, 0, none⟩ 1 1 [.int .u8 32] rfl rfl (cell_one_new _ _ _) (by simp [Value.oneCell']) (by rw [hBs]; simp only [maxLen]; omega) (by rw [hBs]; omega) (by simp; omega) ?_; intro v4 w4 hown4 hg4 _; obtain ⟨A4, c4, rfl⟩ := row_form hown4; have HR4 := Lib.hid hown4; have HG4 := Lib.hid hg4; clear hown4 hg4))
        have hBW : Below w1.heap.size w1 w4 := ((HB2.out.grown HG3.out hsz2 (fun j e => own_base HR2.out j e)).alloc (by omega) _).grown HG4.out (by simp; omega) (fun j e => own_base HR3.out j e)
        refine ⟨⟨k + 1, by rw [Int.natCast_add]; rfl, by omega, ?_, Lib.hid hBW⟩, by simp [intOf]; omega⟩
        rw [HJS.out, List.length_append, List.length_append]
        have h4 := HR4.out
        rw [strCells_bytesV] at h4
        have e4 : bytesV (J8 ++ tokText T[k] ++ [32]) = bytesV J8 ++ bytesV (tokText T[k]) ++ [.int .u8 32] := by simp [bytesV]
        rw [e4]
        exact Lib.hid h4
      · obtain rfl : k = m := by omega
        have hT : T.take k = T := List.take_of_length_le (by rw [HM.out]; exact Nat.le_refl _)
        rw [hT] at HR
        have hjl := joinText_len (fun t ht => (HTK.out t ht).2.2) k (by rw [HM.out]; exact Nat.le_refl _)
        rw [hT] at hjl
        have HBW := Lib.hid (below_step HB1.out HB.out)
        have HKN := Lib.hid (known_calls wr (HL.out.below HBW.out))
        generalize hJ : joinText T = J at *
        by_cases hbig : 65536 < J.length
        · have hb : decide ((J.length : Int) > 65536) = true := decide_eq_true (by omega)
          go_wp2_with fail
          refine HKN.out.mono ?_
          rintro e w2 ⟨rfl, hb2⟩
          have HB2 := Lib.hid (below_step HBW.out hb2)
          go_wp2_with fail
          go_ret
          exact ⟨rfl, HB2.out⟩
        · have hb : decide ((J.length : Int) > 65536) = false := decide_eq_false (by omega)
          have hJ0 : 0 < J.length := by
            rw [← hJ]
            have := HP1.out
            exact joinText_pos this
          obtain ⟨g0, c9, cur, e9, _⟩ := HR.out.2.resolve_left (fun h => by omega)
          injection e9 with e9 _ e10
          subst e9
          subst e10
          have hcv := run_convert_bytes_back (P := Tryd.prog) wr 32 9 5 ⟨g0, 0, none⟩ c0 J Tryd.underlying32 Tryd.underlying5 Tryd.underlying9 (fun j hj => by
            rw [add_zero_off]
            rw [HR.out.cellAt j (by omega)]
            simp [bytesV, hj])
          have hsc2 := scan_calls ⟨J.toArray⟩ (by show J.length ≤ _; omega) wr (HL.out.below HBW.out)
          have HSC2 := Lib.hid hsc2
          clear hsc2
          go_wp2_with fail
          refine HSC2.out.mono ?_
          rintro e w2 ⟨A2, m2, c2, hcap2, rfl, hC2, hb2⟩
          obtain ⟨T2, ha2, hk2⟩ := HJ.out (by omega)
          have hll : ll ⟨J.toArray⟩ = J := rfl
          unfold scanL at hC2 ⊢
          rw [hll, ha2] at hC2 ⊢
          rw [if_pos rfl] at hC2
          have hlT : T2.length = k := by have := congrArg List.length hk2; rw [List.length_map, List.length_map, HM.out] at this; exact this
          have hm2 : m2 = k := by have := hC2.1; rw [List.length_map] at this; rw [← hlT]; exact this.symm
          subst hm2
          have HC2 := Lib.hid hC2; have HB2 := Lib.hid hb2; have HK2 := Lib.hid hk2
          have hB2W := Lib.hid (below_step HBW.out HB2.out)
          have hCW := Lib.hid (Kd.C_below (Kd.C_below HC.out HB.out) HB2.out)
          clear hC2 hb2 ha2 hk2
          go_wp2_with fail
          go_loopw [11] (fun v wx => ∃ j : Nat, v = .int .i64 j ∧ j ≤ m2 ∧ Hid (JoinS w A A2 m2 T T2 wx))
            (fun v _ => m2 - (intOf v).toNat)
          case atStart => exact ⟨0, rfl, Nat.zero_le _, Lib.hid ⟨hB2W.out, hCW.out, HC2.out⟩⟩
          case round =>
            obtain ⟨j, rfl, hj, HS⟩ := hrel
            by_cases hjm : j < m2
            · have hjT : j < T.length := by rw [HM.out]; exact hjm
              have hjT2 : j < T2.length := by omega
              obtain ⟨a1, hA, x0, x1, x2, x3⟩ := tok_at HS.out.2.1 j hjT
              subst hA
              obtain ⟨a2, hA2, y0, y1, y2, y3⟩ := tok_at HS.out.2.2 j hjT2
              subst hA2
              obtain ⟨g1, g2, g3⟩ := key_at HK2.out j hjT2 hjT
              obtain ⟨X, hX⟩ : ∃ X : ByteArray, (⟨(tokText T[j]).toArray⟩ : ByteArray) = X := ⟨_, rfl⟩
              have hF : JoinF T T2 j T[j].kind T[j].n (txt T[j]) (txt T2[j]) T[j].pos T2[j].pos := ⟨hjT, hjT2, rfl, g1, rfl, g2, rfl, rfl, rfl, rfl⟩
              have hT1 := text_joined T[j] ((HTK.out _ (List.getElem_mem hjT)).1) X hX
              have hT2 := text_joined T2[j] (by rw [g2]; exact (HTK.out _ (List.getElem_mem hjT)).1) X (by rw [g3, hX])
              rw [g1, g2] at hT2
              generalize T[j].kind = kd at *
              generalize T[j].n = tn at *
              generalize T[j].pos = p1 at *
              generalize T2[j].pos = p2 at *
              generalize txt T[j] = b1 at *
              generalize txt T2[j] = b2 at *
              have hS : JoinS w (some a1) (some a2) m2 T T2 wr.drew := HS.out.step ((Below.refl _ _).drew)
              have HF := Lib.hid hF
              have HTT := Lib.hid (fun (x : ByteArray) (p : Nat) (W : World) (h : (x = b1 ∧ p = p1) ∨ (x = b2 ∧ p = p2)) (hb : JoinS w (some a1) (some a2) m2 T T2 W) => (show Calls Tryd.prog 11 #[.agg #[.int .i64 kd, .string x, .int .i64 tn, .int .i64 (p : Nat)]] W fun e w' => e = .returned (.string X) ∧ Below W.heap.size W w' from by rcases h with ⟨rfl, rfl⟩ | ⟨rfl, rfl⟩; exact hT1 W (HL.out.below hb.1); exact hT2 W (HL.out.below hb.1)))
              clear hX hT1 hT2
              have hi1 := fun W => index_at a1 m2 c (j : Nat) (by omega) W
              have hi2 := fun W => index_at a2 m2 c2 (j : Nat) (by omega) W
              simp only [Int.toNat_natCast] at hi1 hi2
              have hjz : (0 : Int) ≤ (j : Int) := by omega
              have hjm' : (j : Int) < (m2 : Int) := by omega
              clear hF x0 x1 x2 x3 y0 y1 y2 y3 g1 g2 g3
              go_wp2_with fail
              go_region_held3 (fun v => v.cell? (a1.add (j * 4)) = some (.int .i64 kd) ∧ v.cell? ⟨(a1.add (j * 4)).block, (a1.add (j * 4)).off + 1, none⟩ = some (.string b1) ∧ v.cell? ⟨(a1.add (j * 4)).block, (a1.add (j * 4)).off + 2, none⟩ = some (.int .i64 tn) ∧ v.cell? ⟨(a1.add (j * 4)).block, (a1.add (j * 4)).off + 3, none⟩ = some (.int .i64 (p1 : Nat)) ∧ v.cell? (a2.add (j * 4)) = some (.int .i64 kd) ∧ v.cell? ⟨(a2.add (j * 4)).block, (a2.add (j * 4)).off + 1, none⟩ = some (.string b2) ∧ v.cell? ⟨(a2.add (j * 4)).block, (a2.add (j * 4)).off + 2, none⟩ = some (.int .i64 tn) ∧ v.cell? ⟨(a2.add (j * 4)).block, (a2.add (j * 4)).off + 3, none⟩ = some (.int .i64 (p2 : Nat)) ∧ JoinS w (some a1) (some a2) m2 T T2 v)
                (first | exact hS.all HF.out)
                (first | (go_at_call 11; refine (HTT.out _ _ _ ?_ hS).mono ?_; (first | (with_reducible exact Or.inl ⟨rfl, rfl⟩) | (with_reducible exact Or.inr ⟨rfl, rfl⟩)); rintro e w1 ⟨rfl, hb⟩; have hS := hS.step hb))
              have HSS := Lib.hid hS
              clear hS hb
              go_wp2_with fail
              refine ⟨⟨j + 1, by rw [Int.natCast_add]; rfl, by omega, HSS⟩, by simp [intOf]; omega⟩
            · obtain rfl : j = m2 := by omega
              have HKN2 := Lib.hid (known_calls wr (HL.out.below HS.out.1))
              go_wp2_with fail
              refine HKN2.out.mono ?_
              rintro e w5 ⟨rfl, hb5⟩
              have HB5 := Lib.hid (below_step HS.out.1 hb5)
              go_wp2_with fail
              go_ret
              exact ⟨rfl, HB5.out⟩
  · have HKN := Lib.hid (known_calls w1 (HL.out.below HB1.out))
    have hne : (why != 0) = true := by rw [bne_iff_ne]; exact h0
    have hm : m = 0 := by have := hC.1; rw [if_neg h0] at this; exact this.symm
    subst hm
    go_wp2_with fail
    refine HKN.out.mono ?_
    rintro e w2 ⟨rfl, hb2⟩
    have HB2 := Lib.hid (below_step HB1.out hb2)
    go_wp2_with fail
    go_ret
    exact ⟨rfl, HB2.out⟩

end Go.Proofs.YtgpdahgpopmjiaaDoor.PL
