/- Parts of the laws of lex: functions of the program, each with the proof of what it answers; the conditions are those of each theorem. -/
import Derived.Test.YtgpdahgpopmjiaaDoorLh
namespace Go.Proofs.YtgpdahgpopmjiaaDoor.PL
open Go.RowKit Go.Proofs.YtgpdahgpopmjiaaDoorW.PrintWords Go.Proofs.YtgpdahgpopmjiaaDoorW.PrintLast Go.Proofs.YtgpdahgpopmjiaaDoorW.PrintMore
set_option linter.unusedVariables false
set_option linter.unusedSimpArgs false
/-! ### all -/
def tokS (t : Tok) : S28 := ⟨t.kind, ⟨t.text.toArray⟩, t.n, (t.pos : Int)⟩
theorem cut_is (s : ByteArray) (i len : Nat) : s.extract i (i + len) = ⟨(((ll s).drop i).take len).toArray⟩ := by
  have h := ll_cut s i (i + len)
  rw [Nat.add_sub_cancel_left] at h
  rw [← h]
theorem tokV_tokS (k : Int) (s : ByteArray) (i len : Nat) (v : Int) : tokV k (s.extract i (i + len)) v i = tok28 (tokS ⟨k, ((ll s).drop i).take len, v, i⟩) := by
  rw [cut_is]
  rfl
/-- up to place k the tokens T were told -/
def AllInv (s : ByteArray) (k : Nat) (T : List Tok) : Prop :=
  k ≤ s.size ∧ T.length ≤ k ∧ ∃ f, s.size - k < f ∧ allL (ll s) = (T ++ (allF f s.size ((ll s).drop k)).1, (allF f s.size ((ll s).drop k)).2)
theorem AllInv.start (s : ByteArray) (h : s.size ≤ 65536) : AllInv s (nx s 0) [] := by
  have h1 := nx_le s 0 (Nat.zero_le _)
  refine ⟨h1.2, Nat.zero_le _, s.size + 1, by omega, ?_⟩
  have h2 := (nextAt_drop (ll s) 0 (Nat.zero_le _)).1
  rw [List.drop_zero] at h2
  unfold allL
  rw [ll_len, if_neg (by omega), h2, List.nil_append]
theorem AllInv.last {s : ByteArray} {k : Nat} {T : List Tok} (h : AllInv s k T) (hk : k = s.size) : allL (ll s) = (T ++ [endT s.size], 0, 0) := by
  obtain ⟨_, _, f, hf, e⟩ := h
  subst hk
  rw [List.drop_of_length_le (by rw [ll_len]; exact Nat.le_refl _)] at e
  cases f with
  | zero => omega
  | succ f => rw [e, allF_succ]
theorem AllInv.bad {s : ByteArray} {k : Nat} {T : List Tok} {why : Int} (h : AllInv s k T) (hk : k < s.size) (ho : oneL ((ll s).drop k) = .bad why) : allL (ll s) = (T, why, k) := by
  obtain ⟨_, _, f, hf, e⟩ := h
  rw [ll_drop s k hk] at e ho
  cases f with
  | zero => omega
  | succ f =>
    rw [e, allF_succ]
    simp only [ho, List.append_nil]
    rw [← ll_drop s k hk, List.length_drop, ll_len]
    congr 2
    omega
theorem AllInv.step {s : ByteArray} {k : Nat} {T : List Tok} {kind v : Int} {len : Nat} (h : AllInv s k T) (hk : k < s.size) (ho : oneL ((ll s).drop k) = .ok kind len v) :
    AllInv s (nx s (k + len)) (T ++ [⟨kind, ((ll s).drop k).take len, v, k⟩]) ∧ k + len ≤ s.size ∧ k < nx s (k + len) := by
  obtain ⟨_, hT, f, hf, e⟩ := h
  have hl := oneL_len ho
  rw [List.length_drop, ll_len] at hl
  have hn := nx_le s (k + len) (by omega)
  have hd := (nextAt_drop (ll s) (k + len) (by rw [ll_len]; omega)).1
  refine ⟨⟨hn.2, by rw [List.length_append]; simp only [List.length_cons, List.length_nil]; omega, ?_⟩, by omega, by omega⟩
  cases f with
  | zero => omega
  | succ f =>
    refine ⟨f, by omega, ?_⟩
    have hdd : skipL (((ll s).drop k).drop len) = (ll s).drop (nx s (k + len)) := by rw [List.drop_drop]; exact hd
    have hlen : s.size - ((ll s).drop k).length = k := by rw [List.length_drop, ll_len]; omega
    rw [e, allF_succ]
    generalize hL : (ll s).drop k = L at *
    cases L with
    | nil => simp [oneL] at ho
    | cons c t =>
      simp only [ho, hdd, hlen, List.append_assoc, List.singleton_append]
/-- the world within 'all' -/
structure AllW (W : World) (n0 B : Nat) (v : Value) (T : List Tok) (wr : World) : Prop where
  box : Boxed wr B 22 v
  row : wr.ownsRow W.heap.size 28 4 v (T.map tokS).length (flat28 (T.map tokS))
  keep : ∀ b, b < W.heap.size → b ≠ B → wr.heap[b]? = W.heap[b]?
  below : Below n0 W wr
  size : W.heap.size ≤ wr.heap.size
theorem AllW.to {W wr w1 : World} {n0 B : Nat} {v : Value} {T : List Tok} (h : AllW W n0 B v T wr) (hn : n0 ≤ W.heap.size) (hb : Below wr.heap.size wr w1) : AllW W n0 B v T w1 :=
  ⟨boxed_below h.box hb, pw_own_below h.row hb, fun b h1 h2 => (hb.block b (Nat.lt_of_lt_of_le h1 h.size)).trans (h.keep b h1 h2), h.below.trans (hb.mono (Nat.le_trans hn h.size)), Nat.le_trans h.size hb.size⟩
theorem AllW.put {W wr w1 : World} {n0 B : Nat} {v : Value} {T : List Tok} {t : Tok} (h : AllW W n0 B v T wr) (ho : OutT w1 B W.heap.size (T.map tokS ++ [tokS t])) (hk : ∀ b, b < wr.heap.size → b ≠ B → v.ownBlock ≠ some b → w1.heap[b]? = wr.heap[b]?) (hb : Below n0 wr w1) : ∃ v', AllW W n0 B v' (T ++ [t]) w1 := by
  obtain ⟨v', h1, h2⟩ := ho
  refine ⟨v', h1, by rw [List.map_append]; exact h2, fun b h3 h4 => (hk b (Nat.lt_of_lt_of_le h3 h.size) h4 (fun e => ?_)).trans (h.keep b h3 h4), h.below.trans hb, Nat.le_trans h.size hb.size⟩
  have := own_base h.row b e
  omega
def AllEnd (s : ByteArray) (e : Ending) : Prop := e = if (allL (ll s)).2.1 = 0 then .returned (.tuple #[]) else thrown (allL (ll s)).2.1 (allL (ll s)).2.2
set_option maxRecDepth 100000 in
set_option maxHeartbeats 16000000 in
theorem all_calls (K : Nat) (hY : YieldC K) (s : ByteArray) (hs : s.size ≤ 65536) (w0 W : World) (hl : LxLaid w0) (hB0 : Below w0.heap.size w0 W) (B : Nat) (hv : Boxed W B 22 (.slice none 0 0)) (hB : B < W.heap.size) (hn0 : w0.heap.size ≤ B) :
    Calls Tryd.prog 20 #[.string s, .func (.func K) #[] #[.pointer (some ⟨B, 0, none⟩)]] W fun e w' =>
      AllEnd s e ∧ OutT w' B W.heap.size ((allL (ll s)).1.map tokS) ∧ (∀ b, b < W.heap.size → b ≠ B → w'.heap[b]? = W.heap[b]?) ∧ Below w0.heap.size W w' := by
  have hA0 : AllW W w0.heap.size B (.slice none 0 0) [] W := ⟨hv, World.ownsRow_nil _ _ _ _, fun _ _ _ => rfl, Below.refl _ _, Nat.le_refl _⟩
  have HA0 := Lib.hid hA0; have HY := Lib.hid hY; have HL := Lib.hid (fun w1 (h : Below w0.heap.size W w1) => hl.below (hB0.trans h))
  have HI0 := Lib.hid (AllInv.start s hs)
  have hn1 : w0.heap.size ≤ W.heap.size := by omega
  clear hA0 hY hl hB0 hv
  go_enter Tryd.func20, Tryd.ntmps20
  go_wp2_with fail
  refine (skip_calls s 0 (Nat.zero_le _) (by omega) _).mono ?_
  rintro e w1 ⟨rfl, rfl⟩
  go_wp2_with fail
  go_loopw [4] (fun v wr => ∃ (k : Nat) (T : List Tok) (u : Value), v = .int .i64 k ∧ AllInv s k T ∧ AllW w1 w0.heap.size B u T wr)
    (fun v _ => s.size - (intOf v).toNat)
  case atStart => exact ⟨_, [], _, rfl, HI0.out, HA0.out⟩
  case round =>
    obtain ⟨k, T, u, rfl, hI, hA⟩ := hrel
    have HI := Lib.hid hI; have HA := Lib.hid hA
    have hks := hI.1
    have hTk := hI.2.1
    clear hI hA
    by_cases hlt : k < s.size
    · have ho : ∃ o, o = oneL ((ll s).drop k) := ⟨_, rfl⟩
      obtain ⟨o, ho⟩ := ho
      have HO := Lib.hid ho
      clear ho
      go_wp2_with fail
      refine (one_calls s k hlt (by omega) wr (HL.out _ HA.out.below)).mono ?_
      rw [← HO.out]
      rintro e w2 ⟨ha, hb⟩
      cases o with
      | bad why =>
        have he : e = thrown why k := ha
        subst he
        have hbad := HI.out.bad hlt HO.out.symm
        have HX := Lib.hid hbad
        have hA2 := HA.out.to hn1 hb
        have HA2 := Lib.hid hA2
        have hne := oneL_bad HO.out.symm
        clear hbad hA2 ha hb
        unfold thrown
        refine ⟨rfl, ?_, ?_⟩
        · unfold AllEnd
          rw [HX.out, if_neg hne]
          rfl
        · rw [HX.out]
          exact ⟨⟨_, HA2.out.box, HA2.out.row⟩, HA2.out.keep, HA2.out.below⟩
      | ok kind len v =>
        have he : e = .returned (tokV kind (s.extract k (k + len)) v k) := ha
        subst he
        have hst := HI.out.step hlt HO.out.symm
        have HST := Lib.hid hst.1
        have hkn := hst.2
        have hA2 := HA.out.to hn1 hb
        have HA2 := Lib.hid hA2
        have hex := cut_is s k len
        have hsz2 : (s.extract k (k + len)).size = len := by rw [← ll_len, ll_cut, List.length_take, List.length_drop, ll_len]; omega
        generalize s.extract k (k + len) = sub at *
        have HEX := Lib.hid hex
        clear hst hA2 ha hb hex
        unfold tokV
        have hA3 := HA2.out.to hn1 ((Below.refl _ w2).alloc (Nat.le_refl _) (.cells #[.int .i64 kind, .string sub, .int .i64 v, .int .i64 (k : Nat)] 28))
        have hblk := World.alloc_heap_new w2 (.cells #[.int .i64 kind, .string sub, .int .i64 v, .int .i64 (k : Nat)] 28)
        have ht : tok28 (tokS ⟨kind, ((ll s).drop k).take len, v, k⟩) = .agg #[.int .i64 kind, .string sub, .int .i64 v, .int .i64 (k : Nat)] := by rw [HEX.out]; rfl
        have hy := HY.out.2 _ B w0.heap.size w1.heap.size (T.map tokS) (tokS ⟨kind, ((ll s).drop k).take len, v, k⟩) _ hA3.box hA3.row hA3.size hB hn0 (by rw [List.length_map]; omega)
        rw [ht] at hy
        have hown : u.ownBlock ≠ some w2.heap.size := fun e => by have := own_lt HA2.out.row _ e; omega
        have hszB : w1.heap.size ≤ w2.heap.size := HA2.out.size
        have HY2 := Lib.hid hy; have HA3 := Lib.hid hA3; have HBLK := Lib.hid hblk; have HOWN := Lib.hid hown
        clear hA3 hblk ht hy hown
        go_wp2_with fail
        rw [HY.out.1, Oper.upon_enter]
        refine HY2.out.mono ?_
        rintro e w3 ⟨rfl, ho, hk, hb⟩
        obtain ⟨v', hA4⟩ := HA3.out.put ho hk hb
        obtain ⟨⟨y0, y1, y2, y3⟩, e0, e1, e2, e3⟩ := tok_loaded ((hk w2.heap.size (by simp) (by omega) HOWN.out).trans HBLK.out)
        have HA4 := Lib.hid hA4
        have hkl : ((k : Int) + (sub.size : Int)) = ((k + len : Nat) : Int) := by omega
        have hsk := skip_calls s (k + len) hkn.1 (by omega) w3
        rw [show ((k + len : Nat) : Int) = (k : Int) + (len : Nat) from Int.natCast_add _ _] at hsk
        have HSK := Lib.hid hsk
        clear ho hk hb hA4 y0 y2 y3 e0 e2 e3 hsk
        go_wp2_with fail
        refine HSK.out.mono ?_
        rintro e w4 ⟨rfl, rfl⟩
        go_wp2_with fail
        go_roundw
        case rel => exact ⟨_, _, _, rfl, HST.out, HA4.out⟩
        case measure => simp [intOf]; omega
    · obtain rfl : k = s.size := by omega
      have HX := Lib.hid (HI.out.last rfl)
      have hy := HY.out.2 _ B w0.heap.size w1.heap.size (T.map tokS) (tokS (endT s.size)) _ HA.out.box HA.out.row HA.out.size hB hn0 (by rw [List.length_map]; omega)
      rw [show tok28 (tokS (endT s.size)) = .agg #[.int .i64 5, .string ⟨#[]⟩, .int .i64 0, .int .i64 (s.size : Nat)] from rfl] at hy
      have HY2 := Lib.hid hy
      clear hy
      go_wp2_with fail
      rw [HY.out.1, Oper.upon_enter]
      refine HY2.out.mono ?_
      rintro e w3 ⟨rfl, ho, hk, hb⟩
      obtain ⟨v', hA4⟩ := HA.out.put (t := endT s.size) ho hk hb
      have HA4 := Lib.hid hA4
      clear ho hk hb hA4
      go_wp2_with fail
      go_end0
      refine ⟨?_, ?_, HA4.out.keep, HA4.out.below⟩
      · unfold AllEnd
        rw [HX.out, if_pos rfl]
      · rw [HX.out]
        exact ⟨_, HA4.out.box, HA4.out.row⟩

end Go.Proofs.YtgpdahgpopmjiaaDoor.PL
