/- Parts of the laws of lex: functions of the program, each with the proof of what it answers; the conditions are those of each theorem. -/
import Derived.Lib.ParseIntBCases
import Derived.Lib.ParseIntBTie
import Derived.Lib.ItoaNum
import Derived.Test.YtgpdahgpopmjiaaDoorPLx7
import Derived.Test.YtgpdahgpopmjiaaDoorShelf
import Derived.Lib.Hide
import Derived.WalkKit
import Derived.Deep.QuietTactic
import Derived.BigQuiet
import Derived.StillTailTactics
namespace Go.Proofs.YtgpdahgpopmjiaaDoor.PL
open Go.RowKit Go.Proofs.YtgpdahgpopmjiaaDoorW.PrintWords Go.Proofs.YtgpdahgpopmjiaaDoorW.PrintLast Go.Proofs.YtgpdahgpopmjiaaDoorW.PrintMore
set_option linter.unusedVariables false
set_option linter.unusedSimpArgs false
/-! ### tokens, plainly: over lists of bytes -/
def letterB (c : UInt8) : Bool := (97 ≤ c && c ≤ 122) || (65 ≤ c && c ≤ 90) || c == 95
def digitB (c : UInt8) : Bool := 48 ≤ c && c ≤ 57
def wordB (c : UInt8) : Bool := letterB c || digitB c
def blankB (c : UInt8) : Bool := c == 32 || c == 9 || c == 10 || c == 13
def strB (c : UInt8) : Bool := c != 34 && c != 10
def signB (c : UInt8) : Bool := c == 59 || c == 58 || c == 44 || c == 40 || c == 41 || c == 91 || c == 93 || c == 123 || c == 125 || c == 61
/-- what is behind blanks and comments; true: within a comment -/
def skipM : Bool → List UInt8 → List UInt8
  | _, [] => []
  | true, c :: t => if c == 10 then skipM false t else skipM true t
  | false, c :: t => if blankB c then skipM false t else if c == 37 then skipM true t else c :: t
def skipL (l : List UInt8) : List UInt8 := skipM false l
def decV (l : List UInt8) : Nat := l.foldl (fun n c => 10 * n + (c.toNat - 48)) 0
def startsDigit : List UInt8 → Bool
  | c :: _ => digitB c
  | [] => false
def afterSign : List UInt8 → List UInt8
  | d :: u => if d == 45 || d == 43 then u else d :: u
  | [] => []
def floatL : List UInt8 → Bool
  | [] => false
  | c :: t => if c == 46 then startsDigit t else if c == 101 || c == 69 then startsDigit (afterSign t) else false
/-- a token without its place: its kind, how long it is, its number -/
inductive One where
  | ok (kind : Int) (len : Nat) (n : Int)
  | bad (why : Int)
deriving DecidableEq
def numL (minus : Bool) (d : List UInt8) : One :=
  if d.takeWhile digitB = [] ∨ 1000000000 < decV (d.takeWhile digitB) then .bad 150
  else if floatL (d.dropWhile digitB) then .bad 173
  else .ok 2 ((if minus then 1 else 0) + (d.takeWhile digitB).length) (if minus then -(decV (d.takeWhile digitB) : Int) else decV (d.takeWhile digitB))
def startsQuote : List UInt8 → Bool
  | c :: _ => c == 34
  | [] => false
def twice (c : UInt8) : List UInt8 → Bool
  | d :: _ => d == c
  | [] => false
def oneL : List UInt8 → One
  | [] => .bad 150
  | c :: t =>
    if letterB c then .ok 1 (1 + (t.takeWhile wordB).length) 0
    else if digitB c then numL false (c :: t)
    else if c == 45 then numL true t
    else if c == 34 then (if startsQuote (t.dropWhile strB) then .ok 3 (2 + (t.takeWhile strB).length) 0 else .bad 150)
    else if (c == 46 || c == 58) && twice c t then .ok 4 2 0
    else if signB c then .ok 4 1 0
    else .bad 150
structure Tok where
  kind : Int
  text : List UInt8
  n : Int
  pos : Nat
deriving DecidableEq
def endT (m : Nat) : Tok := ⟨5, [], 0, m⟩
/-- the tokens ahead of the first fault, the fault (0: none), its place; n: the whole text's length; l: what is left, blanks skipped -/
def allF : Nat → Nat → List UInt8 → List Tok × Int × Nat
  | 0, n, _ => ([endT n], 0, 0)
  | k + 1, n, l => match l with
    | [] => ([endT n], 0, 0)
    | c :: t => match oneL (c :: t) with
      | .bad e => ([], e, n - (c :: t).length)
      | .ok kind len v =>
        let r := allF k n (skipL ((c :: t).drop len))
        (⟨kind, (c :: t).take len, v, n - (c :: t).length⟩ :: r.1, r.2)
theorem allF_succ (k n : Nat) (l : List UInt8) : allF (k + 1) n l = match l with
    | [] => ([endT n], 0, 0)
    | c :: t => match oneL (c :: t) with
      | .bad e => ([], e, n - (c :: t).length)
      | .ok kind len v => (⟨kind, (c :: t).take len, v, n - (c :: t).length⟩ :: (allF k n (skipL ((c :: t).drop len))).1, (allF k n (skipL ((c :: t).drop len))).2) := by
  cases l <;> rfl
def allL (l : List UInt8) : List Tok × Int × Nat := if 65536 < l.length then ([], 3, 0) else allF (l.length + 1) l.length (skipL l)
/-! #### small facts -/
theorem skipM_le : ∀ (b : Bool) (l : List UInt8), (skipM b l).length ≤ l.length
  | b, [] => by cases b <;> simp [skipM]
  | true, c :: t => by
    unfold skipM
    split
    · have := skipM_le false t; simp; omega
    · have := skipM_le true t; simp; omega
  | false, c :: t => by
    unfold skipM
    split
    · have := skipM_le false t; simp; omega
    · split
      · have := skipM_le true t; simp; omega
      · simp
theorem skipL_le (l : List UInt8) : (skipL l).length ≤ l.length := skipM_le false l
/-- what is skipped lies ahead -/
theorem skipM_drop : ∀ (b : Bool) (l : List UInt8), skipM b l = l.drop (l.length - (skipM b l).length)
  | b, [] => by cases b <;> simp [skipM]
  | true, c :: t => by
    unfold skipM
    split
    · have h := skipM_drop false t; have := skipM_le false t
      rw [List.length_cons, show t.length + 1 - (skipM false t).length = (t.length - (skipM false t).length) + 1 by omega, List.drop_succ_cons]
      exact h
    · have h := skipM_drop true t; have := skipM_le true t
      rw [List.length_cons, show t.length + 1 - (skipM true t).length = (t.length - (skipM true t).length) + 1 by omega, List.drop_succ_cons]
      exact h
  | false, c :: t => by
    unfold skipM
    split
    · have h := skipM_drop false t; have := skipM_le false t
      rw [List.length_cons, show t.length + 1 - (skipM false t).length = (t.length - (skipM false t).length) + 1 by omega, List.drop_succ_cons]
      exact h
    · split
      · have h := skipM_drop true t; have := skipM_le true t
        rw [List.length_cons, show t.length + 1 - (skipM true t).length = (t.length - (skipM true t).length) + 1 by omega, List.drop_succ_cons]
        exact h
      · simp
theorem takeWhile_len {α : Type} (p : α → Bool) (l : List α) : (l.takeWhile p).length ≤ l.length := by
  have := congrArg List.length (List.takeWhile_append_dropWhile (p := p) (l := l))
  rw [List.length_append] at this
  omega
theorem dropWhile_drop {α : Type} (p : α → Bool) : ∀ l : List α, l.dropWhile p = l.drop (l.takeWhile p).length
  | [] => rfl
  | c :: t => by
    rw [List.dropWhile_cons, List.takeWhile_cons]
    split
    · rw [List.length_cons, List.drop_succ_cons]; exact dropWhile_drop p t
    · rfl
theorem takeWhile_take {α : Type} (p : α → Bool) : ∀ l : List α, l.takeWhile p = l.take (l.takeWhile p).length
  | [] => rfl
  | c :: t => by
    rw [List.takeWhile_cons]
    split
    · rw [List.length_cons, List.take_succ_cons, ← takeWhile_take p t]
    · rfl
theorem oneL_len {l : List UInt8} {k : Int} {len : Nat} {v : Int} (h : oneL l = .ok k len v) : 1 ≤ len ∧ len ≤ l.length := by
  cases l with
  | nil => simp [oneL] at h
  | cons c t =>
    have h1 := takeWhile_len wordB t
    have h2 := takeWhile_len digitB (c :: t)
    have h3 := takeWhile_len digitB t
    rw [oneL] at h
    split at h
    · injection h with _ h; simp only [List.length_cons]; omega
    · split at h
      · unfold numL at h
        split at h
        · cases h
        · rename_i hne
          split at h
          · cases h
          · injection h with _ h
            have : (c :: t).takeWhile digitB ≠ [] := fun e => hne (.inl e)
            have : 0 < ((c :: t).takeWhile digitB).length := List.length_pos_iff.2 this
            simp only [Bool.false_eq_true, if_false] at h
            omega
      · split at h
        · unfold numL at h
          split at h
          · cases h
          · split at h
            · cases h
            · injection h with _ h; simp only [List.length_cons, if_true] at h ⊢; omega
        · split at h
          · split at h
            · rename_i hq
              injection h with _ h
              have h4 : 0 < (t.dropWhile strB).length := by
                cases hd : t.dropWhile strB with
                | nil => rw [hd] at hq; simp [startsQuote] at hq
                | cons => simp
              have h5 := congrArg List.length (List.takeWhile_append_dropWhile (p := strB) (l := t))
              rw [List.length_append] at h5
              simp only [List.length_cons]; omega
            · cases h
          · split at h
            · rename_i ht
              injection h with _ h
              cases t with
              | nil => simp [twice] at ht
              | cons => simp only [List.length_cons]; omega
            · split at h
              · injection h with _ h; simp only [List.length_cons]; omega
              · cases h

/-! #### a text that is cut -/
theorem takeWhile_cut {α : Type} (p : α → Bool) : ∀ (l : List α) (m : Nat), (l.takeWhile p).length ≤ m → (l.take m).takeWhile p = l.takeWhile p
  | [], m, _ => by simp
  | c :: t, 0, h => by
    rw [List.takeWhile_cons] at h ⊢
    split at h
    · simp at h
    · rename_i hc; simp [hc]
  | c :: t, m + 1, h => by
    rw [List.take_succ_cons, List.takeWhile_cons, List.takeWhile_cons]
    rw [List.takeWhile_cons] at h
    split
    · rename_i hc
      rw [if_pos hc] at h
      rw [takeWhile_cut p t m (by simpa using h)]
    · rfl
theorem dropWhile_cut {α : Type} (p : α → Bool) : ∀ (l : List α) (m : Nat), (l.take m).dropWhile p = (l.dropWhile p).take (m - (l.takeWhile p).length)
  | [], m => by simp
  | c :: t, 0 => by simp
  | c :: t, m + 1 => by
    rw [List.take_succ_cons, List.dropWhile_cons, List.dropWhile_cons, List.takeWhile_cons]
    split
    · rw [dropWhile_cut p t m, List.length_cons]
      congr 1
      omega
    · simp
theorem startsDigit_cut (l : List UInt8) (m : Nat) (h : startsDigit l = false) : startsDigit (l.take m) = false := by
  cases l with
  | nil => simpa using h
  | cons c t => cases m with
    | zero => rfl
    | succ m => exact h
theorem afterSign_cut (l : List UInt8) (m : Nat) (h : startsDigit (afterSign l) = false) : startsDigit (afterSign (l.take m)) = false := by
  cases l with
  | nil => simpa using h
  | cons c t => cases m with
    | zero => rfl
    | succ m =>
      rw [List.take_succ_cons]
      rw [afterSign] at h ⊢
      split
      · rename_i hc
        rw [if_pos hc] at h
        exact startsDigit_cut t m h
      · rename_i hc
        rw [if_neg hc] at h
        exact h
theorem floatL_cut (l : List UInt8) (m : Nat) (h : floatL l = false) : floatL (l.take m) = false := by
  cases l with
  | nil => simpa using h
  | cons c t => cases m with
    | zero => rfl
    | succ m =>
      rw [List.take_succ_cons]
      rw [floatL] at h ⊢
      split
      · rename_i hc
        rw [if_pos hc] at h
        exact startsDigit_cut t m h
      · rename_i hc
        rw [if_neg hc] at h
        split
        · rename_i hd
          rw [if_pos hd] at h
          exact afterSign_cut t m h
        · rfl
theorem numL_cut {b : Bool} {d : List UInt8} {m : Nat} {k : Int} {len : Nat} {v : Int} (h : numL b d = .ok k len v) (hm : (d.takeWhile digitB).length ≤ m) : numL b (d.take m) = .ok k len v := by
  unfold numL at h ⊢
  rw [takeWhile_cut digitB d m hm, dropWhile_cut]
  split at h
  · cases h
  · rename_i h1
    rw [if_neg h1]
    cases hf : floatL (d.dropWhile digitB) with
    | true => rw [hf] at h; simp at h
    | false =>
      rw [hf] at h
      rw [floatL_cut _ _ hf]
      exact h
theorem numL_len {b : Bool} {d : List UInt8} {k : Int} {len : Nat} {v : Int} (h : numL b d = .ok k len v) : len = (if b then 1 else 0) + (d.takeWhile digitB).length ∧ k = 2 := by
  unfold numL at h
  split at h
  · cases h
  · split at h
    · cases h
    · injection h with h1 h2
      exact ⟨h2.symm, h1.symm⟩
theorem twice_cut (c : UInt8) (l : List UInt8) (m : Nat) (h : twice c l = false) : twice c (l.take m) = false := by
  cases l with
  | nil => simpa using h
  | cons d t => cases m with
    | zero => rfl
    | succ m => exact h
theorem oneL_cut {l : List UInt8} {k : Int} {len : Nat} {v : Int} {m : Nat} (h : oneL l = .ok k len v) (hm : len ≤ m) : oneL (l.take m) = .ok k len v := by
  have hl := oneL_len h
  cases l with
  | nil => simp [oneL] at h
  | cons c t =>
    obtain ⟨m, rfl⟩ : ∃ j, m = j + 1 := ⟨m - 1, by omega⟩
    rw [List.take_succ_cons]
    rw [oneL] at h ⊢
    split at h
    · rename_i hc
      rw [if_pos hc]
      injection h with h1 h2 h3
      rw [takeWhile_cut wordB t m (by omega), h1, h2, h3]
    · rename_i hc
      rw [if_neg hc]
      split at h
      · rename_i hd
        rw [if_pos hd]
        have := (numL_len h).1
        simp only [Bool.false_eq_true, if_false] at this
        exact numL_cut (m := m + 1) h (by omega)
      · rename_i hd
        rw [if_neg hd]
        split at h
        · rename_i he
          rw [if_pos he]
          have := (numL_len h).1
          simp only [if_true] at this
          exact numL_cut (m := m) h (by omega)
        · rename_i he
          rw [if_neg he]
          split at h
          · rename_i hf
            rw [if_pos hf]
            split at h
            · rename_i hq
              injection h with h1 h2 h3
              rw [takeWhile_cut strB t m (by omega), dropWhile_cut]
              have : startsQuote ((t.dropWhile strB).take (m - (t.takeWhile strB).length)) = true := by
                cases hd2 : t.dropWhile strB with
                | nil => rw [hd2] at hq; simp [startsQuote] at hq
                | cons x y =>
                  rw [hd2] at hq
                  obtain ⟨j, hj⟩ : ∃ j, m - (t.takeWhile strB).length = j + 1 := ⟨m - (t.takeWhile strB).length - 1, by omega⟩
                  rw [hj]
                  exact hq
              rw [if_pos this, h1, h2, h3]
            · cases h
          · rename_i hf
            rw [if_neg hf]
            split at h
            · rename_i hg
              injection h with h1 h2 h3
              have : ((c == 46 || c == 58) && twice c (t.take m)) = true := by
                cases t with
                | nil => simp [twice] at hg
                | cons x y =>
                  obtain ⟨j, rfl⟩ : ∃ j, m = j + 1 := ⟨m - 1, by omega⟩
                  exact hg
              rw [if_pos this, h1, h2, h3]
            · rename_i hg
              have : ¬ ((c == 46 || c == 58) && twice c (t.take m)) = true := by
                intro hx
                rw [Bool.and_eq_true] at hx
                apply hg
                rw [Bool.and_eq_true]
                refine ⟨hx.1, ?_⟩
                cases ht : twice c t with
                | true => rfl
                | false => rw [twice_cut c t m ht] at hx; exact absurd hx.2 (by decide)
              rw [if_neg this]
              exact h
theorem skipM_cut : ∀ (b : Bool) (l : List UInt8) (m : Nat), skipM b (l.take m) = (skipM b l).take (m - (l.length - (skipM b l).length))
  | b, [], m => by cases b <;> simp [skipM]
  | b, c :: t, 0 => by cases b <;> simp [skipM]
  | true, c :: t, m + 1 => by
    rw [List.take_succ_cons]
    unfold skipM
    split
    · have := skipM_le false t
      rw [skipM_cut false t m, List.length_cons]
      congr 1
      omega
    · have := skipM_le true t
      rw [skipM_cut true t m, List.length_cons]
      congr 1
      omega
  | false, c :: t, m + 1 => by
    rw [List.take_succ_cons]
    unfold skipM
    split
    · have := skipM_le false t
      rw [skipM_cut false t m, List.length_cons]
      congr 1
      omega
    · split
      · have := skipM_le true t
        rw [skipM_cut true t m, List.length_cons]
        congr 1
        omega
      · simp
theorem numL_bad {b : Bool} {d : List UInt8} {e : Int} (h : numL b d = .bad e) : e ≠ 0 := by
  unfold numL at h
  split at h
  · injection h with h; omega
  · split at h
    · injection h with h; omega
    · cases h
theorem oneL_bad {l : List UInt8} {e : Int} (h : oneL l = .bad e) : e ≠ 0 := by
  cases l with
  | nil => rw [oneL] at h; injection h with h; omega
  | cons c t =>
    rw [oneL] at h
    split at h
    · cases h
    · split at h
      · exact numL_bad h
      · split at h
        · exact numL_bad h
        · split at h
          · split at h
            · cases h
            · injection h with h; omega
          · split at h
            · cases h
            · split at h
              · cases h
              · injection h with h; omega
theorem oneL_kind {l : List UInt8} {k : Int} {len : Nat} {v : Int} (h : oneL l = .ok k len v) : 1 ≤ k ∧ k ≤ 4 := by
  cases l with
  | nil => simp [oneL] at h
  | cons c t =>
    rw [oneL] at h
    split at h
    · injection h with h; omega
    · split at h
      · have := (numL_len h).2; omega
      · split at h
        · have := (numL_len h).2; omega
        · split at h
          · split at h
            · injection h with h; omega
            · cases h
          · split at h
            · injection h with h; omega
            · split at h
              · injection h with h; omega
              · cases h
/-- where skipping from a place on comes to -/
def nextAt (s : List UInt8) (j : Nat) : Nat := s.length - (skipL (s.drop j)).length
theorem nextAt_drop (s : List UInt8) (j : Nat) (hj : j ≤ s.length) : skipL (s.drop j) = s.drop (nextAt s j) ∧ j ≤ nextAt s j ∧ nextAt s j ≤ s.length := by
  have h1 := skipL_le (s.drop j)
  rw [List.length_drop] at h1
  refine ⟨?_, by unfold nextAt; omega, by unfold nextAt; omega⟩
  have h2 : skipL (s.drop j) = (s.drop j).drop ((s.drop j).length - (skipL (s.drop j)).length) := skipM_drop false (s.drop j)
  rw [List.drop_drop, List.length_drop] at h2
  have e : j + (s.length - j - (skipL (s.drop j)).length) = nextAt s j := by unfold nextAt; omega
  rw [e] at h2
  exact h2
theorem skipL_cut (s : List UInt8) (j E : Nat) (hj : j ≤ s.length) (hE : nextAt s j ≤ E) (hE2 : E ≤ s.length) : skipL ((s.take E).drop j) = (s.take E).drop (nextAt s j) := by
  obtain ⟨h1, h2, h3⟩ := nextAt_drop s j hj
  rw [List.drop_take, List.drop_take]
  show skipM false ((s.drop j).take (E - j)) = _
  rw [skipM_cut]
  show (skipL (s.drop j)).take (E - j - ((s.drop j).length - (skipL (s.drop j)).length)) = _
  rw [h1, List.length_drop, List.length_drop]
  congr 1
  omega
/-- what stands of each token -/
structure TokAt (s : List UInt8) (i : Nat) (t : Tok) : Prop where
  lo : i ≤ t.pos
  hi : t.pos + t.text.length ≤ s.length
  text : (s.drop t.pos).take t.text.length = t.text
  kind : t.kind = 5 ∧ t.text = [] ∧ t.n = 0 ∧ t.pos = s.length ∨ oneL (s.drop t.pos) = .ok t.kind t.text.length t.n
theorem allF_spec (s : List UInt8) : ∀ (k i : Nat) (T : List Tok) (e : Int) (p : Nat), i ≤ s.length → allF k s.length (s.drop i) = (T, e, p) → s.length - i < k →
    (∀ t ∈ T, TokAt s i t) ∧ T.Pairwise (fun a b => a.pos + a.text.length ≤ b.pos) ∧ (e = 0 → p = 0 ∧ ∃ T1, T = T1 ++ [endT s.length] ∧ ∀ t ∈ T1, t.kind ≠ 5) ∧ (e ≠ 0 → ∀ t ∈ T, t.kind ≠ 5)
  | 0, i, T, e, p, hi, h, hk => by omega
  | k + 1, i, T, e, p, hi, h, hk => by
    rw [allF_succ] at h
    cases hd : s.drop i with
    | nil =>
      rw [hd] at h
      injection h with h1 h2
      injection h2 with h2 h3
      subst h1 h2 h3
      refine ⟨fun t ht => ?_, by simp, fun _ => ⟨rfl, [], rfl, by simp⟩, fun h => absurd rfl h⟩
      rw [List.mem_singleton] at ht
      subst ht
      exact ⟨hi, Nat.le_refl _, rfl, .inl ⟨rfl, rfl, rfl, rfl⟩⟩
    | cons c t =>
      rw [hd] at h
      dsimp only at h
      have hlen : (c :: t).length = s.length - i := by rw [← hd, List.length_drop]
      cases ho : oneL (c :: t) with
      | bad e' =>
        rw [ho] at h
        injection h with h1 h2
        injection h2 with h2 h3
        subst h1 h2 h3
        exact ⟨by simp, by simp, fun h => absurd h (oneL_bad ho), by simp⟩
      | ok kind len v =>
        rw [ho] at h
        dsimp only at h
        obtain ⟨hl1, hl2⟩ := oneL_len ho
        rw [hlen] at hl2
        have hnx := nextAt_drop s (i + len) (by omega)
        rw [← hd, List.drop_drop, hnx.1] at h
        cases hr : allF k s.length (s.drop (nextAt s (i + len))) with
        | mk T1 ep =>
          obtain ⟨e1, p1⟩ := ep
          rw [hr] at h
          injection h with h1 h2
          injection h2 with h2 h3
          subst h1 h2 h3
          obtain ⟨q1, q2, q3, q4⟩ := allF_spec s k (nextAt s (i + len)) T1 e1 p1 hnx.2.2 hr (by omega)
          have hpos : s.length - (s.drop i).length = i := by rw [List.length_drop]; omega
          have htl : ((s.drop i).take len).length = len := by rw [List.length_take, List.length_drop]; omega
          have ht0 : TokAt s i ⟨kind, (s.drop i).take len, v, s.length - (s.drop i).length⟩ := by
            refine ⟨by rw [hpos]; exact Nat.le_refl _, ?_, ?_, .inr ?_⟩
            · show s.length - (s.drop i).length + ((s.drop i).take len).length ≤ _
              rw [hpos, htl]; omega
            · show (s.drop (s.length - (s.drop i).length)).take ((s.drop i).take len).length = (s.drop i).take len
              rw [hpos, htl]
            · show oneL (s.drop (s.length - (s.drop i).length)) = .ok kind ((s.drop i).take len).length v
              rw [hpos, htl, hd]; exact ho
          have hk5 : kind ≠ 5 := by have := oneL_kind ho; omega
          refine ⟨fun t ht => ?_, ?_, fun he => ?_, fun he t ht => ?_⟩
          · rw [List.mem_cons] at ht
            rcases ht with rfl | ht
            · exact ht0
            · obtain ⟨a1, a2, a3, a4⟩ := q1 t ht
              exact ⟨by omega, a2, a3, a4⟩
          · rw [List.pairwise_cons]
            refine ⟨fun t ht => ?_, q2⟩
            show s.length - (s.drop i).length + ((s.drop i).take len).length ≤ _
            rw [hpos, htl]
            have := (q1 t ht).lo
            omega
          · obtain ⟨r1, T2, r2, r3⟩ := q3 he
            refine ⟨r1, _ :: T2, by rw [r2]; rfl, fun t ht => ?_⟩
            rw [List.mem_cons] at ht
            rcases ht with rfl | ht
            · exact hk5
            · exact r3 t ht
          · rw [List.mem_cons] at ht
            rcases ht with rfl | ht
            · exact hk5
            · exact q4 he t ht
theorem take_len_cut {s : List UInt8} {i len E : Nat} (h : i + len ≤ E) : ((s.take E).drop i).take len = (s.drop i).take len := by
  rw [List.drop_take, List.take_take, Nat.min_eq_left (by omega)]
/-- a text that ends where a token ends has the tokens up to there -/
theorem allF_cut (s : List UInt8) : ∀ (k i : Nat) (T : List Tok) (p : Nat), i ≤ s.length → allF k s.length (s.drop i) = (T, 0, p) → s.length - i < k →
    ∀ (j : Nat) (hj : j < T.length) (k' : Nat), T[j].pos + T[j].text.length - i < k' → ∃ T', allF k' (T[j].pos + T[j].text.length) ((s.take (T[j].pos + T[j].text.length)).drop i) = (T', 0, 0) ∧ j + 1 ≤ T'.length ∧ T'.take (j + 1) = T.take (j + 1)
  | 0, i, T, p, hi, h, hk, j, hj, k', hk' => by omega
  | k + 1, i, T, p, hi, h, hk, j, hj, k', hk' => by
    have hspec := allF_spec s (k + 1) i T 0 p hi h hk
    have htj := hspec.1 T[j] (List.getElem_mem hj)
    obtain ⟨k', rfl⟩ : ∃ m, k' = m + 1 := ⟨k' - 1, by omega⟩
    rw [allF_succ] at h
    cases hd : s.drop i with
    | nil =>
      rw [hd] at h
      injection h with h1 h2
      subst h1
      have hj0 : j = 0 := by simpa using hj
      subst hj0
      have his : i = s.length := by have := congrArg List.length hd; rw [List.length_drop] at this; simp at this; omega
      refine ⟨[endT s.length], ?_, by simp, rfl⟩
      show allF (k' + 1) (s.length + 0) ((s.take (s.length + 0)).drop i) = _
      have e1 : s.length + 0 = s.length := rfl
      rw [e1, List.take_length, hd]
      rfl
    | cons c t =>
      rw [hd] at h
      dsimp only at h
      have hlen : (c :: t).length = s.length - i := by rw [← hd, List.length_drop]
      cases ho : oneL (c :: t) with
      | bad e' =>
        rw [ho] at h
        injection h with h1 h2
        injection h2 with h2 h3
        exact absurd h2 (oneL_bad ho)
      | ok kind len v =>
        rw [ho] at h
        dsimp only at h
        obtain ⟨hl1, hl2⟩ := oneL_len ho
        rw [hlen] at hl2
        have hnx := nextAt_drop s (i + len) (by omega)
        rw [← hd, List.drop_drop, hnx.1] at h
        cases hr : allF k s.length (s.drop (nextAt s (i + len))) with
        | mk T1 ep =>
          obtain ⟨e1, p1⟩ := ep
          rw [hr] at h
          injection h with h1 h2
          injection h2 with h2 h3
          subst h1 h2 h3
          have hpos : s.length - (s.drop i).length = i := by rw [List.length_drop]; omega
          have htl : ((s.drop i).take len).length = len := by rw [List.length_take, List.length_drop]; omega
          -- the step, at whatever end E behind this token
          have hstep : ∀ E, i + len ≤ E → E ≤ s.length → allF (k' + 1) E ((s.take E).drop i) = (⟨kind, (s.drop i).take len, v, i⟩ :: (allF k' E (skipL ((s.take E).drop (i + len)))).1, (allF k' E (skipL ((s.take E).drop (i + len)))).2) := by
            intro E h1 h2
            have hne : (s.take E).drop i = (c :: t).take (E - i) := by rw [List.drop_take, hd]
            obtain ⟨m, hm⟩ : ∃ m, E - i = m + 1 := ⟨E - i - 1, by omega⟩
            have hc := oneL_cut (m := E - i) ho (by omega)
            have hll : ((s.take E).drop i).length = E - i := by rw [List.length_drop, List.length_take]; omega
            rw [allF_succ]
            rw [← hne] at hc
            cases hx : (s.take E).drop i with
            | nil => rw [hx] at hll; simp at hll; omega
            | cons c' t' =>
              rw [hx] at hc
              dsimp only
              rw [hc]
              dsimp only
              rw [← hx, List.drop_drop, take_len_cut h1, hll, show E - (E - i) = i by omega]
          cases j with
          | zero =>
            show ∃ T', allF (k' + 1) (s.length - (s.drop i).length + ((s.drop i).take len).length) ((s.take (s.length - (s.drop i).length + ((s.drop i).take len).length)).drop i) = (T', 0, 0) ∧ _
            rw [hpos, htl, hstep (i + len) (Nat.le_refl _) (by omega)]
            have e0 : (s.take (i + len)).drop (i + len) = [] := by rw [List.drop_eq_nil_iff, List.length_take]; omega
            rw [e0]
            have e1 : allF k' (i + len) (skipL []) = ([endT (i + len)], 0, 0) := by cases k' <;> rfl
            rw [e1]
            exact ⟨_, rfl, by simp, by simp⟩
          | succ j =>
            have hj1 : j < T1.length := by simpa using hj
            have hq := (allF_spec s k _ T1 0 p1 hnx.2.2 hr (by omega)).1 T1[j] (List.getElem_mem hj1)
            have hE1 : nextAt s (i + len) ≤ T1[j].pos + T1[j].text.length := Nat.le_trans hq.lo (Nat.le_add_right _ _)
            have hE2 := hq.hi
            have e1 : (({ kind := kind, text := (s.drop i).take len, n := v, pos := s.length - (s.drop i).length } : Tok) :: T1)[j + 1] = T1[j] := rfl
            rw [e1] at hk' ⊢
            obtain ⟨T', h1, h2, h3⟩ := allF_cut s k _ T1 p1 hnx.2.2 hr (by omega) j hj1 k' (by omega)
            rw [hstep _ (by omega) hE2, skipL_cut s (i + len) _ (by omega) hE1 hE2, h1]
            refine ⟨_, rfl, by simp; omega, ?_⟩
            rw [List.take_succ_cons, List.take_succ_cons, h3, hpos]

/-! #### tokens with blanks between -/
theorem takeWhile_again {α : Type} (p : α → Bool) : ∀ (l r : List α), (∀ c t, r = c :: t → p c = false) → (l.takeWhile p ++ r).takeWhile p = l.takeWhile p
  | [], r, h => by
    cases r with
    | nil => rfl
    | cons c t => simp [h c t rfl]
  | c :: t, r, h => by
    rw [List.takeWhile_cons]
    split
    · rename_i hc
      rw [List.cons_append, List.takeWhile_cons, if_pos hc, takeWhile_again p t r h]
    · cases r with
      | nil => rfl
      | cons c t => simp [h c t rfl]
theorem dropWhile_again {α : Type} (p : α → Bool) : ∀ (l r : List α), (∀ c t, r = c :: t → p c = false) → (l.takeWhile p ++ r).dropWhile p = r
  | [], r, h => by
    cases r with
    | nil => rfl
    | cons c t => simp [h c t rfl]
  | c :: t, r, h => by
    rw [List.takeWhile_cons]
    split
    · rename_i hc
      rw [List.cons_append, List.dropWhile_cons, if_pos hc, dropWhile_again p t r h]
    · cases r with
      | nil => rfl
      | cons c t => simp [h c t rfl]
/-- the digits of a number -/
def decD (n : Nat) : List UInt8 := if n < 10 then [UInt8.ofNat (48 + n)] else decD (n / 10) ++ [UInt8.ofNat (48 + n % 10)]
termination_by n
decreasing_by omega
theorem decD_all (n : Nat) : (∀ c ∈ decD n, digitB c = true) ∧ decD n ≠ [] ∧ decV (decD n) = n := by
  induction n using Nat.strongRecOn with
  | ind n ih =>
    have hd : ∀ m, m < 10 → digitB (UInt8.ofNat (48 + m)) = true ∧ (UInt8.ofNat (48 + m)).toNat - 48 = m := by
      intro m hm
      have e : (UInt8.ofNat (48 + m)).toNat = 48 + m := by rw [UInt8.toNat_ofNat']; omega
      refine ⟨?_, by omega⟩
      unfold digitB
      rw [Bool.and_eq_true, decide_eq_true_iff, decide_eq_true_iff, UInt8.le_iff_toNat_le, UInt8.le_iff_toNat_le, e]
      exact ⟨by show 48 ≤ _; omega, by show _ ≤ 57; omega⟩
    unfold decD
    split
    · rename_i h
      obtain ⟨h1, h2⟩ := hd n h
      refine ⟨fun c hc => by rw [List.mem_singleton] at hc; subst hc; exact h1, by simp, ?_⟩
      show 10 * 0 + _ = n
      rw [h2]; omega
    · rename_i h
      obtain ⟨q1, q2, q3⟩ := ih (n / 10) (by omega)
      obtain ⟨h1, h2⟩ := hd (n % 10) (by omega)
      refine ⟨fun c hc => ?_, by simp, ?_⟩
      · rw [List.mem_append, List.mem_singleton] at hc
        rcases hc with hc | rfl
        · exact q1 c hc
        · exact h1
      · unfold decV at q3 ⊢
        rw [List.foldl_append, q3]
        show 10 * (n / 10) + _ = n
        rw [h2]; omega
def itoaL (n : Int) : List UInt8 := if n < 0 then 45 :: decD n.natAbs else decD n.natAbs
theorem takeWhile_all {α : Type} (p : α → Bool) : ∀ (l r : List α), (∀ c ∈ l, p c = true) → (∀ c t, r = c :: t → p c = false) → (l ++ r).takeWhile p = l ∧ (l ++ r).dropWhile p = r
  | [], r, _, h => by
    cases r with
    | nil => exact ⟨rfl, rfl⟩
    | cons c t => simp [h c t rfl]
  | c :: t, r, hl, h => by
    have hc := hl c (by simp)
    obtain ⟨h1, h2⟩ := takeWhile_all p t r (fun x hx => hl x (by simp [hx])) h
    rw [List.cons_append, List.takeWhile_cons, List.dropWhile_cons, if_pos hc, if_pos hc, h1, h2]
    exact ⟨rfl, rfl⟩
theorem digit_not_letter (c : UInt8) (h : digitB c = true) : letterB c = false := by
  unfold digitB at h
  unfold letterB
  rw [Bool.and_eq_true, decide_eq_true_iff, decide_eq_true_iff, UInt8.le_iff_toNat_le, UInt8.le_iff_toNat_le] at h
  have h1 : 48 ≤ c.toNat := h.1
  have h2 : c.toNat ≤ 57 := h.2
  have e1 : decide (97 ≤ c) = false := by rw [decide_eq_false_iff_not, UInt8.le_iff_toNat_le]; show ¬ 97 ≤ c.toNat; omega
  have e2 : decide (65 ≤ c) = false := by rw [decide_eq_false_iff_not, UInt8.le_iff_toNat_le]; show ¬ 65 ≤ c.toNat; omega
  have e3 : (c == 95) = false := by rw [beq_eq_false_iff_ne]; intro e; subst e; exact absurd h2 (by decide)
  rw [e1, e2, e3]; rfl
theorem numL_dec (b : Bool) (m : Nat) (rest : List UInt8) (hm : m ≤ 1000000000) : numL b (decD m ++ 32 :: rest) = .ok 2 ((if b then 1 else 0) + (decD m).length) (if b then -(m : Int) else m) := by
  obtain ⟨h1, h2, h3⟩ := decD_all m
  obtain ⟨e1, e2⟩ := takeWhile_all digitB (decD m) (32 :: rest) h1 (fun c t e => by injection e with e; subst e; rfl)
  unfold numL
  rw [e1, e2, h3]
  have hf : floatL (32 :: rest) = false := rfl
  rw [hf, if_neg (fun h => by rcases h with h | h; exact h2 h; omega)]
  rfl
theorem numL_val {b : Bool} {d : List UInt8} {k : Int} {len : Nat} {v : Int} (h : numL b d = .ok k len v) : k = 2 ∧ ∃ m : Nat, m ≤ 1000000000 ∧ v = if b then -(m : Int) else m := by
  unfold numL at h
  split at h
  · cases h
  · rename_i hc
    split at h
    · cases h
    · injection h with h1 h2 h3
      refine ⟨h1.symm, decV (d.takeWhile digitB), ?_, h3.symm⟩
      apply Nat.le_of_not_lt
      intro hx
      exact hc (.inr hx)
theorem oneL_itoa (b : Bool) (m : Nat) (hm : m ≤ 1000000000) (rest : List UInt8) : oneL (itoaL (if b then -(m : Int) else m) ++ 32 :: rest) = .ok 2 (itoaL (if b then -(m : Int) else m)).length (if b then -(m : Int) else m) := by
  have pos : ∀ m : Nat, m ≤ 1000000000 → oneL (decD m ++ 32 :: rest) = .ok 2 (decD m).length m := by
    intro m hm
    have hn := numL_dec false m rest hm
    obtain ⟨h1, h2, h3⟩ := decD_all m
    cases hd : decD m with
    | nil => exact absurd hd h2
    | cons c t =>
      have hc := h1 c (by rw [hd]; simp)
      rw [hd] at hn
      rw [List.cons_append] at hn ⊢
      rw [oneL, if_neg (by rw [digit_not_letter c hc]; simp), if_pos hc, hn]
      simp
  cases b with
  | false =>
    have e : itoaL ((if false = true then -(m : Int) else m)) = decD m := by unfold itoaL; rw [if_neg (by simp)]; simp
    rw [e]
    exact pos m hm
  | true =>
    by_cases h0 : m = 0
    · subst h0
      exact pos 0 (by omega)
    · have e : itoaL ((if true = true then -(m : Int) else m)) = 45 :: decD m := by
        unfold itoaL
        rw [if_pos (by simp only [if_true]; omega)]
        simp
      rw [e, List.cons_append, oneL]
      rw [if_neg (by decide), if_neg (by decide), if_pos (by decide), numL_dec true m rest hm]
      simp only [if_true, List.length_cons]
      congr 1
      omega
def tokText (t : Tok) : List UInt8 := if t.kind = 2 then itoaL t.n else t.text
/-- a token's text with a blank behind it is that token -/
theorem oneL_tok (l : List UInt8) (k : Int) (len : Nat) (v : Int) (rest : List UInt8) (h : oneL l = .ok k len v) (pos : Nat) :
    oneL (tokText ⟨k, l.take len, v, pos⟩ ++ 32 :: rest) = .ok k (tokText ⟨k, l.take len, v, pos⟩).length v := by
  have h32 : ∀ p : UInt8 → Bool, p 32 = false → ∀ c t, (32 :: rest : List UInt8) = c :: t → p c = false := fun p hp c t e => by injection e with e; subst e; exact hp
  have hnum : ∀ b d, numL b d = .ok k len v → oneL (tokText ⟨k, l.take len, v, pos⟩ ++ 32 :: rest) = .ok k (tokText ⟨k, l.take len, v, pos⟩).length v := by
    intro b d hb
    obtain ⟨rfl, m, hm, rfl⟩ := numL_val hb
    exact oneL_itoa b m hm rest
  cases l with
  | nil => simp [oneL] at h
  | cons c t =>
    rw [oneL] at h
    split at h
    · rename_i hc
      injection h with h1 h2 h3
      subst h1 h2 h3
      have e : tokText ⟨1, (c :: t).take (1 + (t.takeWhile wordB).length), 0, pos⟩ = c :: t.takeWhile wordB := by
        unfold tokText
        rw [if_neg (show ¬ ((1 : Int) = 2) by decide)]
        show (c :: t).take (1 + (t.takeWhile wordB).length) = _
        rw [Nat.add_comm, List.take_succ_cons, ← takeWhile_take]
      rw [e, List.cons_append, oneL, if_pos hc, takeWhile_again wordB t _ (h32 wordB rfl)]
      simp only [List.length_cons]
      rw [Nat.add_comm]
    · rename_i hc
      split at h
      · exact hnum _ _ h
      · rename_i hd
        split at h
        · exact hnum _ _ h
        · rename_i he
          split at h
          · rename_i hf
            split at h
            · rename_i hq
              injection h with h1 h2 h3
              subst h1 h2 h3
              have e : tokText ⟨3, (c :: t).take (2 + (t.takeWhile strB).length), 0, pos⟩ = c :: (t.takeWhile strB ++ [34]) := by
                unfold tokText
                rw [if_neg (show ¬ ((3 : Int) = 2) by decide)]
                show (c :: t).take (2 + (t.takeWhile strB).length) = _
                rw [show 2 + (t.takeWhile strB).length = (t.takeWhile strB).length + 1 + 1 by omega, List.take_succ_cons]
                congr 1
                have h4 := List.takeWhile_append_dropWhile (p := strB) (l := t)
                cases hx : t.dropWhile strB with
                | nil => rw [hx] at hq; simp [startsQuote] at hq
                | cons y z =>
                  rw [hx] at hq h4
                  have : y = 34 := by simpa [startsQuote] using hq
                  subst this
                  generalize t.takeWhile strB = tw at *
                  rw [← h4, List.take_append, List.take_of_length_le (by omega), Nat.add_sub_cancel_left]
                  rfl
              rw [e, List.cons_append, oneL, if_neg hc, if_neg hd, if_neg he, if_pos hf, List.append_assoc]
              have h34 : ∀ x y, ([34] ++ 32 :: rest : List UInt8) = x :: y → strB x = false := fun x y e => by injection e with e; subst e; rfl
              rw [takeWhile_again strB t _ h34, dropWhile_again strB t _ h34, if_pos (by rfl)]
              simp only [List.length_cons, List.length_append, List.length_nil]
              congr 1
              omega
            · cases h
          · rename_i hf
            split at h
            · rename_i hg
              injection h with h1 h2 h3
              subst h1 h2 h3
              cases t with
              | nil => simp [twice] at hg
              | cons y z =>
                have e : tokText ⟨4, (c :: y :: z).take 2, 0, pos⟩ = [c, y] := by unfold tokText; rw [if_neg (show ¬ ((4 : Int) = 2) by decide)]; rfl
                rw [e]
                show oneL (c :: (y :: 32 :: rest)) = _
                rw [oneL, if_neg hc, if_neg hd, if_neg he, if_neg hf, if_pos (by simpa [twice] using hg)]
                rfl
            · rename_i hg
              split at h
              · rename_i hs
                injection h with h1 h2 h3
                subst h1 h2 h3
                have e : tokText ⟨4, (c :: t).take 1, 0, pos⟩ = [c] := by unfold tokText; rw [if_neg (show ¬ ((4 : Int) = 2) by decide)]; rfl
                rw [e]
                show oneL (c :: (32 :: rest)) = _
                have hg2 : ¬ ((c == 46 || c == 58) && twice c (32 :: rest)) = true := by
                  intro hx
                  rw [Bool.and_eq_true] at hx
                  have h1 : (32 : UInt8) = c := by simpa [twice] using hx.2
                  subst h1
                  exact absurd hx.1 (by decide)
                rw [oneL, if_neg hc, if_neg hd, if_neg he, if_neg hf, if_neg hg2, if_pos hs]
                rfl
              · cases h

/-! #### the joined text; words -/
theorem oneL_noskip {c : UInt8} {t : List UInt8} {k : Int} {len : Nat} {v : Int} (h : oneL (c :: t) = .ok k len v) : skipL (c :: t) = c :: t := by
  have hb : ∀ x : UInt8, x = 32 ∨ x = 9 ∨ x = 10 ∨ x = 13 ∨ x = 37 → ∀ t, oneL (x :: t) = .bad 150 := by
    intro x hx t
    rcases hx with rfl | rfl | rfl | rfl | rfl <;> rfl
  unfold skipL
  rw [skipM]
  rw [if_neg, if_neg]
  · intro hc
    rw [hb c (by right; right; right; right; simpa using hc) t] at h
    cases h
  · intro hc
    unfold blankB at hc
    simp only [Bool.or_eq_true, beq_iff_eq] at hc
    rw [hb c (by rcases hc with ((hc | hc) | hc) | hc <;> simp [hc]) t] at h
    cases h
def joinText (T : List Tok) : List UInt8 := T.flatMap fun t => tokText t ++ [32]
def key (t : Tok) : Int × Int × List UInt8 := (t.kind, t.n, tokText t)
theorem allF_joins : ∀ (T1 : List Tok) (m : Nat), (∀ t ∈ T1, ∃ l len, oneL l = .ok t.kind len t.n ∧ t.text = l.take len) → ∀ (k n : Nat), (joinText (T1 ++ [endT m])).length < k →
    ∃ T', allF k n (skipL (joinText (T1 ++ [endT m]))) = (T', 0, 0) ∧ T'.map key = (T1 ++ [endT m]).map key
  | [], m, _, k, n, hk => by
    have e : skipL (joinText ([] ++ [endT m])) = [] := rfl
    rw [e]
    refine ⟨[⟨5, [], 0, n⟩], by cases k <;> rfl, rfl⟩
  | t :: T1, m, hg, k, n, hk => by
    obtain ⟨l, len, h1, h2⟩ := hg t (by simp)
    have ht : t = ⟨t.kind, l.take len, t.n, t.pos⟩ := by rw [← h2]
    have hone := oneL_tok l t.kind len t.n (joinText (T1 ++ [endT m])) h1 t.pos
    rw [← ht] at hone
    have hj : joinText (t :: T1 ++ [endT m]) = tokText t ++ 32 :: joinText (T1 ++ [endT m]) := by simp [joinText]
    rw [hj] at hk ⊢
    have hlen := (oneL_len hone).1
    cases htx : tokText t with
    | nil => rw [htx] at hlen; simp at hlen
    | cons c u =>
      rw [htx] at hone hk
      rw [List.cons_append] at hone ⊢
      rw [oneL_noskip hone]
      obtain ⟨k, rfl⟩ : ∃ j, k = j + 1 := ⟨k - 1, by omega⟩
      rw [allF_succ]
      dsimp only
      rw [hone]
      dsimp only
      have e1 : (c :: (u ++ 32 :: joinText (T1 ++ [endT m]))).drop (c :: u).length = 32 :: joinText (T1 ++ [endT m]) := by
        rw [← List.cons_append, List.drop_left]
      have e2 : (c :: (u ++ 32 :: joinText (T1 ++ [endT m]))).take (c :: u).length = c :: u := by
        rw [← List.cons_append, List.take_left]
      have e3 : skipL (32 :: joinText (T1 ++ [endT m])) = skipL (joinText (T1 ++ [endT m])) := rfl
      rw [e1, e2, e3]
      simp only [List.cons_append, List.length_cons, List.length_append] at hk
      obtain ⟨T', q1, q2⟩ := allF_joins T1 m (fun t ht => hg t (by simp [ht])) k n (by omega)
      rw [q1]
      refine ⟨_, rfl, ?_⟩
      rw [List.cons_append, List.map_cons, List.map_cons, q2]
      congr 1
      unfold key
      congr 2
      rw [htx]
      unfold tokText
      dsimp only
      split
      · rename_i h
        rw [← htx]; unfold tokText; rw [if_pos h]
      · rfl
/-- what a lexed text's tokens are, joined -/
theorem allL_joins {s : List UInt8} {T : List Tok} {p : Nat} (h : allL s = (T, 0, p)) (hj : (joinText T).length ≤ 65536) : ∃ T', allL (joinText T) = (T', 0, 0) ∧ T'.map key = T.map key := by
  unfold allL at h
  split at h
  · injection h with _ h; injection h with h; cases h
  · obtain ⟨n1, n2, n3⟩ := nextAt_drop s 0 (by omega)
    rw [List.drop_zero] at n1
    rw [n1] at h
    obtain ⟨q1, q2, q3, _⟩ := allF_spec s _ _ T 0 p n3 h (by omega)
    obtain ⟨_, T1, rfl, h5⟩ := q3 rfl
    unfold allL
    rw [if_neg (by omega)]
    refine allF_joins T1 s.length (fun t ht => ?_) _ _ (Nat.lt_succ_self _)
    obtain ⟨a1, a2, a3, a4⟩ := q1 t (by simp [ht])
    rcases a4 with ⟨h, _⟩ | a4
    · exact absurd h (h5 t ht)
    · exact ⟨_, _, a4, a3.symm⟩
theorem allL_places {s : List UInt8} {T : List Tok} {p : Nat} (h : allL s = (T, 0, p)) :
    p = 0 ∧ 0 < T.length ∧ (∀ t ∈ T, t.pos + t.text.length ≤ s.length ∧ (s.drop t.pos).take t.text.length = t.text) ∧ T.Pairwise (fun a b => a.pos + a.text.length ≤ b.pos) ∧
    ∀ (j : Nat) (hj : j < T.length), ∃ T', allL (s.take (T[j].pos + T[j].text.length)) = (T', 0, 0) ∧ j + 1 ≤ T'.length ∧ T'.take (j + 1) = T.take (j + 1) := by
  unfold allL at h
  split at h
  · injection h with _ h; injection h with h; cases h
  · rename_i hlen
    obtain ⟨n1, n2, n3⟩ := nextAt_drop s 0 (by omega)
    rw [List.drop_zero] at n1
    rw [n1] at h
    obtain ⟨q1, q2, q3, _⟩ := allF_spec s _ _ T 0 p n3 h (by omega)
    obtain ⟨rfl, T1, rfl, h5⟩ := q3 rfl
    refine ⟨rfl, by simp, fun t ht => ⟨(q1 t ht).hi, (q1 t ht).text⟩, q2, fun j hj => ?_⟩
    have ht := q1 _ (List.getElem_mem hj)
    have h1 := Nat.le_trans ht.lo (Nat.le_add_right _ (T1 ++ [endT s.length])[j].text.length); have h2 := ht.hi
    obtain ⟨T', r1, r2, r3⟩ := allF_cut s _ _ _ 0 n3 h (by omega) j hj ((T1 ++ [endT s.length])[j].pos + (T1 ++ [endT s.length])[j].text.length + 1) (by omega)
    refine ⟨T', ?_, r2, r3⟩
    generalize (T1 ++ [endT s.length])[j].pos + (T1 ++ [endT s.length])[j].text.length = E at *
    have hE : (s.take E).length = E := by rw [List.length_take]; omega
    have hs := skipL_cut s 0 E (by omega) (by omega) h2
    rw [List.drop_zero] at hs
    unfold allL
    rw [if_neg (by omega), hE, hs, r1]
def wordL : List UInt8 → Bool
  | [] => false
  | c :: t => letterB c && t.all wordB
theorem letter_first {c : UInt8} (h : letterB c = true) (t : List UInt8) : oneL (c :: t) = .ok 1 (1 + (t.takeWhile wordB).length) 0 := by
  rw [oneL, if_pos h]
theorem takeWhile_full {α : Type} (p : α → Bool) : ∀ l : List α, (l.takeWhile p).length = l.length → l.all p = true
  | [], _ => rfl
  | c :: t, h => by
    rw [List.takeWhile_cons] at h
    split at h
    · rename_i hc
      rw [List.all_cons, hc, takeWhile_full p t (by simpa using h)]; rfl
    · simp at h
theorem takeWhile_of_all {α : Type} (p : α → Bool) (l : List α) (h : l.all p = true) : l.takeWhile p = l := by
  have := (takeWhile_all p l [] (fun c hc => List.all_eq_true.1 h c hc) (fun c t e => by cases e)).1
  rwa [List.append_nil] at this
theorem allL_word (s : List UInt8) (hs : s.length ≤ 65536) : (wordL s = true ↔ ∃ t0 t1 p, allL s = ([t0, t1], 0, p) ∧ t0.kind = 1 ∧ t0.text = s) := by
  constructor
  · intro h
    cases s with
    | nil => cases h
    | cons c t =>
      rw [wordL, Bool.and_eq_true] at h
      have ho := letter_first h.1 t
      rw [takeWhile_of_all wordB t h.2] at ho
      unfold allL
      rw [if_neg (by omega), oneL_noskip ho, allF_succ]
      dsimp only
      rw [ho]
      dsimp only
      have e1 : (c :: t).drop (1 + t.length) = [] := by rw [List.drop_eq_nil_iff]; simp; omega
      have e2 : (c :: t).take (1 + t.length) = c :: t := by rw [List.take_of_length_le]; simp; omega
      rw [e1, e2]
      exact ⟨_, _, _, rfl, rfl, rfl⟩
  · rintro ⟨t0, t1, p, h, hk, ht⟩
    unfold allL at h
    rw [if_neg (by omega)] at h
    obtain ⟨n1, n2, n3⟩ := nextAt_drop s 0 (by omega)
    rw [List.drop_zero] at n1
    rw [n1] at h
    obtain ⟨q1, _⟩ := allF_spec s _ _ _ 0 p n3 h (by omega)
    obtain ⟨a1, a2, a3, a4⟩ := q1 t0 (by simp)
    rcases a4 with ⟨h, _⟩ | a4
    · omega
    · rw [ht] at a2 a4
      have hp : t0.pos = 0 := by omega
      rw [hp, List.drop_zero, hk] at a4
      cases s with
      | nil => simp [oneL] at a4
      | cons c t =>
        rw [oneL] at a4
        split at a4
        · rename_i hc
          injection a4 with _ h2
          rw [wordL, hc, takeWhile_full wordB t (by simp only [List.length_cons] at h2; omega)]
          rfl
        · split at a4
          · have := (numL_len a4).2; omega
          · split at a4
            · have := (numL_len a4).2; omega
            · split at a4
              · split at a4
                · injection a4 with h; omega
                · cases a4
              · split at a4
                · injection a4 with h; omega
                · split at a4
                  · injection a4 with h; omega
                  · cases a4
/-- the tokens ahead of a fault hold no end -/
theorem allL_end (s : List UInt8) (T : List Tok) (e : Int) (p : Nat) (h : allL s = (T, e, p)) : (e = 0 → ∃ T1, T = T1 ++ [endT s.length] ∧ ∀ t ∈ T1, t.kind ≠ 5) ∧ (e ≠ 0 → ∀ t ∈ T, t.kind ≠ 5) := by
  unfold allL at h
  split at h
  · injection h with h1 h2; injection h2 with h2
    subst h1 h2
    exact ⟨fun h => absurd h (by decide), by simp⟩
  · obtain ⟨n1, n2, n3⟩ := nextAt_drop s 0 (by omega)
    rw [List.drop_zero] at n1
    rw [n1] at h
    obtain ⟨q1, q2, q3, q4⟩ := allF_spec s _ _ T e p n3 h (by omega)
    exact ⟨fun he => (q3 he).2, q4⟩

/-! #### strconv's numbers -/
theorem decV_go (l : List UInt8) : ∀ acc, l.foldl (fun n c => 10 * n + (c.toNat - 48)) acc ≥ acc := by
  induction l with
  | nil => intro acc; exact Nat.le_refl _
  | cons c t ih => intro acc; rw [List.foldl_cons]; have := ih (10 * acc + (c.toNat - 48)); omega
theorem digitB_nat {c : UInt8} (h : digitB c = true) : 48 ≤ c.toNat ∧ c.toNat ≤ 57 := by
  unfold digitB at h
  rw [Bool.and_eq_true, decide_eq_true_iff, decide_eq_true_iff, UInt8.le_iff_toNat_le, UInt8.le_iff_toNat_le] at h
  exact h
theorem uintM_digits : ∀ (l : List UInt8) (acc : Nat), (∀ c ∈ l, digitB c = true) →
    Lib.parseUintM 18446744073709551615 acc l = .ok (l.foldl (fun n c => 10 * n + (c.toNat - 48)) acc) ∨ (Lib.parseUintM 18446744073709551615 acc l = .range ∧ 18446744073709551615 < l.foldl (fun n c => 10 * n + (c.toNat - 48)) acc)
  | [], acc, _ => .inl rfl
  | c :: t, acc, h => by
    have hc := digitB_nat (h c (by simp))
    rw [Lib.parseUintM, if_pos hc, List.foldl_cons]
    have hg := decV_go t (10 * acc + (c.toNat - 48))
    split
    · exact .inr ⟨rfl, by omega⟩
    · split
      · exact .inr ⟨rfl, by omega⟩
      · rw [Nat.mul_comm acc 10]
        exact uintM_digits t _ (fun x hx => h x (by simp [hx]))
/-- what strconv.ParseInt says of digits behind a '-', or none -/
theorem parse_digits (b : Bool) (ds : List UInt8) (h : ∀ c ∈ ds, digitB c = true) :
    (ds = [] ∨ 1000000000 < decV ds) ∧ (Lib.parseIntB 64 (if b then 45 :: ds else ds) = Lib.parseIntB 64 [] ∨ Lib.parseIntB 64 (if b then 45 :: ds else ds) = .range) ∨
    ds ≠ [] ∧ Lib.parseIntB 64 (if b then 45 :: ds else ds) = .ok (if b then -(decV ds : Int) else decV ds) := by
  cases ds with
  | nil => exact .inl ⟨.inl rfl, .inl (by cases b <;> rfl)⟩
  | cons c t =>
    have hc := digitB_nat (h c (by simp))
    have hu : Lib.parseUintB 64 (c :: t) = Lib.parseUintM 18446744073709551615 0 (c :: t) := by
      unfold Lib.parseUintB
      rw [if_neg (by simp)]
    have hm := uintM_digits (c :: t) 0 h
    have hv : decV (c :: t) = (c :: t).foldl (fun n c => 10 * n + (c.toNat - 48)) 0 := rfl
    rw [← hv, ← hu] at hm
    have e63 : 2 ^ (64 - 1) = 9223372036854775808 := by decide
    cases b with
    | false =>
      rw [if_neg (by decide), if_neg (by decide), Lib.parseIntB_plain 64 c t (by omega) (by omega), e63]
      rcases hm with hm | ⟨hm, hx⟩
      · rw [hm]
        unfold Lib.signlessC
        by_cases hb : 9223372036854775808 ≤ decV (c :: t)
        · exact .inl ⟨.inr (by omega), .inr (by dsimp only; rw [if_pos hb])⟩
        · exact .inr ⟨by simp, by dsimp only; rw [if_neg hb]⟩
      · rw [hm]
        exact .inl ⟨.inr (by omega), .inr rfl⟩
    | true =>
      rw [if_pos rfl, if_pos rfl, Lib.parseIntB_minus, e63]
      rcases hm with hm | ⟨hm, hx⟩
      · rw [hm]
        unfold Lib.signedC
        by_cases hb : 9223372036854775808 < decV (c :: t)
        · exact .inl ⟨.inr (by omega), .inr (by dsimp only; rw [if_pos hb])⟩
        · exact .inr ⟨by simp, by dsimp only; rw [if_neg hb]⟩
      · rw [hm]
        exact .inl ⟨.inr (by omega), .inr rfl⟩
theorem itoaL_lib (n : Int) : itoaL n = Lib.itoa n := by
  have hd : ∀ m, decD m = Lib.decDigits m := by
    intro m
    induction m using Nat.strongRecOn with
    | ind m ih =>
      unfold decD Lib.decDigits
      by_cases h : m < 10
      · rw [if_pos h, dif_pos h]
      · rw [if_neg h, dif_neg h, ih (m / 10) (by omega)]
  unfold itoaL Lib.itoa
  by_cases h : n < 0
  · rw [if_pos h, if_pos h, hd]
  · rw [if_neg h, if_neg h, hd, show n.toNat = n.natAbs by omega]

end Go.Proofs.YtgpdahgpopmjiaaDoor.PL
