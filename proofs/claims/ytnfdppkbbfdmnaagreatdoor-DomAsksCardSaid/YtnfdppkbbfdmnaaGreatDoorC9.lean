/- Parts of the laws of dom: functions of the program, each with the proof of what it answers; the conditions are those of each theorem. -/
import Derived.Test.YtnfdppkbbfdmnaaGreatDoorC8
import Derived.Test.YtnfdppkbbfdmnaaGreatDoorVShelf
import Derived.Lib.SmallJoins
namespace Go.Proofs.YtnfdppkbbfdmnaaGreatDoor.PD
open Go.RowKit Go.Proofs.YtnfdppkbbfdmnaaGreatDoorW.PrintWords Go.Proofs.YtnfdppkbbfdmnaaGreatDoorW.PrintLast Go.Proofs.YtnfdppkbbfdmnaaGreatDoorW.PrintMore
set_option linter.unusedVariables false
set_option linter.unusedSimpArgs false
/-! ### texts of numbers -/
structure DomLaid (w : World) : Prop where
  syn : ∃ tp p, w.var? Tryz.prog "strconv.ErrSyntax" = some #[.iface tp p]
  rng : ∃ tp p, w.var? Tryz.prog "strconv.ErrRange" = some #[.iface tp p]
  tab : Lib.TabIs Tryz.prog w "internal/strconv.uint64pow10" .u64 Lib.pow10Tab
  mx : ∃ m, w.cell? ⟨0, 0, none⟩ = some (.int .i64 m)
theorem DomLaid.below {w w' : World} (h : DomLaid w) (hb : Below w.heap.size w w') : DomLaid w' := by
  obtain ⟨⟨tp, p, h1⟩, ⟨tq, q, h2⟩, h3, m, h4⟩ := h
  exact ⟨⟨tp, p, Go.Joins.var_stays rfl h1 hb (Nat.le_refl _)⟩, ⟨tq, q, Go.Joins.var_stays rfl h2 hb (Nat.le_refl _)⟩, Go.Joins.tab_stays rfl h3 hb (Nat.le_refl _), m, (hb.cell (World.block_lt_of_cell? w _ h4)).trans h4⟩
theorem grow_below (B : Nat) (w : World) (hB : B ≤ w.heap.size) (k : Nat) (os : Array Obj) : Below B w (Sort.grow (w.drewN k) os) :=
  ⟨rfl, rfl, rfl, by show w.heap.size ≤ (w.heap ++ os).size; rw [Array.size_append]; omega, fun j hj => Array.getElem?_append_left (by show j < w.heap.size; omega)⟩
def decB (n : Int) : ByteArray := ⟨(Lib.itoa n).toArray⟩
theorem format_calls (n : Int) (h0 : -1000000 ≤ n) (h1 : n ≤ 1000000) (w : World) (hl : DomLaid w) :
    Calls Tryz.prog 82 #[.int .i64 n, .int .i64 10] w fun e w' => e = .returned (.string (decB n)) ∧ Below w.heap.size w w' := by
  refine (Tryz.strconv_FormatInt_10 n (by omega) (by omega) w hl.tab).mono ?_
  rintro e w' ⟨rfl, k, os, rfl⟩
  exact ⟨rfl, grow_below _ _ (Nat.le_refl _) _ _⟩
set_option maxHeartbeats 4000000 in
theorem dec_calls (n : Int) (h0 : -1000000 ≤ n) (h1 : n ≤ 1000000) (w : World) (hl : DomLaid w) :
    Calls Tryz.prog 64 #[.int .i64 n] w fun e w' => e = .returned (.string (decB n)) ∧ Below w.heap.size w w' := by
  have HF := Lib.hid (format_calls n h0 h1 w hl)
  generalize decB n = b at *
  go_enter Tryz.func64, Tryz.ntmps64
  go_wp2_with fail
  refine HF.out.mono ?_
  rintro e w' ⟨rfl, hb⟩
  go_wp2_with fail
  go_ret
  exact ⟨rfl, hb⟩
/-- a range as text, a list of ranges as text -/
def rngT (r : S57) : ByteArray := if r.f0 < r.f1 then decB r.f0 ++ (⟨#[46, 46]⟩ ++ decB r.f1) else decB r.f0
def restT : List S57 → ByteArray
  | [] => ⟨#[]⟩
  | r :: t => ⟨#[44]⟩ ++ rngT r ++ restT t
def textT : List S57 → ByteArray
  | [] => ⟨#[123, 125]⟩
  | r :: t => rngT r ++ restT t
/-- behind so many ranges -/
def upT : List S57 → ByteArray
  | [] => ⟨#[]⟩
  | r :: t => rngT r ++ restT t

end Go.Proofs.YtnfdppkbbfdmnaaGreatDoor.PD
