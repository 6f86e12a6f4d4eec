/-
  No cell of these rows narrows 'for every input' (looked for: loops, veiled, ifaces, maps, wideKeys, modest, calm, conditions, laid).
  DERIVED. THE GIVEN ROWS OF THIS SEAT. 6 by the template 'for every input the law returns true; each argument reads behind the call as it read before'; 0 by the template 'total and deterministic' (their statements: YtfkbkcdiajjljaaTotals.lean).
  GIVEN WITH THE SEED: the statements are not yours to turn. If you find one false, say at which input.
  Laid BY PROGRAM, IN A SANDBOX (cutbox-rows.mjs): the forced cells as the released guide's own fill.sh prints them over the translation 88f6130f7ccce7e2… (all of the seat's roots in one cut). By AI agents, Wed Nov 11 2026. No macro, syntax, notation, axiom, sorry.
-/
import Derived.Test.YtfkbkcdiajjljaaChecked
import GoSem.Claim
import GoSem.ClaimJoined
import GoSem.ClaimMapViews
import Derived.JoinedTies
import Derived.KernelRfl
namespace Go.Proofs.Ytfkbkcdiajjljaa
/- THE CELL 'sum', in the pinned program and in every row, IS THE sha256 OF THE DUMP (.gsa) THAT YtfkbkcdiajjljaaProg.lean LOADS. Nothing in Lean hashes anything: it is a label: what it is worth is what the hold of that sum in a sandbox is worth. -/
noncomputable def Try.pinned : Pinned := { name := "ytfkbkcdiajjljaa", sum := "88f6130f7ccce7e2b100f3771b141b4952589a45bc0585be4bc4daa5230ad0c7", checked := Try.checked }
namespace Rows
def none {H : Type} : Left H := { results := [], args := [] }

/-- 'jigsawlaw01.IntsBack': WHATEVER THE INPUT: true; the input reads as it did. -/
def intsBackSpec : ChangeSpec := { name := "intsBack", fn := fun _ => fun
  | [d1, d2] => { results := [.lit (.bool true)], args := [d1, d2] }
  | _ => none }
def intsBackRow : OpenClaim := { program := "ytfkbkcdiajjljaa", sum := "88f6130f7ccce7e2b100f3771b141b4952589a45bc0585be4bc4daa5230ad0c7", func := "jigsaw/jigsawlaw01.IntsBack", spec := "intsBack", unfollowed := true, recurses := true, apart := false }
def IntsBackSaid : Prop := intsBackRow.holds Try.pinned (OpenSpec.ofChange intsBackSpec)

/-- ITS FALSE NEIGHBOUR: 'it returns false'. Refute it at one input. -/
def intsBackWrong : ChangeSpec := { name := "intsBack", fn := fun _ => fun
  | [d1, d2] => { results := [.lit (.bool false)], args := [d1, d2] }
  | _ => none }
def IntsBackWrongFalsely : Prop := intsBackRow.holds Try.pinned (OpenSpec.ofChange intsBackWrong)

/-- 'jigsawlaw01.IntsReckons': WHATEVER THE INPUT: true; the input reads as it did. -/
def intsReckonsSpec : ChangeSpec := { name := "intsReckons", fn := fun _ => fun
  | [d1, d2] => { results := [.lit (.bool true)], args := [d1, d2] }
  | _ => none }
def intsReckonsRow : OpenClaim := { program := "ytfkbkcdiajjljaa", sum := "88f6130f7ccce7e2b100f3771b141b4952589a45bc0585be4bc4daa5230ad0c7", func := "jigsaw/jigsawlaw01.IntsReckons", spec := "intsReckons", unfollowed := true, recurses := true, apart := false }
def IntsReckonsSaid : Prop := intsReckonsRow.holds Try.pinned (OpenSpec.ofChange intsReckonsSpec)

/-- ITS FALSE NEIGHBOUR: 'it returns false'. Refute it at one input. -/
def intsReckonsWrong : ChangeSpec := { name := "intsReckons", fn := fun _ => fun
  | [d1, d2] => { results := [.lit (.bool false)], args := [d1, d2] }
  | _ => none }
def IntsReckonsWrongFalsely : Prop := intsReckonsRow.holds Try.pinned (OpenSpec.ofChange intsReckonsWrong)

/-- 'jigsawlaw01.IntsDivides': WHATEVER THE INPUT: true; the input reads as it did. -/
def intsDividesSpec : ChangeSpec := { name := "intsDivides", fn := fun _ => fun
  | [d1, d2] => { results := [.lit (.bool true)], args := [d1, d2] }
  | _ => none }
def intsDividesRow : OpenClaim := { program := "ytfkbkcdiajjljaa", sum := "88f6130f7ccce7e2b100f3771b141b4952589a45bc0585be4bc4daa5230ad0c7", func := "jigsaw/jigsawlaw01.IntsDivides", spec := "intsDivides", unfollowed := true, recurses := true, apart := false }
def IntsDividesSaid : Prop := intsDividesRow.holds Try.pinned (OpenSpec.ofChange intsDividesSpec)

/-- ITS FALSE NEIGHBOUR: 'it returns false'. Refute it at one input. -/
def intsDividesWrong : ChangeSpec := { name := "intsDivides", fn := fun _ => fun
  | [d1, d2] => { results := [.lit (.bool false)], args := [d1, d2] }
  | _ => none }
def IntsDividesWrongFalsely : Prop := intsDividesRow.holds Try.pinned (OpenSpec.ofChange intsDividesWrong)

/-- 'jigsawlaw01.IntsPowers': WHATEVER THE INPUT: true; the input reads as it did. -/
def intsPowersSpec : ChangeSpec := { name := "intsPowers", fn := fun _ => fun
  | [d1, d2] => { results := [.lit (.bool true)], args := [d1, d2] }
  | _ => none }
def intsPowersRow : OpenClaim := { program := "ytfkbkcdiajjljaa", sum := "88f6130f7ccce7e2b100f3771b141b4952589a45bc0585be4bc4daa5230ad0c7", func := "jigsaw/jigsawlaw01.IntsPowers", spec := "intsPowers", unfollowed := true, recurses := true, apart := false }
def IntsPowersSaid : Prop := intsPowersRow.holds Try.pinned (OpenSpec.ofChange intsPowersSpec)

/-- ITS FALSE NEIGHBOUR: 'it returns false'. Refute it at one input. -/
def intsPowersWrong : ChangeSpec := { name := "intsPowers", fn := fun _ => fun
  | [d1, d2] => { results := [.lit (.bool false)], args := [d1, d2] }
  | _ => none }
def IntsPowersWrongFalsely : Prop := intsPowersRow.holds Try.pinned (OpenSpec.ofChange intsPowersWrong)

/-- 'jigsawlaw01.IntsMeets': WHATEVER THE INPUT: true; the input reads as it did. -/
def intsMeetsSpec : ChangeSpec := { name := "intsMeets", fn := fun _ => fun
  | [d1, d2] => { results := [.lit (.bool true)], args := [d1, d2] }
  | _ => none }
def intsMeetsRow : OpenClaim := { program := "ytfkbkcdiajjljaa", sum := "88f6130f7ccce7e2b100f3771b141b4952589a45bc0585be4bc4daa5230ad0c7", func := "jigsaw/jigsawlaw01.IntsMeets", spec := "intsMeets", unfollowed := true, recurses := true, apart := false }
def IntsMeetsSaid : Prop := intsMeetsRow.holds Try.pinned (OpenSpec.ofChange intsMeetsSpec)

/-- ITS FALSE NEIGHBOUR: 'it returns false'. Refute it at one input. -/
def intsMeetsWrong : ChangeSpec := { name := "intsMeets", fn := fun _ => fun
  | [d1, d2] => { results := [.lit (.bool false)], args := [d1, d2] }
  | _ => none }
def IntsMeetsWrongFalsely : Prop := intsMeetsRow.holds Try.pinned (OpenSpec.ofChange intsMeetsWrong)

/-- 'jigsawlaw01.IntsDots': WHATEVER THE INPUT: true; the input reads as it did. -/
def intsDotsSpec : ChangeSpec := { name := "intsDots", fn := fun _ => fun
  | [d1, d2, d3] => { results := [.lit (.bool true)], args := [d1, d2, d3] }
  | _ => none }
def intsDotsRow : OpenClaim := { program := "ytfkbkcdiajjljaa", sum := "88f6130f7ccce7e2b100f3771b141b4952589a45bc0585be4bc4daa5230ad0c7", func := "jigsaw/jigsawlaw01.IntsDots", spec := "intsDots", inPlace := ["math/bits.Add64"], unfollowed := true, recurses := true, apart := false }
def IntsDotsSaid : Prop := intsDotsRow.holds Try.pinned (OpenSpec.ofChange intsDotsSpec)

/-- ITS FALSE NEIGHBOUR: 'it returns false'. Refute it at one input. -/
def intsDotsWrong : ChangeSpec := { name := "intsDots", fn := fun _ => fun
  | [d1, d2, d3] => { results := [.lit (.bool false)], args := [d1, d2, d3] }
  | _ => none }
def IntsDotsWrongFalsely : Prop := intsDotsRow.holds Try.pinned (OpenSpec.ofChange intsDotsWrong)

/- THE SECOND FORM. 'bulk': how many values and letters a reading holds, each counted each time it is reached (what is shared counts as often as it is met; a slice's spare places count too). A statement '..UptoSaid' is the law's where the arguments, and the package variables that the reading takes, are together of bulk at most 1048576: NARROWER than '..Said'. Prove '..Said' where nothing that the law and all that it calls make is longer than what came in: it says more and counts as full. Else prove '..UptoSaid'. A law counts once. -/
mutual
def uptoBulk {H : Type} : DataW H → Nat
  | .lit (.string bytes) => bytes.length + 1
  | .lit _ => 1
  | .nil => 1
  | .ptr d => uptoBulk d + 1
  | .slice elems spare => uptoBulkAll elems + uptoBulkAll spare + 1
  | .agg parts => uptoBulkAll parts + 1
  | .iface _ d => uptoBulk d + 1
  | .map entries => uptoBulkEntries entries + 1
  | .held _ => 1
def uptoBulkAll {H : Type} : List (DataW H) → Nat
  | [] => 0
  | d :: r => uptoBulk d + uptoBulkAll r
def uptoBulkEntries {H : Type} : List (Lit × DataW H) → Nat
  | [] => 0
  | x :: r => uptoBulkEntry x + uptoBulkEntries r
def uptoBulkEntry {H : Type} : Lit × DataW H → Nat
  | (.string bytes, d) => bytes.length + uptoBulk d + 1
  | (_, d) => uptoBulk d + 1
 end
def uptoSmall : (H : Type) → List (DataW H) → Bool := fun _ ds => decide (uptoBulkAll ds ≤ 1048576)
def OpenSpec.upto (s : _root_.Go.ChangeSpec) : _root_.Go.OpenSpec := { _root_.Go.OpenSpec.ofChange s with cond := some uptoSmall }

/-- 'jigsawlaw01.IntsBack', WHERE WHAT IT READS IS OF BULK AT MOST 1048576: true; the input reads as it did. -/
def intsBackUptoRow : OpenClaim := { program := "ytfkbkcdiajjljaa", sum := "88f6130f7ccce7e2b100f3771b141b4952589a45bc0585be4bc4daa5230ad0c7", func := "jigsaw/jigsawlaw01.IntsBack", spec := "intsBack", unfollowed := true, recurses := true, apart := false, narrowed := true }
def IntsBackUptoSaid : Prop := intsBackUptoRow.holds Try.pinned (OpenSpec.upto intsBackSpec)

/-- 'jigsawlaw01.IntsReckons', WHERE WHAT IT READS IS OF BULK AT MOST 1048576: true; the input reads as it did. -/
def intsReckonsUptoRow : OpenClaim := { program := "ytfkbkcdiajjljaa", sum := "88f6130f7ccce7e2b100f3771b141b4952589a45bc0585be4bc4daa5230ad0c7", func := "jigsaw/jigsawlaw01.IntsReckons", spec := "intsReckons", unfollowed := true, recurses := true, apart := false, narrowed := true }
def IntsReckonsUptoSaid : Prop := intsReckonsUptoRow.holds Try.pinned (OpenSpec.upto intsReckonsSpec)

/-- 'jigsawlaw01.IntsDivides', WHERE WHAT IT READS IS OF BULK AT MOST 1048576: true; the input reads as it did. -/
def intsDividesUptoRow : OpenClaim := { program := "ytfkbkcdiajjljaa", sum := "88f6130f7ccce7e2b100f3771b141b4952589a45bc0585be4bc4daa5230ad0c7", func := "jigsaw/jigsawlaw01.IntsDivides", spec := "intsDivides", unfollowed := true, recurses := true, apart := false, narrowed := true }
def IntsDividesUptoSaid : Prop := intsDividesUptoRow.holds Try.pinned (OpenSpec.upto intsDividesSpec)

/-- 'jigsawlaw01.IntsPowers', WHERE WHAT IT READS IS OF BULK AT MOST 1048576: true; the input reads as it did. -/
def intsPowersUptoRow : OpenClaim := { program := "ytfkbkcdiajjljaa", sum := "88f6130f7ccce7e2b100f3771b141b4952589a45bc0585be4bc4daa5230ad0c7", func := "jigsaw/jigsawlaw01.IntsPowers", spec := "intsPowers", unfollowed := true, recurses := true, apart := false, narrowed := true }
def IntsPowersUptoSaid : Prop := intsPowersUptoRow.holds Try.pinned (OpenSpec.upto intsPowersSpec)

/-- 'jigsawlaw01.IntsMeets', WHERE WHAT IT READS IS OF BULK AT MOST 1048576: true; the input reads as it did. -/
def intsMeetsUptoRow : OpenClaim := { program := "ytfkbkcdiajjljaa", sum := "88f6130f7ccce7e2b100f3771b141b4952589a45bc0585be4bc4daa5230ad0c7", func := "jigsaw/jigsawlaw01.IntsMeets", spec := "intsMeets", unfollowed := true, recurses := true, apart := false, narrowed := true }
def IntsMeetsUptoSaid : Prop := intsMeetsUptoRow.holds Try.pinned (OpenSpec.upto intsMeetsSpec)

/-- 'jigsawlaw01.IntsDots', WHERE WHAT IT READS IS OF BULK AT MOST 1048576: true; the input reads as it did. -/
def intsDotsUptoRow : OpenClaim := { program := "ytfkbkcdiajjljaa", sum := "88f6130f7ccce7e2b100f3771b141b4952589a45bc0585be4bc4daa5230ad0c7", func := "jigsaw/jigsawlaw01.IntsDots", spec := "intsDots", inPlace := ["math/bits.Add64"], unfollowed := true, recurses := true, apart := false, narrowed := true }
def IntsDotsUptoSaid : Prop := intsDotsUptoRow.holds Try.pinned (OpenSpec.upto intsDotsSpec)

end Rows
end Go.Proofs.Ytfkbkcdiajjljaa
