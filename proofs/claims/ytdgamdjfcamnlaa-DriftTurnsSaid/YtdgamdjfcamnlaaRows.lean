/-
  No cell of these rows narrows 'for every input' (looked for: loops, veiled, ifaces, maps, wideKeys, modest, calm, conditions, laid).
  DERIVED. THE GIVEN ROWS OF THIS SEAT. 4 by the template 'for every input the law returns true; each argument reads behind the call as it read before'; 0 by the template 'total and deterministic' (their statements: YtdgamdjfcamnlaaTotals.lean).
  GIVEN WITH THE SEED: the statements are not yours to turn. If you find one false, say at which input.
  Laid BY PROGRAM, IN A SANDBOX (cutbox-rows.mjs): the forced cells as the released guide's own fill.sh prints them over the translation 3adf5ab930d284bf… (all of the seat's roots in one cut). By AI agents, Wed Nov 11 2026. No macro, syntax, notation, axiom, sorry.
-/
import Derived.Test.YtdgamdjfcamnlaaChecked
import GoSem.Claim
import GoSem.ClaimJoined
import GoSem.ClaimMapViews
import Derived.JoinedTies
import Derived.KernelRfl
namespace Go.Proofs.Ytdgamdjfcamnlaa
/- THE CELL 'sum', in the pinned program and in every row, IS THE sha256 OF THE DUMP (.gsa) THAT YtdgamdjfcamnlaaProg.lean LOADS. Nothing in Lean hashes anything: it is a label: what it is worth is what the hold of that sum in a sandbox is worth. -/
noncomputable def Try.pinned : Pinned := { name := "ytdgamdjfcamnlaa", sum := "3adf5ab930d284bf1e33ca0f97600192f5a62931d043f15c1b7f03a915aa837c", checked := Try.checked }
namespace Rows
def none {H : Type} : Left H := { results := [], args := [] }

/-- 'tenancylaw33.DriftHolds': WHATEVER THE INPUT: true; the input reads as it did. -/
def driftHoldsSpec : ChangeSpec := { name := "driftHolds", fn := fun _ => fun
  | [d1, d2, d3] => { results := [.lit (.bool true)], args := [d1, d2, d3] }
  | _ => none }
def driftHoldsRow : OpenClaim := { program := "ytdgamdjfcamnlaa", sum := "3adf5ab930d284bf1e33ca0f97600192f5a62931d043f15c1b7f03a915aa837c", func := "tenancy/tenancylaw33.DriftHolds", spec := "driftHolds", unfollowed := true, recurses := true, apart := false }
def DriftHoldsSaid : Prop := driftHoldsRow.holds Try.pinned (OpenSpec.ofChange driftHoldsSpec)

/-- ITS FALSE NEIGHBOUR: 'it returns false'. Refute it at one input. -/
def driftHoldsWrong : ChangeSpec := { name := "driftHolds", fn := fun _ => fun
  | [d1, d2, d3] => { results := [.lit (.bool false)], args := [d1, d2, d3] }
  | _ => none }
def DriftHoldsWrongFalsely : Prop := driftHoldsRow.holds Try.pinned (OpenSpec.ofChange driftHoldsWrong)

/-- 'tenancylaw33.DriftGrows': WHATEVER THE INPUT: true; the input reads as it did. -/
def driftGrowsSpec : ChangeSpec := { name := "driftGrows", fn := fun _ => fun
  | [d1, d2, d3, d4] => { results := [.lit (.bool true)], args := [d1, d2, d3, d4] }
  | _ => none }
def driftGrowsRow : OpenClaim := { program := "ytdgamdjfcamnlaa", sum := "3adf5ab930d284bf1e33ca0f97600192f5a62931d043f15c1b7f03a915aa837c", func := "tenancy/tenancylaw33.DriftGrows", spec := "driftGrows", unfollowed := true, recurses := true, apart := false }
def DriftGrowsSaid : Prop := driftGrowsRow.holds Try.pinned (OpenSpec.ofChange driftGrowsSpec)

/-- ITS FALSE NEIGHBOUR: 'it returns false'. Refute it at one input. -/
def driftGrowsWrong : ChangeSpec := { name := "driftGrows", fn := fun _ => fun
  | [d1, d2, d3, d4] => { results := [.lit (.bool false)], args := [d1, d2, d3, d4] }
  | _ => none }
def DriftGrowsWrongFalsely : Prop := driftGrowsRow.holds Try.pinned (OpenSpec.ofChange driftGrowsWrong)

/-- 'tenancylaw33.DriftTurns': WHATEVER THE INPUT: true; the input reads as it did. -/
def driftTurnsSpec : ChangeSpec := { name := "driftTurns", fn := fun _ => fun
  | [d1, d2, d3] => { results := [.lit (.bool true)], args := [d1, d2, d3] }
  | _ => none }
def driftTurnsRow : OpenClaim := { program := "ytdgamdjfcamnlaa", sum := "3adf5ab930d284bf1e33ca0f97600192f5a62931d043f15c1b7f03a915aa837c", func := "tenancy/tenancylaw33.DriftTurns", spec := "driftTurns", unfollowed := true, recurses := true, apart := false }
def DriftTurnsSaid : Prop := driftTurnsRow.holds Try.pinned (OpenSpec.ofChange driftTurnsSpec)

/-- ITS FALSE NEIGHBOUR: 'it returns false'. Refute it at one input. -/
def driftTurnsWrong : ChangeSpec := { name := "driftTurns", fn := fun _ => fun
  | [d1, d2, d3] => { results := [.lit (.bool false)], args := [d1, d2, d3] }
  | _ => none }
def DriftTurnsWrongFalsely : Prop := driftTurnsRow.holds Try.pinned (OpenSpec.ofChange driftTurnsWrong)

/-- 'tenancylaw33.DriftKeeps': WHATEVER THE INPUT: true; the input reads as it did. -/
def driftKeepsSpec : ChangeSpec := { name := "driftKeeps", fn := fun _ => fun
  | [d1, d2, d3] => { results := [.lit (.bool true)], args := [d1, d2, d3] }
  | _ => none }
def driftKeepsRow : OpenClaim := { program := "ytdgamdjfcamnlaa", sum := "3adf5ab930d284bf1e33ca0f97600192f5a62931d043f15c1b7f03a915aa837c", func := "tenancy/tenancylaw33.DriftKeeps", spec := "driftKeeps", unfollowed := true, recurses := true, apart := false }
def DriftKeepsSaid : Prop := driftKeepsRow.holds Try.pinned (OpenSpec.ofChange driftKeepsSpec)

/-- ITS FALSE NEIGHBOUR: 'it returns false'. Refute it at one input. -/
def driftKeepsWrong : ChangeSpec := { name := "driftKeeps", fn := fun _ => fun
  | [d1, d2, d3] => { results := [.lit (.bool false)], args := [d1, d2, d3] }
  | _ => none }
def DriftKeepsWrongFalsely : Prop := driftKeepsRow.holds Try.pinned (OpenSpec.ofChange driftKeepsWrong)

/- THE SECOND FORM. 'bulk': how many values and letters a reading holds, each counted each time it is reached (what is shared counts as often as it is met; a slice's spare places count too). A statement '..UptoSaid' is the law's where the arguments, and the package variables that the reading takes, are together of bulk at most 1048576: NARROWER than '..Said'. Prove '..Said' where nothing that the law and all that it calls make is longer than what came in: it says more and counts as full. Else prove '..UptoSaid'. A law counts once. -/
mutual
def uptoBulk {H : Type} : DataW H → Nat
  | .lit (.string bytes) => bytes.length + 1
  | .lit _ => 1
  | .nil => 1
  | .ptr d => uptoBulk d + 1
  | .slice elems spare => uptoBulkAll elems + uptoBulkAll spare + 1
  | .agg parts => uptoBulkAll parts + 1
  | .iface _ d => uptoBulk d + 1
  | .map entries => uptoBulkEntries entries + 1
  | .held _ => 1
def uptoBulkAll {H : Type} : List (DataW H) → Nat
  | [] => 0
  | d :: r => uptoBulk d + uptoBulkAll r
def uptoBulkEntries {H : Type} : List (Lit × DataW H) → Nat
  | [] => 0
  | x :: r => uptoBulkEntry x + uptoBulkEntries r
def uptoBulkEntry {H : Type} : Lit × DataW H → Nat
  | (.string bytes, d) => bytes.length + uptoBulk d + 1
  | (_, d) => uptoBulk d + 1
 end
def uptoSmall : (H : Type) → List (DataW H) → Bool := fun _ ds => decide (uptoBulkAll ds ≤ 1048576)
def OpenSpec.upto (s : _root_.Go.ChangeSpec) : _root_.Go.OpenSpec := { _root_.Go.OpenSpec.ofChange s with cond := some uptoSmall }

/-- 'tenancylaw33.DriftHolds', WHERE WHAT IT READS IS OF BULK AT MOST 1048576: true; the input reads as it did. -/
def driftHoldsUptoRow : OpenClaim := { program := "ytdgamdjfcamnlaa", sum := "3adf5ab930d284bf1e33ca0f97600192f5a62931d043f15c1b7f03a915aa837c", func := "tenancy/tenancylaw33.DriftHolds", spec := "driftHolds", unfollowed := true, recurses := true, apart := false, narrowed := true }
def DriftHoldsUptoSaid : Prop := driftHoldsUptoRow.holds Try.pinned (OpenSpec.upto driftHoldsSpec)

/-- 'tenancylaw33.DriftGrows', WHERE WHAT IT READS IS OF BULK AT MOST 1048576: true; the input reads as it did. -/
def driftGrowsUptoRow : OpenClaim := { program := "ytdgamdjfcamnlaa", sum := "3adf5ab930d284bf1e33ca0f97600192f5a62931d043f15c1b7f03a915aa837c", func := "tenancy/tenancylaw33.DriftGrows", spec := "driftGrows", unfollowed := true, recurses := true, apart := false, narrowed := true }
def DriftGrowsUptoSaid : Prop := driftGrowsUptoRow.holds Try.pinned (OpenSpec.upto driftGrowsSpec)

/-- 'tenancylaw33.DriftTurns', WHERE WHAT IT READS IS OF BULK AT MOST 1048576: true; the input reads as it did. -/
def driftTurnsUptoRow : OpenClaim := { program := "ytdgamdjfcamnlaa", sum := "3adf5ab930d284bf1e33ca0f97600192f5a62931d043f15c1b7f03a915aa837c", func := "tenancy/tenancylaw33.DriftTurns", spec := "driftTurns", unfollowed := true, recurses := true, apart := false, narrowed := true }
def DriftTurnsUptoSaid : Prop := driftTurnsUptoRow.holds Try.pinned (OpenSpec.upto driftTurnsSpec)

/-- 'tenancylaw33.DriftKeeps', WHERE WHAT IT READS IS OF BULK AT MOST 1048576: true; the input reads as it did. -/
def driftKeepsUptoRow : OpenClaim := { program := "ytdgamdjfcamnlaa", sum := "3adf5ab930d284bf1e33ca0f97600192f5a62931d043f15c1b7f03a915aa837c", func := "tenancy/tenancylaw33.DriftKeeps", spec := "driftKeeps", unfollowed := true, recurses := true, apart := false, narrowed := true }
def DriftKeepsUptoSaid : Prop := driftKeepsUptoRow.holds Try.pinned (OpenSpec.upto driftKeepsSpec)

end Rows
end Go.Proofs.Ytdgamdjfcamnlaa
