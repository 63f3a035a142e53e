/-
  No cell of these rows narrows 'for every input' (looked for: loops, veiled, ifaces, maps, wideKeys, modest, calm, conditions, laid).
  DERIVED. THE GIVEN ROWS OF THIS SEAT. 3 by the template 'for every input the law returns true; each argument reads behind the call as it read before'; 0 by the template 'total and deterministic' (their statements: YtoiabaienhchjaaTotals.lean).
  GIVEN WITH THE SEED: the statements are not yours to turn. If you find one false, say at which input.
  Laid BY PROGRAM, IN A SANDBOX (cutbox-rows.mjs): the forced cells as the released guide's own fill.sh prints them over the translation 0ccd12199d706d35… (all of the seat's roots in one cut). By AI agents, Wed Nov 11 2026. No macro, syntax, notation, axiom, sorry.
-/
import Derived.Test.YtoiabaienhchjaaChecked
import GoSem.Claim
import GoSem.ClaimJoined
import GoSem.ClaimMapViews
import Derived.JoinedTies
import Derived.KernelRfl
namespace Go.Proofs.Ytoiabaienhchjaa
/- THE CELL 'sum', in the pinned program and in every row, IS THE sha256 OF THE DUMP (.gsa) THAT YtoiabaienhchjaaProg.lean LOADS. Nothing in Lean hashes anything: it is a label: what it is worth is what the hold of that sum in a sandbox is worth. -/
noncomputable def Try.pinned : Pinned := { name := "ytoiabaienhchjaa", sum := "0ccd12199d706d35ddd09c051b6174646fbaa087256d7eff99a3f6310b87967f", checked := Try.checked }
namespace Rows
def none {H : Type} : Left H := { results := [], args := [] }

/-- 'tenancylaw13.ClockSpares': WHATEVER THE INPUT: true; the input reads as it did. -/
def clockSparesSpec : ChangeSpec := { name := "clockSpares", fn := fun _ => fun
  | [d1, d2] => { results := [.lit (.bool true)], args := [d1, d2] }
  | _ => none }
def clockSparesRow : OpenClaim := { program := "ytoiabaienhchjaa", sum := "0ccd12199d706d35ddd09c051b6174646fbaa087256d7eff99a3f6310b87967f", func := "tenancy/tenancylaw13.ClockSpares", spec := "clockSpares", apart := false }
def ClockSparesSaid : Prop := clockSparesRow.holds Try.pinned (OpenSpec.ofChange clockSparesSpec)

/-- ITS FALSE NEIGHBOUR: 'it returns false'. Refute it at one input. -/
def clockSparesWrong : ChangeSpec := { name := "clockSpares", fn := fun _ => fun
  | [d1, d2] => { results := [.lit (.bool false)], args := [d1, d2] }
  | _ => none }
def ClockSparesWrongFalsely : Prop := clockSparesRow.holds Try.pinned (OpenSpec.ofChange clockSparesWrong)

/-- 'tenancylaw13.ClockPlays': WHATEVER THE INPUT: true; the input reads as it did. -/
def clockPlaysSpec : ChangeSpec := { name := "clockPlays", fn := fun _ => fun
  | [d1, d2] => { results := [.lit (.bool true)], args := [d1, d2] }
  | _ => none }
def clockPlaysRow : OpenClaim := { program := "ytoiabaienhchjaa", sum := "0ccd12199d706d35ddd09c051b6174646fbaa087256d7eff99a3f6310b87967f", func := "tenancy/tenancylaw13.ClockPlays", spec := "clockPlays", apart := false }
def ClockPlaysSaid : Prop := clockPlaysRow.holds Try.pinned (OpenSpec.ofChange clockPlaysSpec)

/-- ITS FALSE NEIGHBOUR: 'it returns false'. Refute it at one input. -/
def clockPlaysWrong : ChangeSpec := { name := "clockPlays", fn := fun _ => fun
  | [d1, d2] => { results := [.lit (.bool false)], args := [d1, d2] }
  | _ => none }
def ClockPlaysWrongFalsely : Prop := clockPlaysRow.holds Try.pinned (OpenSpec.ofChange clockPlaysWrong)

/-- 'tenancylaw13.ClockNobody': WHATEVER THE INPUT: true; the input reads as it did. -/
def clockNobodySpec : ChangeSpec := { name := "clockNobody", fn := fun _ => fun
  | [d] => { results := [.lit (.bool true)], args := [d] }
  | _ => none }
def clockNobodyRow : OpenClaim := { program := "ytoiabaienhchjaa", sum := "0ccd12199d706d35ddd09c051b6174646fbaa087256d7eff99a3f6310b87967f", func := "tenancy/tenancylaw13.ClockNobody", spec := "clockNobody", apart := false }
def ClockNobodySaid : Prop := clockNobodyRow.holds Try.pinned (OpenSpec.ofChange clockNobodySpec)

/-- ITS FALSE NEIGHBOUR: 'it returns false'. Refute it at one input. -/
def clockNobodyWrong : ChangeSpec := { name := "clockNobody", fn := fun _ => fun
  | [d] => { results := [.lit (.bool false)], args := [d] }
  | _ => none }
def ClockNobodyWrongFalsely : Prop := clockNobodyRow.holds Try.pinned (OpenSpec.ofChange clockNobodyWrong)

/- THE SECOND FORM. 'bulk': how many values and letters a reading holds, each counted each time it is reached (what is shared counts as often as it is met; a slice's spare places count too). A statement '..UptoSaid' is the law's where the arguments, and the package variables that the reading takes, are together of bulk at most 1048576: NARROWER than '..Said'. Prove '..Said' where nothing that the law and all that it calls make is longer than what came in: it says more and counts as full. Else prove '..UptoSaid'. A law counts once. -/
mutual
def uptoBulk {H : Type} : DataW H → Nat
  | .lit (.string bytes) => bytes.length + 1
  | .lit _ => 1
  | .nil => 1
  | .ptr d => uptoBulk d + 1
  | .slice elems spare => uptoBulkAll elems + uptoBulkAll spare + 1
  | .agg parts => uptoBulkAll parts + 1
  | .iface _ d => uptoBulk d + 1
  | .map entries => uptoBulkEntries entries + 1
  | .held _ => 1
def uptoBulkAll {H : Type} : List (DataW H) → Nat
  | [] => 0
  | d :: r => uptoBulk d + uptoBulkAll r
def uptoBulkEntries {H : Type} : List (Lit × DataW H) → Nat
  | [] => 0
  | x :: r => uptoBulkEntry x + uptoBulkEntries r
def uptoBulkEntry {H : Type} : Lit × DataW H → Nat
  | (.string bytes, d) => bytes.length + uptoBulk d + 1
  | (_, d) => uptoBulk d + 1
 end
def uptoSmall : (H : Type) → List (DataW H) → Bool := fun _ ds => decide (uptoBulkAll ds ≤ 1048576)
def OpenSpec.upto (s : _root_.Go.ChangeSpec) : _root_.Go.OpenSpec := { _root_.Go.OpenSpec.ofChange s with cond := some uptoSmall }

/-- 'tenancylaw13.ClockSpares', WHERE WHAT IT READS IS OF BULK AT MOST 1048576: true; the input reads as it did. -/
def clockSparesUptoRow : OpenClaim := { program := "ytoiabaienhchjaa", sum := "0ccd12199d706d35ddd09c051b6174646fbaa087256d7eff99a3f6310b87967f", func := "tenancy/tenancylaw13.ClockSpares", spec := "clockSpares", apart := false, narrowed := true }
def ClockSparesUptoSaid : Prop := clockSparesUptoRow.holds Try.pinned (OpenSpec.upto clockSparesSpec)

/-- 'tenancylaw13.ClockPlays', WHERE WHAT IT READS IS OF BULK AT MOST 1048576: true; the input reads as it did. -/
def clockPlaysUptoRow : OpenClaim := { program := "ytoiabaienhchjaa", sum := "0ccd12199d706d35ddd09c051b6174646fbaa087256d7eff99a3f6310b87967f", func := "tenancy/tenancylaw13.ClockPlays", spec := "clockPlays", apart := false, narrowed := true }
def ClockPlaysUptoSaid : Prop := clockPlaysUptoRow.holds Try.pinned (OpenSpec.upto clockPlaysSpec)

/-- 'tenancylaw13.ClockNobody', WHERE WHAT IT READS IS OF BULK AT MOST 1048576: true; the input reads as it did. -/
def clockNobodyUptoRow : OpenClaim := { program := "ytoiabaienhchjaa", sum := "0ccd12199d706d35ddd09c051b6174646fbaa087256d7eff99a3f6310b87967f", func := "tenancy/tenancylaw13.ClockNobody", spec := "clockNobody", apart := false, narrowed := true }
def ClockNobodyUptoSaid : Prop := clockNobodyUptoRow.holds Try.pinned (OpenSpec.upto clockNobodySpec)

end Rows
end Go.Proofs.Ytoiabaienhchjaa
