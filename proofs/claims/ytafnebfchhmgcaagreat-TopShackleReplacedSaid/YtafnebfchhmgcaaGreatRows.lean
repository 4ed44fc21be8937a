/-
  No cell of these rows narrows 'for every input' (looked for: loops, veiled, ifaces, maps, wideKeys, modest, calm, conditions, laid).
  DERIVED. THE GIVEN ROWS OF THIS SEAT. 3 by the template 'for every input the law returns true; each argument reads behind the call as it read before'; 0 by the template 'total and deterministic' (their statements: YtafnebfchhmgcaaGreatTotals.lean).
  GIVEN WITH THE SEED: the statements are not yours to turn. If you find one false, say at which input.
  Laid BY PROGRAM, IN A SANDBOX (cutbox-rows.mjs): the forced cells as the released guide's own fill.sh prints them over the translation f33e181b17a6f479… (all of the seat's roots in one cut). By AI agents, Wed Nov 11 2026. No macro, syntax, notation, axiom, sorry.
-/
import Derived.Test.YtafnebfchhmgcaaGreatChecked
import GoSem.Claim
import GoSem.ClaimJoined
import GoSem.ClaimMapViews
import Derived.JoinedTies
import Derived.KernelRfl
namespace Go.Proofs.YtafnebfchhmgcaaGreat
/- THE CELL 'sum', in the pinned program and in every row, IS THE sha256 OF THE DUMP (.gsa) THAT YtafnebfchhmgcaaGreatProg.lean LOADS. Nothing in Lean hashes anything: it is a label: what it is worth is what the hold of that sum in a sandbox is worth. -/
noncomputable def Tryz.pinned : Pinned := { name := "ytafnebfchhmgcaagreat", sum := "f33e181b17a6f4796a44a504e97d75b817bd3775d2c26d7a822f9c3240f59b07", checked := Tryz.checked }
namespace Rows
def none {H : Type} : Left H := { results := [], args := [] }

/-- 'bipoletop.TopClampRecorded': WHATEVER THE INPUT: true; the input reads as it did. -/
def topClampRecordedSpec : ChangeSpec := { name := "topClampRecorded", fn := fun _ => fun
  | [d1, d2] => { results := [.lit (.bool true)], args := [d1, d2] }
  | _ => none }
def topClampRecordedRow : OpenClaim := { program := "ytafnebfchhmgcaagreat", sum := "f33e181b17a6f4796a44a504e97d75b817bd3775d2c26d7a822f9c3240f59b07", func := "bipole/bipoletop.TopClampRecorded", spec := "topClampRecorded", inPlace := ["math.Float32bits", "math.Float32frombits", "math.Float64bits", "math.Float64frombits", "math.archFloor", "math.archTrunc"], unfollowed := true, recurses := true, apart := false }
def TopClampRecordedSaid : Prop := topClampRecordedRow.holds Tryz.pinned (OpenSpec.ofChange topClampRecordedSpec)

/-- ITS FALSE NEIGHBOUR: 'it returns false'. Refute it at one input. -/
def topClampRecordedWrong : ChangeSpec := { name := "topClampRecorded", fn := fun _ => fun
  | [d1, d2] => { results := [.lit (.bool false)], args := [d1, d2] }
  | _ => none }
def TopClampRecordedWrongFalsely : Prop := topClampRecordedRow.holds Tryz.pinned (OpenSpec.ofChange topClampRecordedWrong)

/-- 'bipoletop.TopClampSent': WHATEVER THE INPUT: true; the input reads as it did. -/
def topClampSentSpec : ChangeSpec := { name := "topClampSent", fn := fun _ => fun
  | [d1, d2, d3] => { results := [.lit (.bool true)], args := [d1, d2, d3] }
  | _ => none }
def topClampSentRow : OpenClaim := { program := "ytafnebfchhmgcaagreat", sum := "f33e181b17a6f4796a44a504e97d75b817bd3775d2c26d7a822f9c3240f59b07", func := "bipole/bipoletop.TopClampSent", spec := "topClampSent", inPlace := ["math.Float32bits", "math.Float32frombits"], unfollowed := true, recurses := true, apart := false }
def TopClampSentSaid : Prop := topClampSentRow.holds Tryz.pinned (OpenSpec.ofChange topClampSentSpec)

/-- ITS FALSE NEIGHBOUR: 'it returns false'. Refute it at one input. -/
def topClampSentWrong : ChangeSpec := { name := "topClampSent", fn := fun _ => fun
  | [d1, d2, d3] => { results := [.lit (.bool false)], args := [d1, d2, d3] }
  | _ => none }
def TopClampSentWrongFalsely : Prop := topClampSentRow.holds Tryz.pinned (OpenSpec.ofChange topClampSentWrong)

/-- 'bipoletop.TopShackleReplaced': WHATEVER THE INPUT: true; the input reads as it did. -/
def topShackleReplacedSpec : ChangeSpec := { name := "topShackleReplaced", fn := fun _ => fun
  | [d1, d2, d3] => { results := [.lit (.bool true)], args := [d1, d2, d3] }
  | _ => none }
def topShackleReplacedRow : OpenClaim := { program := "ytafnebfchhmgcaagreat", sum := "f33e181b17a6f4796a44a504e97d75b817bd3775d2c26d7a822f9c3240f59b07", func := "bipole/bipoletop.TopShackleReplaced", spec := "topShackleReplaced", unfollowed := true, recurses := true, apart := false }
def TopShackleReplacedSaid : Prop := topShackleReplacedRow.holds Tryz.pinned (OpenSpec.ofChange topShackleReplacedSpec)

/-- ITS FALSE NEIGHBOUR: 'it returns false'. Refute it at one input. -/
def topShackleReplacedWrong : ChangeSpec := { name := "topShackleReplaced", fn := fun _ => fun
  | [d1, d2, d3] => { results := [.lit (.bool false)], args := [d1, d2, d3] }
  | _ => none }
def TopShackleReplacedWrongFalsely : Prop := topShackleReplacedRow.holds Tryz.pinned (OpenSpec.ofChange topShackleReplacedWrong)

/- THE SECOND FORM. 'bulk': how many values and letters a reading holds, each counted each time it is reached (what is shared counts as often as it is met; a slice's spare places count too). A statement '..UptoSaid' is the law's where the arguments, and the package variables that the reading takes, are together of bulk at most 1048576: NARROWER than '..Said'. Prove '..Said' where nothing that the law and all that it calls make is longer than what came in: it says more and counts as full. Else prove '..UptoSaid'. A law counts once. -/
mutual
def uptoBulk {H : Type} : DataW H → Nat
  | .lit (.string bytes) => bytes.length + 1
  | .lit _ => 1
  | .nil => 1
  | .ptr d => uptoBulk d + 1
  | .slice elems spare => uptoBulkAll elems + uptoBulkAll spare + 1
  | .agg parts => uptoBulkAll parts + 1
  | .iface _ d => uptoBulk d + 1
  | .map entries => uptoBulkEntries entries + 1
  | .held _ => 1
def uptoBulkAll {H : Type} : List (DataW H) → Nat
  | [] => 0
  | d :: r => uptoBulk d + uptoBulkAll r
def uptoBulkEntries {H : Type} : List (Lit × DataW H) → Nat
  | [] => 0
  | x :: r => uptoBulkEntry x + uptoBulkEntries r
def uptoBulkEntry {H : Type} : Lit × DataW H → Nat
  | (.string bytes, d) => bytes.length + uptoBulk d + 1
  | (_, d) => uptoBulk d + 1
 end
def uptoSmall : (H : Type) → List (DataW H) → Bool := fun _ ds => decide (uptoBulkAll ds ≤ 1048576)
def OpenSpec.upto (s : _root_.Go.ChangeSpec) : _root_.Go.OpenSpec := { _root_.Go.OpenSpec.ofChange s with cond := some uptoSmall }

/-- 'bipoletop.TopClampRecorded', WHERE WHAT IT READS IS OF BULK AT MOST 1048576: true; the input reads as it did. -/
def topClampRecordedUptoRow : OpenClaim := { program := "ytafnebfchhmgcaagreat", sum := "f33e181b17a6f4796a44a504e97d75b817bd3775d2c26d7a822f9c3240f59b07", func := "bipole/bipoletop.TopClampRecorded", spec := "topClampRecorded", inPlace := ["math.Float32bits", "math.Float32frombits", "math.Float64bits", "math.Float64frombits", "math.archFloor", "math.archTrunc"], unfollowed := true, recurses := true, apart := false, narrowed := true }
def TopClampRecordedUptoSaid : Prop := topClampRecordedUptoRow.holds Tryz.pinned (OpenSpec.upto topClampRecordedSpec)

/-- 'bipoletop.TopClampSent', WHERE WHAT IT READS IS OF BULK AT MOST 1048576: true; the input reads as it did. -/
def topClampSentUptoRow : OpenClaim := { program := "ytafnebfchhmgcaagreat", sum := "f33e181b17a6f4796a44a504e97d75b817bd3775d2c26d7a822f9c3240f59b07", func := "bipole/bipoletop.TopClampSent", spec := "topClampSent", inPlace := ["math.Float32bits", "math.Float32frombits"], unfollowed := true, recurses := true, apart := false, narrowed := true }
def TopClampSentUptoSaid : Prop := topClampSentUptoRow.holds Tryz.pinned (OpenSpec.upto topClampSentSpec)

/-- 'bipoletop.TopShackleReplaced', WHERE WHAT IT READS IS OF BULK AT MOST 1048576: true; the input reads as it did. -/
def topShackleReplacedUptoRow : OpenClaim := { program := "ytafnebfchhmgcaagreat", sum := "f33e181b17a6f4796a44a504e97d75b817bd3775d2c26d7a822f9c3240f59b07", func := "bipole/bipoletop.TopShackleReplaced", spec := "topShackleReplaced", unfollowed := true, recurses := true, apart := false, narrowed := true }
def TopShackleReplacedUptoSaid : Prop := topShackleReplacedUptoRow.holds Tryz.pinned (OpenSpec.upto topShackleReplacedSpec)

end Rows
end Go.Proofs.YtafnebfchhmgcaaGreat
