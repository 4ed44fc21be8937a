/-
  NARROWER THAN 'FOR EVERY INPUT', by the rows' own cells (each row's printed sentence says how): PermitBarriers: laid · PermitYards: laid · PermitIslands: laid · PermitStates: laid · PermitOrders: laid · PermitMoves: laid · PermitReaches: laid · PermitActs: laid · PermitNever: laid · PermitTexts: laid · PermitBack: laid.
  DERIVED. THE GIVEN ROWS OF THIS SEAT. 11 by the template 'for every input the law returns true; each argument reads behind the call as it read before'; 0 by the template 'total and deterministic' (their statements: YtphlojgmfkgeiaaGreatDoorTotals.lean).
  GIVEN WITH THE SEED: the statements are not yours to turn. If you find one false, say at which input.
  Laid BY PROGRAM, IN A SANDBOX (cutbox-rows.mjs): the forced cells as the released guide's own fill.sh prints them over the translation f5b0b354f2664168… (all of the seat's roots in one cut). By AI agents, Wed Nov 11 2026. No macro, syntax, notation, axiom, sorry.
-/
import Derived.Test.YtphlojgmfkgeiaaGreatDoorChecked
import GoSem.PinnedTables
import GoSem.Claim
import GoSem.ClaimJoined
import GoSem.ClaimMapViews
import Derived.JoinedTies
import Derived.KernelRfl
namespace Go.Proofs.YtphlojgmfkgeiaaGreatDoor
/- THE CELL 'sum', in the pinned program and in every row, IS THE sha256 OF THE DUMP (.gsa) THAT YtphlojgmfkgeiaaGreatDoorProg.lean LOADS. Nothing in Lean hashes anything: it is a label: what it is worth is what the hold of that sum in a sandbox is worth. -/
noncomputable def Tryz.pinned : Pinned := { name := "ytphlojgmfkgeiaagreatdoor", sum := "f5b0b354f26641681bfc43e9c761d86541f402eed86911e0d98065329f774146", checked := Tryz.checked }
namespace Rows
def none {H : Type} : Left H := { results := [], args := [] }

/- WHAT THE LISTED PACKAGE-LEVEL VARIABLES READ AS WHEN THE CALL BEGINS. Each datum BY PROGRAM (the guide's laid-datum.mjs) off the statement by which the dump's own 'gosem.cut.vars' lays the variable. In a bare row this is a premise. The card (YtphlojgmfkgeiaaGreatDoorCards.lean) ties it to the program's text. -/
def laid_bipole_permit_goals {H : Type} : DataW H := .agg [.lit (.string [101, 110, 101, 114, 103, 105, 122, 101, 100]), .lit (.string [100, 101, 97, 100]), .lit (.string [115, 101, 99, 117, 114, 101, 100])]
def laid_bipole_permit_kinds {H : Type} : DataW H := .agg [.lit (.string [98, 114, 101, 97, 107, 101, 114]), .lit (.string [105, 115, 111, 108, 97, 116, 111, 114]), .lit (.string [101, 97, 114, 116, 104])]
def laid_unicode_utf8_acceptRanges {H : Type} : DataW H := .agg [.agg [.lit (.int .u8 128), .lit (.int .u8 191)], .agg [.lit (.int .u8 160), .lit (.int .u8 191)], .agg [.lit (.int .u8 128), .lit (.int .u8 159)], .agg [.lit (.int .u8 144), .lit (.int .u8 191)], .agg [.lit (.int .u8 128), .lit (.int .u8 143)], .agg [.lit (.int .u8 0), .lit (.int .u8 0)], .agg [.lit (.int .u8 0), .lit (.int .u8 0)], .agg [.lit (.int .u8 0), .lit (.int .u8 0)], .agg [.lit (.int .u8 0), .lit (.int .u8 0)], .agg [.lit (.int .u8 0), .lit (.int .u8 0)], .agg [.lit (.int .u8 0), .lit (.int .u8 0)], .agg [.lit (.int .u8 0), .lit (.int .u8 0)], .agg [.lit (.int .u8 0), .lit (.int .u8 0)], .agg [.lit (.int .u8 0), .lit (.int .u8 0)], .agg [.lit (.int .u8 0), .lit (.int .u8 0)], .agg [.lit (.int .u8 0), .lit (.int .u8 0)]]
/-- One of Go's own tables, pinned by name: the form's constant. -/
def laid_unicode_utf8_first : DataW Unit := Go.Pinned.utf8First

/-- 'bipolelaw09.PermitBarriers': WHATEVER THE INPUT: true; the input reads as it did. -/
def permitBarriersSpec : ChangeSpec := { name := "permitBarriers", fn := fun _ => fun
  | [d1, d2, d3] => { results := [.lit (.bool true)], args := [d1, d2, d3] }
  | _ => none }
def permitBarriersRow : OpenClaim := { program := "ytphlojgmfkgeiaagreatdoor", sum := "f5b0b354f26641681bfc43e9c761d86541f402eed86911e0d98065329f774146", func := "bipole/bipolelaw09.PermitBarriers", spec := "permitBarriers", inPlace := ["internal/abi.NoEscape", "internal/bytealg.MakeNoZero"], unfollowed := true, recurses := true, named := ["bipole/permit.kinds", "bipole/permit.goals"], apart := false, laid := [("bipole/permit.goals", laid_bipole_permit_goals), ("bipole/permit.kinds", laid_bipole_permit_kinds)] }
def PermitBarriersSaid : Prop := permitBarriersRow.holds Tryz.pinned (OpenSpec.ofChange permitBarriersSpec)

/-- ITS FALSE NEIGHBOUR: 'it returns false'. Refute it at one input. -/
def permitBarriersWrong : ChangeSpec := { name := "permitBarriers", fn := fun _ => fun
  | [d1, d2, d3] => { results := [.lit (.bool false)], args := [d1, d2, d3] }
  | _ => none }
def PermitBarriersWrongFalsely : Prop := permitBarriersRow.holds Tryz.pinned (OpenSpec.ofChange permitBarriersWrong)

/-- 'bipolelaw09.PermitYards': WHATEVER THE INPUT: true; the input reads as it did. -/
def permitYardsSpec : ChangeSpec := { name := "permitYards", fn := fun _ => fun
  | [d] => { results := [.lit (.bool true)], args := [d] }
  | _ => none }
def permitYardsRow : OpenClaim := { program := "ytphlojgmfkgeiaagreatdoor", sum := "f5b0b354f26641681bfc43e9c761d86541f402eed86911e0d98065329f774146", func := "bipole/bipolelaw09.PermitYards", spec := "permitYards", inPlace := ["internal/abi.NoEscape", "internal/bytealg.MakeNoZero"], unfollowed := true, recurses := true, named := ["bipole/permit.kinds", "bipole/permit.goals"], apart := false, laid := [("bipole/permit.goals", laid_bipole_permit_goals), ("bipole/permit.kinds", laid_bipole_permit_kinds)] }
def PermitYardsSaid : Prop := permitYardsRow.holds Tryz.pinned (OpenSpec.ofChange permitYardsSpec)

/-- ITS FALSE NEIGHBOUR: 'it returns false'. Refute it at one input. -/
def permitYardsWrong : ChangeSpec := { name := "permitYards", fn := fun _ => fun
  | [d] => { results := [.lit (.bool false)], args := [d] }
  | _ => none }
def PermitYardsWrongFalsely : Prop := permitYardsRow.holds Tryz.pinned (OpenSpec.ofChange permitYardsWrong)

/-- 'bipolelaw09.PermitIslands': WHATEVER THE INPUT: true; the input reads as it did. -/
def permitIslandsSpec : ChangeSpec := { name := "permitIslands", fn := fun _ => fun
  | [d] => { results := [.lit (.bool true)], args := [d] }
  | _ => none }
def permitIslandsRow : OpenClaim := { program := "ytphlojgmfkgeiaagreatdoor", sum := "f5b0b354f26641681bfc43e9c761d86541f402eed86911e0d98065329f774146", func := "bipole/bipolelaw09.PermitIslands", spec := "permitIslands", inPlace := ["internal/abi.NoEscape", "internal/bytealg.MakeNoZero"], unfollowed := true, recurses := true, named := ["bipole/permit.kinds", "bipole/permit.goals"], apart := false, laid := [("bipole/permit.goals", laid_bipole_permit_goals), ("bipole/permit.kinds", laid_bipole_permit_kinds)] }
def PermitIslandsSaid : Prop := permitIslandsRow.holds Tryz.pinned (OpenSpec.ofChange permitIslandsSpec)

/-- ITS FALSE NEIGHBOUR: 'it returns false'. Refute it at one input. -/
def permitIslandsWrong : ChangeSpec := { name := "permitIslands", fn := fun _ => fun
  | [d] => { results := [.lit (.bool false)], args := [d] }
  | _ => none }
def PermitIslandsWrongFalsely : Prop := permitIslandsRow.holds Tryz.pinned (OpenSpec.ofChange permitIslandsWrong)

/-- 'bipolelaw09.PermitStates': WHATEVER THE INPUT: true; the input reads as it did. -/
def permitStatesSpec : ChangeSpec := { name := "permitStates", fn := fun _ => fun
  | [d1, d2] => { results := [.lit (.bool true)], args := [d1, d2] }
  | _ => none }
def permitStatesRow : OpenClaim := { program := "ytphlojgmfkgeiaagreatdoor", sum := "f5b0b354f26641681bfc43e9c761d86541f402eed86911e0d98065329f774146", func := "bipole/bipolelaw09.PermitStates", spec := "permitStates", inPlace := ["internal/abi.NoEscape", "internal/bytealg.MakeNoZero"], unfollowed := true, recurses := true, named := ["bipole/permit.kinds", "bipole/permit.goals"], apart := false, laid := [("bipole/permit.goals", laid_bipole_permit_goals), ("bipole/permit.kinds", laid_bipole_permit_kinds)] }
def PermitStatesSaid : Prop := permitStatesRow.holds Tryz.pinned (OpenSpec.ofChange permitStatesSpec)

/-- ITS FALSE NEIGHBOUR: 'it returns false'. Refute it at one input. -/
def permitStatesWrong : ChangeSpec := { name := "permitStates", fn := fun _ => fun
  | [d1, d2] => { results := [.lit (.bool false)], args := [d1, d2] }
  | _ => none }
def PermitStatesWrongFalsely : Prop := permitStatesRow.holds Tryz.pinned (OpenSpec.ofChange permitStatesWrong)

/-- 'bipolelaw09.PermitOrders': WHATEVER THE INPUT: true; the input reads as it did. -/
def permitOrdersSpec : ChangeSpec := { name := "permitOrders", fn := fun _ => fun
  | [d1, d2, d3] => { results := [.lit (.bool true)], args := [d1, d2, d3] }
  | _ => none }
def permitOrdersRow : OpenClaim := { program := "ytphlojgmfkgeiaagreatdoor", sum := "f5b0b354f26641681bfc43e9c761d86541f402eed86911e0d98065329f774146", func := "bipole/bipolelaw09.PermitOrders", spec := "permitOrders", inPlace := ["internal/abi.NoEscape", "internal/bytealg.MakeNoZero"], unfollowed := true, recurses := true, named := ["bipole/permit.kinds", "bipole/permit.goals"], apart := false, laid := [("bipole/permit.goals", laid_bipole_permit_goals), ("bipole/permit.kinds", laid_bipole_permit_kinds)] }
def PermitOrdersSaid : Prop := permitOrdersRow.holds Tryz.pinned (OpenSpec.ofChange permitOrdersSpec)

/-- ITS FALSE NEIGHBOUR: 'it returns false'. Refute it at one input. -/
def permitOrdersWrong : ChangeSpec := { name := "permitOrders", fn := fun _ => fun
  | [d1, d2, d3] => { results := [.lit (.bool false)], args := [d1, d2, d3] }
  | _ => none }
def PermitOrdersWrongFalsely : Prop := permitOrdersRow.holds Tryz.pinned (OpenSpec.ofChange permitOrdersWrong)

/-- 'bipolelaw09.PermitMoves': WHATEVER THE INPUT: true; the input reads as it did. -/
def permitMovesSpec : ChangeSpec := { name := "permitMoves", fn := fun _ => fun
  | [d1, d2] => { results := [.lit (.bool true)], args := [d1, d2] }
  | _ => none }
def permitMovesRow : OpenClaim := { program := "ytphlojgmfkgeiaagreatdoor", sum := "f5b0b354f26641681bfc43e9c761d86541f402eed86911e0d98065329f774146", func := "bipole/bipolelaw09.PermitMoves", spec := "permitMoves", inPlace := ["internal/abi.NoEscape", "internal/bytealg.MakeNoZero"], unfollowed := true, recurses := true, named := ["bipole/permit.kinds", "bipole/permit.goals"], apart := false, laid := [("bipole/permit.goals", laid_bipole_permit_goals), ("bipole/permit.kinds", laid_bipole_permit_kinds)] }
def PermitMovesSaid : Prop := permitMovesRow.holds Tryz.pinned (OpenSpec.ofChange permitMovesSpec)

/-- ITS FALSE NEIGHBOUR: 'it returns false'. Refute it at one input. -/
def permitMovesWrong : ChangeSpec := { name := "permitMoves", fn := fun _ => fun
  | [d1, d2] => { results := [.lit (.bool false)], args := [d1, d2] }
  | _ => none }
def PermitMovesWrongFalsely : Prop := permitMovesRow.holds Tryz.pinned (OpenSpec.ofChange permitMovesWrong)

/-- 'bipolelaw09.PermitReaches': WHATEVER THE INPUT: true; the input reads as it did. -/
def permitReachesSpec : ChangeSpec := { name := "permitReaches", fn := fun _ => fun
  | [d1, d2, d3] => { results := [.lit (.bool true)], args := [d1, d2, d3] }
  | _ => none }
def permitReachesRow : OpenClaim := { program := "ytphlojgmfkgeiaagreatdoor", sum := "f5b0b354f26641681bfc43e9c761d86541f402eed86911e0d98065329f774146", func := "bipole/bipolelaw09.PermitReaches", spec := "permitReaches", inPlace := ["internal/abi.NoEscape", "internal/bytealg.MakeNoZero"], unfollowed := true, recurses := true, named := ["bipole/permit.kinds", "bipole/permit.goals"], apart := false, laid := [("bipole/permit.goals", laid_bipole_permit_goals), ("bipole/permit.kinds", laid_bipole_permit_kinds)] }
def PermitReachesSaid : Prop := permitReachesRow.holds Tryz.pinned (OpenSpec.ofChange permitReachesSpec)

/-- ITS FALSE NEIGHBOUR: 'it returns false'. Refute it at one input. -/
def permitReachesWrong : ChangeSpec := { name := "permitReaches", fn := fun _ => fun
  | [d1, d2, d3] => { results := [.lit (.bool false)], args := [d1, d2, d3] }
  | _ => none }
def PermitReachesWrongFalsely : Prop := permitReachesRow.holds Tryz.pinned (OpenSpec.ofChange permitReachesWrong)

/-- 'bipolelaw09.PermitActs': WHATEVER THE INPUT: true; the input reads as it did. -/
def permitActsSpec : ChangeSpec := { name := "permitActs", fn := fun _ => fun
  | [d1, d2] => { results := [.lit (.bool true)], args := [d1, d2] }
  | _ => none }
def permitActsRow : OpenClaim := { program := "ytphlojgmfkgeiaagreatdoor", sum := "f5b0b354f26641681bfc43e9c761d86541f402eed86911e0d98065329f774146", func := "bipole/bipolelaw09.PermitActs", spec := "permitActs", inPlace := ["internal/abi.NoEscape", "internal/bytealg.MakeNoZero"], unfollowed := true, recurses := true, named := ["bipole/permit.kinds", "bipole/permit.goals"], apart := false, laid := [("bipole/permit.goals", laid_bipole_permit_goals), ("bipole/permit.kinds", laid_bipole_permit_kinds)] }
def PermitActsSaid : Prop := permitActsRow.holds Tryz.pinned (OpenSpec.ofChange permitActsSpec)

/-- ITS FALSE NEIGHBOUR: 'it returns false'. Refute it at one input. -/
def permitActsWrong : ChangeSpec := { name := "permitActs", fn := fun _ => fun
  | [d1, d2] => { results := [.lit (.bool false)], args := [d1, d2] }
  | _ => none }
def PermitActsWrongFalsely : Prop := permitActsRow.holds Tryz.pinned (OpenSpec.ofChange permitActsWrong)

/-- 'bipolelaw09.PermitNever': WHATEVER THE INPUT: true; the input reads as it did. -/
def permitNeverSpec : ChangeSpec := { name := "permitNever", fn := fun _ => fun
  | [d1, d2] => { results := [.lit (.bool true)], args := [d1, d2] }
  | _ => none }
def permitNeverRow : OpenClaim := { program := "ytphlojgmfkgeiaagreatdoor", sum := "f5b0b354f26641681bfc43e9c761d86541f402eed86911e0d98065329f774146", func := "bipole/bipolelaw09.PermitNever", spec := "permitNever", inPlace := ["internal/abi.NoEscape", "internal/bytealg.MakeNoZero"], unfollowed := true, recurses := true, named := ["bipole/permit.kinds", "bipole/permit.goals"], apart := false, laid := [("bipole/permit.goals", laid_bipole_permit_goals), ("bipole/permit.kinds", laid_bipole_permit_kinds)] }
def PermitNeverSaid : Prop := permitNeverRow.holds Tryz.pinned (OpenSpec.ofChange permitNeverSpec)

/-- ITS FALSE NEIGHBOUR: 'it returns false'. Refute it at one input. -/
def permitNeverWrong : ChangeSpec := { name := "permitNever", fn := fun _ => fun
  | [d1, d2] => { results := [.lit (.bool false)], args := [d1, d2] }
  | _ => none }
def PermitNeverWrongFalsely : Prop := permitNeverRow.holds Tryz.pinned (OpenSpec.ofChange permitNeverWrong)

/-- 'bipolelaw09.PermitTexts': WHATEVER THE INPUT: true; the input reads as it did. -/
def permitTextsSpec : ChangeSpec := { name := "permitTexts", fn := fun _ => fun
  | [d1, d2] => { results := [.lit (.bool true)], args := [d1, d2] }
  | _ => none }
def permitTextsRow : OpenClaim := { program := "ytphlojgmfkgeiaagreatdoor", sum := "f5b0b354f26641681bfc43e9c761d86541f402eed86911e0d98065329f774146", func := "bipole/bipolelaw09.PermitTexts", spec := "permitTexts", inPlace := ["internal/abi.NoEscape", "internal/bytealg.MakeNoZero", "internal/bytealg.IndexByteString", "internal/bytealg.CountString", "internal/bytealg.IndexString"], unfollowed := true, recurses := true, named := ["bipole/permit.kinds", "bipole/permit.goals", "unicode/utf8.first", "unicode/utf8.acceptRanges", "internal/bytealg.MaxLen"], apart := false, laid := [("unicode/utf8.acceptRanges", laid_unicode_utf8_acceptRanges), ("bipole/permit.goals", laid_bipole_permit_goals), ("bipole/permit.kinds", laid_bipole_permit_kinds), ("unicode/utf8.first", laid_unicode_utf8_first)] }
def PermitTextsSaid : Prop := permitTextsRow.holds Tryz.pinned (OpenSpec.ofChange permitTextsSpec)

/-- ITS FALSE NEIGHBOUR: 'it returns false'. Refute it at one input. -/
def permitTextsWrong : ChangeSpec := { name := "permitTexts", fn := fun _ => fun
  | [d1, d2] => { results := [.lit (.bool false)], args := [d1, d2] }
  | _ => none }
def PermitTextsWrongFalsely : Prop := permitTextsRow.holds Tryz.pinned (OpenSpec.ofChange permitTextsWrong)

/-- 'bipolelaw09.PermitBack': WHATEVER THE INPUT: true; the input reads as it did. -/
def permitBackSpec : ChangeSpec := { name := "permitBack", fn := fun _ => fun
  | [d1, d2] => { results := [.lit (.bool true)], args := [d1, d2] }
  | _ => none }
def permitBackRow : OpenClaim := { program := "ytphlojgmfkgeiaagreatdoor", sum := "f5b0b354f26641681bfc43e9c761d86541f402eed86911e0d98065329f774146", func := "bipole/bipolelaw09.PermitBack", spec := "permitBack", inPlace := ["internal/abi.NoEscape", "internal/bytealg.MakeNoZero", "internal/bytealg.IndexByteString", "internal/bytealg.CountString", "internal/bytealg.IndexString"], unfollowed := true, recurses := true, named := ["bipole/permit.kinds", "bipole/permit.goals", "unicode/utf8.first", "unicode/utf8.acceptRanges", "internal/bytealg.MaxLen"], apart := false, laid := [("unicode/utf8.acceptRanges", laid_unicode_utf8_acceptRanges), ("bipole/permit.goals", laid_bipole_permit_goals), ("bipole/permit.kinds", laid_bipole_permit_kinds), ("unicode/utf8.first", laid_unicode_utf8_first)] }
def PermitBackSaid : Prop := permitBackRow.holds Tryz.pinned (OpenSpec.ofChange permitBackSpec)

/-- ITS FALSE NEIGHBOUR: 'it returns false'. Refute it at one input. -/
def permitBackWrong : ChangeSpec := { name := "permitBack", fn := fun _ => fun
  | [d1, d2] => { results := [.lit (.bool false)], args := [d1, d2] }
  | _ => none }
def PermitBackWrongFalsely : Prop := permitBackRow.holds Tryz.pinned (OpenSpec.ofChange permitBackWrong)

/- THE SECOND FORM. 'bulk': how many values and letters a reading holds, each counted each time it is reached (what is shared counts as often as it is met; a slice's spare places count too). A statement '..UptoSaid' is the law's where the arguments, and the package variables that the reading takes, are together of bulk at most 1048576: NARROWER than '..Said'. Prove '..Said' where nothing that the law and all that it calls make is longer than what came in: it says more and counts as full. Else prove '..UptoSaid'. A law counts once. -/
mutual
def uptoBulk {H : Type} : DataW H → Nat
  | .lit (.string bytes) => bytes.length + 1
  | .lit _ => 1
  | .nil => 1
  | .ptr d => uptoBulk d + 1
  | .slice elems spare => uptoBulkAll elems + uptoBulkAll spare + 1
  | .agg parts => uptoBulkAll parts + 1
  | .iface _ d => uptoBulk d + 1
  | .map entries => uptoBulkEntries entries + 1
  | .held _ => 1
def uptoBulkAll {H : Type} : List (DataW H) → Nat
  | [] => 0
  | d :: r => uptoBulk d + uptoBulkAll r
def uptoBulkEntries {H : Type} : List (Lit × DataW H) → Nat
  | [] => 0
  | x :: r => uptoBulkEntry x + uptoBulkEntries r
def uptoBulkEntry {H : Type} : Lit × DataW H → Nat
  | (.string bytes, d) => bytes.length + uptoBulk d + 1
  | (_, d) => uptoBulk d + 1
 end
def uptoSmall : (H : Type) → List (DataW H) → Bool := fun _ ds => decide (uptoBulkAll ds ≤ 1048576)
def OpenSpec.upto (s : _root_.Go.ChangeSpec) : _root_.Go.OpenSpec := { _root_.Go.OpenSpec.ofChange s with cond := some uptoSmall }

/-- 'bipolelaw09.PermitBarriers', WHERE WHAT IT READS IS OF BULK AT MOST 1048576: true; the input reads as it did. -/
def permitBarriersUptoRow : OpenClaim := { program := "ytphlojgmfkgeiaagreatdoor", sum := "f5b0b354f26641681bfc43e9c761d86541f402eed86911e0d98065329f774146", func := "bipole/bipolelaw09.PermitBarriers", spec := "permitBarriers", inPlace := ["internal/abi.NoEscape", "internal/bytealg.MakeNoZero"], unfollowed := true, recurses := true, named := ["bipole/permit.kinds", "bipole/permit.goals"], apart := false, laid := [("bipole/permit.goals", laid_bipole_permit_goals), ("bipole/permit.kinds", laid_bipole_permit_kinds)], narrowed := true }
def PermitBarriersUptoSaid : Prop := permitBarriersUptoRow.holds Tryz.pinned (OpenSpec.upto permitBarriersSpec)

/-- 'bipolelaw09.PermitYards', WHERE WHAT IT READS IS OF BULK AT MOST 1048576: true; the input reads as it did. -/
def permitYardsUptoRow : OpenClaim := { program := "ytphlojgmfkgeiaagreatdoor", sum := "f5b0b354f26641681bfc43e9c761d86541f402eed86911e0d98065329f774146", func := "bipole/bipolelaw09.PermitYards", spec := "permitYards", inPlace := ["internal/abi.NoEscape", "internal/bytealg.MakeNoZero"], unfollowed := true, recurses := true, named := ["bipole/permit.kinds", "bipole/permit.goals"], apart := false, laid := [("bipole/permit.goals", laid_bipole_permit_goals), ("bipole/permit.kinds", laid_bipole_permit_kinds)], narrowed := true }
def PermitYardsUptoSaid : Prop := permitYardsUptoRow.holds Tryz.pinned (OpenSpec.upto permitYardsSpec)

/-- 'bipolelaw09.PermitIslands', WHERE WHAT IT READS IS OF BULK AT MOST 1048576: true; the input reads as it did. -/
def permitIslandsUptoRow : OpenClaim := { program := "ytphlojgmfkgeiaagreatdoor", sum := "f5b0b354f26641681bfc43e9c761d86541f402eed86911e0d98065329f774146", func := "bipole/bipolelaw09.PermitIslands", spec := "permitIslands", inPlace := ["internal/abi.NoEscape", "internal/bytealg.MakeNoZero"], unfollowed := true, recurses := true, named := ["bipole/permit.kinds", "bipole/permit.goals"], apart := false, laid := [("bipole/permit.goals", laid_bipole_permit_goals), ("bipole/permit.kinds", laid_bipole_permit_kinds)], narrowed := true }
def PermitIslandsUptoSaid : Prop := permitIslandsUptoRow.holds Tryz.pinned (OpenSpec.upto permitIslandsSpec)

/-- 'bipolelaw09.PermitStates', WHERE WHAT IT READS IS OF BULK AT MOST 1048576: true; the input reads as it did. -/
def permitStatesUptoRow : OpenClaim := { program := "ytphlojgmfkgeiaagreatdoor", sum := "f5b0b354f26641681bfc43e9c761d86541f402eed86911e0d98065329f774146", func := "bipole/bipolelaw09.PermitStates", spec := "permitStates", inPlace := ["internal/abi.NoEscape", "internal/bytealg.MakeNoZero"], unfollowed := true, recurses := true, named := ["bipole/permit.kinds", "bipole/permit.goals"], apart := false, laid := [("bipole/permit.goals", laid_bipole_permit_goals), ("bipole/permit.kinds", laid_bipole_permit_kinds)], narrowed := true }
def PermitStatesUptoSaid : Prop := permitStatesUptoRow.holds Tryz.pinned (OpenSpec.upto permitStatesSpec)

/-- 'bipolelaw09.PermitOrders', WHERE WHAT IT READS IS OF BULK AT MOST 1048576: true; the input reads as it did. -/
def permitOrdersUptoRow : OpenClaim := { program := "ytphlojgmfkgeiaagreatdoor", sum := "f5b0b354f26641681bfc43e9c761d86541f402eed86911e0d98065329f774146", func := "bipole/bipolelaw09.PermitOrders", spec := "permitOrders", inPlace := ["internal/abi.NoEscape", "internal/bytealg.MakeNoZero"], unfollowed := true, recurses := true, named := ["bipole/permit.kinds", "bipole/permit.goals"], apart := false, laid := [("bipole/permit.goals", laid_bipole_permit_goals), ("bipole/permit.kinds", laid_bipole_permit_kinds)], narrowed := true }
def PermitOrdersUptoSaid : Prop := permitOrdersUptoRow.holds Tryz.pinned (OpenSpec.upto permitOrdersSpec)

/-- 'bipolelaw09.PermitMoves', WHERE WHAT IT READS IS OF BULK AT MOST 1048576: true; the input reads as it did. -/
def permitMovesUptoRow : OpenClaim := { program := "ytphlojgmfkgeiaagreatdoor", sum := "f5b0b354f26641681bfc43e9c761d86541f402eed86911e0d98065329f774146", func := "bipole/bipolelaw09.PermitMoves", spec := "permitMoves", inPlace := ["internal/abi.NoEscape", "internal/bytealg.MakeNoZero"], unfollowed := true, recurses := true, named := ["bipole/permit.kinds", "bipole/permit.goals"], apart := false, laid := [("bipole/permit.goals", laid_bipole_permit_goals), ("bipole/permit.kinds", laid_bipole_permit_kinds)], narrowed := true }
def PermitMovesUptoSaid : Prop := permitMovesUptoRow.holds Tryz.pinned (OpenSpec.upto permitMovesSpec)

/-- 'bipolelaw09.PermitReaches', WHERE WHAT IT READS IS OF BULK AT MOST 1048576: true; the input reads as it did. -/
def permitReachesUptoRow : OpenClaim := { program := "ytphlojgmfkgeiaagreatdoor", sum := "f5b0b354f26641681bfc43e9c761d86541f402eed86911e0d98065329f774146", func := "bipole/bipolelaw09.PermitReaches", spec := "permitReaches", inPlace := ["internal/abi.NoEscape", "internal/bytealg.MakeNoZero"], unfollowed := true, recurses := true, named := ["bipole/permit.kinds", "bipole/permit.goals"], apart := false, laid := [("bipole/permit.goals", laid_bipole_permit_goals), ("bipole/permit.kinds", laid_bipole_permit_kinds)], narrowed := true }
def PermitReachesUptoSaid : Prop := permitReachesUptoRow.holds Tryz.pinned (OpenSpec.upto permitReachesSpec)

/-- 'bipolelaw09.PermitActs', WHERE WHAT IT READS IS OF BULK AT MOST 1048576: true; the input reads as it did. -/
def permitActsUptoRow : OpenClaim := { program := "ytphlojgmfkgeiaagreatdoor", sum := "f5b0b354f26641681bfc43e9c761d86541f402eed86911e0d98065329f774146", func := "bipole/bipolelaw09.PermitActs", spec := "permitActs", inPlace := ["internal/abi.NoEscape", "internal/bytealg.MakeNoZero"], unfollowed := true, recurses := true, named := ["bipole/permit.kinds", "bipole/permit.goals"], apart := false, laid := [("bipole/permit.goals", laid_bipole_permit_goals), ("bipole/permit.kinds", laid_bipole_permit_kinds)], narrowed := true }
def PermitActsUptoSaid : Prop := permitActsUptoRow.holds Tryz.pinned (OpenSpec.upto permitActsSpec)

/-- 'bipolelaw09.PermitNever', WHERE WHAT IT READS IS OF BULK AT MOST 1048576: true; the input reads as it did. -/
def permitNeverUptoRow : OpenClaim := { program := "ytphlojgmfkgeiaagreatdoor", sum := "f5b0b354f26641681bfc43e9c761d86541f402eed86911e0d98065329f774146", func := "bipole/bipolelaw09.PermitNever", spec := "permitNever", inPlace := ["internal/abi.NoEscape", "internal/bytealg.MakeNoZero"], unfollowed := true, recurses := true, named := ["bipole/permit.kinds", "bipole/permit.goals"], apart := false, laid := [("bipole/permit.goals", laid_bipole_permit_goals), ("bipole/permit.kinds", laid_bipole_permit_kinds)], narrowed := true }
def PermitNeverUptoSaid : Prop := permitNeverUptoRow.holds Tryz.pinned (OpenSpec.upto permitNeverSpec)

/-- 'bipolelaw09.PermitTexts', WHERE WHAT IT READS IS OF BULK AT MOST 1048576: true; the input reads as it did. -/
def permitTextsUptoRow : OpenClaim := { program := "ytphlojgmfkgeiaagreatdoor", sum := "f5b0b354f26641681bfc43e9c761d86541f402eed86911e0d98065329f774146", func := "bipole/bipolelaw09.PermitTexts", spec := "permitTexts", inPlace := ["internal/abi.NoEscape", "internal/bytealg.MakeNoZero", "internal/bytealg.IndexByteString", "internal/bytealg.CountString", "internal/bytealg.IndexString"], unfollowed := true, recurses := true, named := ["bipole/permit.kinds", "bipole/permit.goals", "unicode/utf8.first", "unicode/utf8.acceptRanges", "internal/bytealg.MaxLen"], apart := false, laid := [("unicode/utf8.acceptRanges", laid_unicode_utf8_acceptRanges), ("bipole/permit.goals", laid_bipole_permit_goals), ("bipole/permit.kinds", laid_bipole_permit_kinds), ("unicode/utf8.first", laid_unicode_utf8_first)], narrowed := true }
def PermitTextsUptoSaid : Prop := permitTextsUptoRow.holds Tryz.pinned (OpenSpec.upto permitTextsSpec)

/-- 'bipolelaw09.PermitBack', WHERE WHAT IT READS IS OF BULK AT MOST 1048576: true; the input reads as it did. -/
def permitBackUptoRow : OpenClaim := { program := "ytphlojgmfkgeiaagreatdoor", sum := "f5b0b354f26641681bfc43e9c761d86541f402eed86911e0d98065329f774146", func := "bipole/bipolelaw09.PermitBack", spec := "permitBack", inPlace := ["internal/abi.NoEscape", "internal/bytealg.MakeNoZero", "internal/bytealg.IndexByteString", "internal/bytealg.CountString", "internal/bytealg.IndexString"], unfollowed := true, recurses := true, named := ["bipole/permit.kinds", "bipole/permit.goals", "unicode/utf8.first", "unicode/utf8.acceptRanges", "internal/bytealg.MaxLen"], apart := false, laid := [("unicode/utf8.acceptRanges", laid_unicode_utf8_acceptRanges), ("bipole/permit.goals", laid_bipole_permit_goals), ("bipole/permit.kinds", laid_bipole_permit_kinds), ("unicode/utf8.first", laid_unicode_utf8_first)], narrowed := true }
def PermitBackUptoSaid : Prop := permitBackUptoRow.holds Tryz.pinned (OpenSpec.upto permitBackSpec)

end Rows
end Go.Proofs.YtphlojgmfkgeiaaGreatDoor
