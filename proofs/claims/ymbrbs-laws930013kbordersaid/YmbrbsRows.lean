/-
  No cell of these rows narrows 'for every input' (looked for: loops, veiled, ifaces, maps, wideKeys, modest, calm, conditions, laid).
  DERIVED. THE GIVEN ROWS OF THIS SEAT. 11 by the template 'for every input the law returns true; each argument reads behind the call as it read before'; 0 by the template 'total and deterministic' (their statements: YmbrbsTotals.lean).
  GIVEN WITH THE SEED: the statements are not yours to turn. If you find one false, say at which input.
  Laid BY PROGRAM, IN A SANDBOX (cutbox-rows.mjs): the forced cells as the released guide's own fill.sh prints them over the translation 55dc86ea486dc705… (all of the seat's roots in one cut). By AI agents, Wed Nov 11 2026. No macro, syntax, notation, axiom, sorry.
-/
import Derived.Test.YmbrbsChecked
import GoSem.Claim
import GoSem.ClaimJoined
import GoSem.ClaimMapViews
import Derived.JoinedTies
import Derived.KernelRfl
namespace Go.Proofs.Ymbrbs
/- THE CELL 'sum', in the pinned program and in every row, IS THE sha256 OF THE DUMP (.gsa) THAT YmbrbsProg.lean LOADS. Nothing in Lean hashes anything: it is a label: what it is worth is what the hold of that sum in a sandbox is worth. -/
noncomputable def Ybsm.pinned : Pinned := { name := "ymbrbs", sum := "55dc86ea486dc70586941e0f3e856296ed827c7de34a795c7928a5af31b380e0", checked := Ybsm.checked }
namespace Rows
def none {H : Type} : Left H := { results := [], args := [] }

/-- 'semver.LawS930013IRoundTrip': WHATEVER THE INPUT: true; the input reads as it did. -/
def lawS930013IRoundTripSpec : ChangeSpec := { name := "lawS930013IRoundTrip", fn := fun _ => fun
  | [d] => { results := [.lit (.bool true)], args := [d] }
  | _ => none }
def lawS930013IRoundTripRow : OpenClaim := { program := "ymbrbs", sum := "55dc86ea486dc70586941e0f3e856296ed827c7de34a795c7928a5af31b380e0", func := "example.com/own/semver.LawS930013IRoundTrip", spec := "lawS930013IRoundTrip", apart := false }
def LawS930013IRoundTripSaid : Prop := lawS930013IRoundTripRow.holds Ybsm.pinned (OpenSpec.ofChange lawS930013IRoundTripSpec)

/-- ITS FALSE NEIGHBOUR: 'it returns false'. Refute it at one input. -/
def lawS930013IRoundTripWrong : ChangeSpec := { name := "lawS930013IRoundTrip", fn := fun _ => fun
  | [d] => { results := [.lit (.bool false)], args := [d] }
  | _ => none }
def LawS930013IRoundTripWrongFalsely : Prop := lawS930013IRoundTripRow.holds Ybsm.pinned (OpenSpec.ofChange lawS930013IRoundTripWrong)

/-- 'semver.LawS930013IAppend': WHATEVER THE INPUT: true; the input reads as it did. -/
def lawS930013IAppendSpec : ChangeSpec := { name := "lawS930013IAppend", fn := fun _ => fun
  | [d1, d2, d3] => { results := [.lit (.bool true)], args := [d1, d2, d3] }
  | _ => none }
def lawS930013IAppendRow : OpenClaim := { program := "ymbrbs", sum := "55dc86ea486dc70586941e0f3e856296ed827c7de34a795c7928a5af31b380e0", func := "example.com/own/semver.LawS930013IAppend", spec := "lawS930013IAppend", apart := false }
def LawS930013IAppendSaid : Prop := lawS930013IAppendRow.holds Ybsm.pinned (OpenSpec.ofChange lawS930013IAppendSpec)

/-- ITS FALSE NEIGHBOUR: 'it returns false'. Refute it at one input. -/
def lawS930013IAppendWrong : ChangeSpec := { name := "lawS930013IAppend", fn := fun _ => fun
  | [d1, d2, d3] => { results := [.lit (.bool false)], args := [d1, d2, d3] }
  | _ => none }
def LawS930013IAppendWrongFalsely : Prop := lawS930013IAppendRow.holds Ybsm.pinned (OpenSpec.ofChange lawS930013IAppendWrong)

/-- 'semver.LawS930013JText': WHATEVER THE INPUT: true; the input reads as it did. -/
def lawS930013JTextSpec : ChangeSpec := { name := "lawS930013JText", fn := fun _ => fun
  | [d1, d2, d3, d4] => { results := [.lit (.bool true)], args := [d1, d2, d3, d4] }
  | _ => none }
def lawS930013JTextRow : OpenClaim := { program := "ymbrbs", sum := "55dc86ea486dc70586941e0f3e856296ed827c7de34a795c7928a5af31b380e0", func := "example.com/own/semver.LawS930013JText", spec := "lawS930013JText", apart := false }
def LawS930013JTextSaid : Prop := lawS930013JTextRow.holds Ybsm.pinned (OpenSpec.ofChange lawS930013JTextSpec)

/-- ITS FALSE NEIGHBOUR: 'it returns false'. Refute it at one input. -/
def lawS930013JTextWrong : ChangeSpec := { name := "lawS930013JText", fn := fun _ => fun
  | [d1, d2, d3, d4] => { results := [.lit (.bool false)], args := [d1, d2, d3, d4] }
  | _ => none }
def LawS930013JTextWrongFalsely : Prop := lawS930013JTextRow.holds Ybsm.pinned (OpenSpec.ofChange lawS930013JTextWrong)

/-- 'semver.LawS930013JParse': WHATEVER THE INPUT: true; the input reads as it did. -/
def lawS930013JParseSpec : ChangeSpec := { name := "lawS930013JParse", fn := fun _ => fun
  | [d1, d2, d3, d4] => { results := [.lit (.bool true)], args := [d1, d2, d3, d4] }
  | _ => none }
def lawS930013JParseRow : OpenClaim := { program := "ymbrbs", sum := "55dc86ea486dc70586941e0f3e856296ed827c7de34a795c7928a5af31b380e0", func := "example.com/own/semver.LawS930013JParse", spec := "lawS930013JParse", apart := false }
def LawS930013JParseSaid : Prop := lawS930013JParseRow.holds Ybsm.pinned (OpenSpec.ofChange lawS930013JParseSpec)

/-- ITS FALSE NEIGHBOUR: 'it returns false'. Refute it at one input. -/
def lawS930013JParseWrong : ChangeSpec := { name := "lawS930013JParse", fn := fun _ => fun
  | [d1, d2, d3, d4] => { results := [.lit (.bool false)], args := [d1, d2, d3, d4] }
  | _ => none }
def LawS930013JParseWrongFalsely : Prop := lawS930013JParseRow.holds Ybsm.pinned (OpenSpec.ofChange lawS930013JParseWrong)

/-- 'semver.LawS930013JRoundTrip': WHATEVER THE INPUT: true; the input reads as it did. -/
def lawS930013JRoundTripSpec : ChangeSpec := { name := "lawS930013JRoundTrip", fn := fun _ => fun
  | [d1, d2, d3, d4] => { results := [.lit (.bool true)], args := [d1, d2, d3, d4] }
  | _ => none }
def lawS930013JRoundTripRow : OpenClaim := { program := "ymbrbs", sum := "55dc86ea486dc70586941e0f3e856296ed827c7de34a795c7928a5af31b380e0", func := "example.com/own/semver.LawS930013JRoundTrip", spec := "lawS930013JRoundTrip", apart := false }
def LawS930013JRoundTripSaid : Prop := lawS930013JRoundTripRow.holds Ybsm.pinned (OpenSpec.ofChange lawS930013JRoundTripSpec)

/-- ITS FALSE NEIGHBOUR: 'it returns false'. Refute it at one input. -/
def lawS930013JRoundTripWrong : ChangeSpec := { name := "lawS930013JRoundTrip", fn := fun _ => fun
  | [d1, d2, d3, d4] => { results := [.lit (.bool false)], args := [d1, d2, d3, d4] }
  | _ => none }
def LawS930013JRoundTripWrongFalsely : Prop := lawS930013JRoundTripRow.holds Ybsm.pinned (OpenSpec.ofChange lawS930013JRoundTripWrong)

/-- 'semver.LawS930013KRank': WHATEVER THE INPUT: true; the input reads as it did. -/
def lawS930013KRankSpec : ChangeSpec := { name := "lawS930013KRank", fn := fun _ => fun
  | [d1, d2] => { results := [.lit (.bool true)], args := [d1, d2] }
  | _ => none }
def lawS930013KRankRow : OpenClaim := { program := "ymbrbs", sum := "55dc86ea486dc70586941e0f3e856296ed827c7de34a795c7928a5af31b380e0", func := "example.com/own/semver.LawS930013KRank", spec := "lawS930013KRank", apart := false }
def LawS930013KRankSaid : Prop := lawS930013KRankRow.holds Ybsm.pinned (OpenSpec.ofChange lawS930013KRankSpec)

/-- ITS FALSE NEIGHBOUR: 'it returns false'. Refute it at one input. -/
def lawS930013KRankWrong : ChangeSpec := { name := "lawS930013KRank", fn := fun _ => fun
  | [d1, d2] => { results := [.lit (.bool false)], args := [d1, d2] }
  | _ => none }
def LawS930013KRankWrongFalsely : Prop := lawS930013KRankRow.holds Ybsm.pinned (OpenSpec.ofChange lawS930013KRankWrong)

/-- 'semver.LawS930013KBorder': WHATEVER THE INPUT: true; the input reads as it did. -/
def lawS930013KBorderSpec : ChangeSpec := { name := "lawS930013KBorder", fn := fun _ => fun
  | [d1, d2] => { results := [.lit (.bool true)], args := [d1, d2] }
  | _ => none }
def lawS930013KBorderRow : OpenClaim := { program := "ymbrbs", sum := "55dc86ea486dc70586941e0f3e856296ed827c7de34a795c7928a5af31b380e0", func := "example.com/own/semver.LawS930013KBorder", spec := "lawS930013KBorder", apart := false }
def LawS930013KBorderSaid : Prop := lawS930013KBorderRow.holds Ybsm.pinned (OpenSpec.ofChange lawS930013KBorderSpec)

/-- ITS FALSE NEIGHBOUR: 'it returns false'. Refute it at one input. -/
def lawS930013KBorderWrong : ChangeSpec := { name := "lawS930013KBorder", fn := fun _ => fun
  | [d1, d2] => { results := [.lit (.bool false)], args := [d1, d2] }
  | _ => none }
def LawS930013KBorderWrongFalsely : Prop := lawS930013KBorderRow.holds Ybsm.pinned (OpenSpec.ofChange lawS930013KBorderWrong)

/-- 'semver.LawS930013KCount': WHATEVER THE INPUT: true; the input reads as it did. -/
def lawS930013KCountSpec : ChangeSpec := { name := "lawS930013KCount", fn := fun _ => fun
  | [d1, d2] => { results := [.lit (.bool true)], args := [d1, d2] }
  | _ => none }
def lawS930013KCountRow : OpenClaim := { program := "ymbrbs", sum := "55dc86ea486dc70586941e0f3e856296ed827c7de34a795c7928a5af31b380e0", func := "example.com/own/semver.LawS930013KCount", spec := "lawS930013KCount", apart := false }
def LawS930013KCountSaid : Prop := lawS930013KCountRow.holds Ybsm.pinned (OpenSpec.ofChange lawS930013KCountSpec)

/-- ITS FALSE NEIGHBOUR: 'it returns false'. Refute it at one input. -/
def lawS930013KCountWrong : ChangeSpec := { name := "lawS930013KCount", fn := fun _ => fun
  | [d1, d2] => { results := [.lit (.bool false)], args := [d1, d2] }
  | _ => none }
def LawS930013KCountWrongFalsely : Prop := lawS930013KCountRow.holds Ybsm.pinned (OpenSpec.ofChange lawS930013KCountWrong)

/-- 'semver.LawS930013LExact': WHATEVER THE INPUT: true; the input reads as it did. -/
def lawS930013LExactSpec : ChangeSpec := { name := "lawS930013LExact", fn := fun _ => fun
  | [d] => { results := [.lit (.bool true)], args := [d] }
  | _ => none }
def lawS930013LExactRow : OpenClaim := { program := "ymbrbs", sum := "55dc86ea486dc70586941e0f3e856296ed827c7de34a795c7928a5af31b380e0", func := "example.com/own/semver.LawS930013LExact", spec := "lawS930013LExact", apart := false }
def LawS930013LExactSaid : Prop := lawS930013LExactRow.holds Ybsm.pinned (OpenSpec.ofChange lawS930013LExactSpec)

/-- ITS FALSE NEIGHBOUR: 'it returns false'. Refute it at one input. -/
def lawS930013LExactWrong : ChangeSpec := { name := "lawS930013LExact", fn := fun _ => fun
  | [d] => { results := [.lit (.bool false)], args := [d] }
  | _ => none }
def LawS930013LExactWrongFalsely : Prop := lawS930013LExactRow.holds Ybsm.pinned (OpenSpec.ofChange lawS930013LExactWrong)

/-- 'semver.LawS930013LBuilt': WHATEVER THE INPUT: true; the input reads as it did. -/
def lawS930013LBuiltSpec : ChangeSpec := { name := "lawS930013LBuilt", fn := fun _ => fun
  | [d] => { results := [.lit (.bool true)], args := [d] }
  | _ => none }
def lawS930013LBuiltRow : OpenClaim := { program := "ymbrbs", sum := "55dc86ea486dc70586941e0f3e856296ed827c7de34a795c7928a5af31b380e0", func := "example.com/own/semver.LawS930013LBuilt", spec := "lawS930013LBuilt", apart := false }
def LawS930013LBuiltSaid : Prop := lawS930013LBuiltRow.holds Ybsm.pinned (OpenSpec.ofChange lawS930013LBuiltSpec)

/-- ITS FALSE NEIGHBOUR: 'it returns false'. Refute it at one input. -/
def lawS930013LBuiltWrong : ChangeSpec := { name := "lawS930013LBuilt", fn := fun _ => fun
  | [d] => { results := [.lit (.bool false)], args := [d] }
  | _ => none }
def LawS930013LBuiltWrongFalsely : Prop := lawS930013LBuiltRow.holds Ybsm.pinned (OpenSpec.ofChange lawS930013LBuiltWrong)

/-- 'semver.LawS930013LJoin': WHATEVER THE INPUT: true; the input reads as it did. -/
def lawS930013LJoinSpec : ChangeSpec := { name := "lawS930013LJoin", fn := fun _ => fun
  | [d1, d2] => { results := [.lit (.bool true)], args := [d1, d2] }
  | _ => none }
def lawS930013LJoinRow : OpenClaim := { program := "ymbrbs", sum := "55dc86ea486dc70586941e0f3e856296ed827c7de34a795c7928a5af31b380e0", func := "example.com/own/semver.LawS930013LJoin", spec := "lawS930013LJoin", apart := false }
def LawS930013LJoinSaid : Prop := lawS930013LJoinRow.holds Ybsm.pinned (OpenSpec.ofChange lawS930013LJoinSpec)

/-- ITS FALSE NEIGHBOUR: 'it returns false'. Refute it at one input. -/
def lawS930013LJoinWrong : ChangeSpec := { name := "lawS930013LJoin", fn := fun _ => fun
  | [d1, d2] => { results := [.lit (.bool false)], args := [d1, d2] }
  | _ => none }
def LawS930013LJoinWrongFalsely : Prop := lawS930013LJoinRow.holds Ybsm.pinned (OpenSpec.ofChange lawS930013LJoinWrong)

end Rows
end Go.Proofs.Ymbrbs
