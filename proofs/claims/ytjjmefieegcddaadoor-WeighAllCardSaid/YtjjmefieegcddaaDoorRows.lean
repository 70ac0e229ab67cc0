/-
  NARROWER THAN 'FOR EVERY INPUT', by the rows' own cells (each row's printed sentence says how): WeighChecks: laid · WeighKnot: laid · WeighNext: laid · WeighApart: laid · WeighKept: laid · WeighThieves: laid · WeighCut: laid · WeighStolen: laid · WeighKnots: laid · WeighHeavier: laid · WeighNumbered: laid · WeighMore: laid · WeighScales: laid · WeighBounds: laid · WeighAll: laid · WeighUseless: laid · WeighKnown: laid.
  DERIVED. THE GIVEN ROWS OF THIS SEAT. 17 by the template 'for every input the law returns true; each argument reads behind the call as it read before'; 0 by the template 'total and deterministic' (their statements: YtjjmefieegcddaaDoorTotals.lean).
  GIVEN WITH THE SEED: the statements are not yours to turn. If you find one false, say at which input.
  Laid BY PROGRAM, IN A SANDBOX (cutbox-rows.mjs): the forced cells as the released guide's own fill.sh prints them over the translation b2c172bc3de7d0df… (all of the seat's roots in one cut). By AI agents, Wed Nov 11 2026. No macro, syntax, notation, axiom, sorry.
-/
import Derived.Test.YtjjmefieegcddaaDoorChecked
import GoSem.Claim
import GoSem.ClaimJoined
import GoSem.ClaimMapViews
import Derived.JoinedTies
import Derived.KernelRfl
namespace Go.Proofs.YtjjmefieegcddaaDoor
/- THE CELL 'sum', in the pinned program and in every row, IS THE sha256 OF THE DUMP (.gsa) THAT YtjjmefieegcddaaDoorProg.lean LOADS. Nothing in Lean hashes anything: it is a label: what it is worth is what the hold of that sum in a sandbox is worth. -/
noncomputable def Tryd.pinned : Pinned := { name := "ytjjmefieegcddaadoor", sum := "b2c172bc3de7d0df4f9108d94e32ad908e5ab2290f27f2f1a312cb31983e4474", checked := Tryd.checked }
namespace Rows
def none {H : Type} : Left H := { results := [], args := [] }

/- WHAT THE LISTED PACKAGE-LEVEL VARIABLES READ AS WHEN THE CALL BEGINS. Each datum BY PROGRAM (the guide's laid-datum.mjs) off the statement by which the dump's own 'gosem.cut.vars' lays the variable. In a bare row this is a premise. The card (YtjjmefieegcddaaDoorCards.lean) ties it to the program's text. -/
def laid_errors_errorType {H : Type} : DataW H := .iface "internal/reflectlite.rtype" (.agg [.ptr (.lit (.string [101, 114, 114, 111, 114]))])

/-- 'muscovadolaw01.WeighChecks': WHATEVER THE INPUT: true; the input reads as it did. -/
def weighChecksSpec : ChangeSpec := { name := "weighChecks", fn := fun _ => fun
  | [d1, d2, d3] => { results := [.lit (.bool true)], args := [d1, d2, d3] }
  | _ => none }
def weighChecksRow : OpenClaim := { program := "ytjjmefieegcddaadoor", sum := "b2c172bc3de7d0df4f9108d94e32ad908e5ab2290f27f2f1a312cb31983e4474", func := "muscovado/muscovadolaw01.WeighChecks", spec := "weighChecks", inPlace := ["internal/reflectlite.ValueOf", "(internal/reflectlite.Value).Type", "(internal/reflectlite.Value).IsNil", "internal/reflectlite.TypeOf", "(internal/reflectlite.Value).Elem", "(internal/reflectlite.Value).Set"], unfollowed := true, recurses := true, named := ["errors.errorType"], leaving := true, apart := false, laid := [("errors.errorType", laid_errors_errorType)] }
def WeighChecksSaid : Prop := weighChecksRow.holds Tryd.pinned (OpenSpec.ofChange weighChecksSpec)

/-- ITS FALSE NEIGHBOUR: 'it returns false'. Refute it at one input. -/
def weighChecksWrong : ChangeSpec := { name := "weighChecks", fn := fun _ => fun
  | [d1, d2, d3] => { results := [.lit (.bool false)], args := [d1, d2, d3] }
  | _ => none }
def WeighChecksWrongFalsely : Prop := weighChecksRow.holds Tryd.pinned (OpenSpec.ofChange weighChecksWrong)

/-- 'muscovadolaw01.WeighKnot': WHATEVER THE INPUT: true; the input reads as it did. -/
def weighKnotSpec : ChangeSpec := { name := "weighKnot", fn := fun _ => fun
  | [d] => { results := [.lit (.bool true)], args := [d] }
  | _ => none }
def weighKnotRow : OpenClaim := { program := "ytjjmefieegcddaadoor", sum := "b2c172bc3de7d0df4f9108d94e32ad908e5ab2290f27f2f1a312cb31983e4474", func := "muscovado/muscovadolaw01.WeighKnot", spec := "weighKnot", inPlace := ["internal/reflectlite.ValueOf", "(internal/reflectlite.Value).Type", "(internal/reflectlite.Value).IsNil", "internal/reflectlite.TypeOf", "(internal/reflectlite.Value).Elem", "(internal/reflectlite.Value).Set"], unfollowed := true, recurses := true, named := ["errors.errorType"], leaving := true, apart := false, laid := [("errors.errorType", laid_errors_errorType)] }
def WeighKnotSaid : Prop := weighKnotRow.holds Tryd.pinned (OpenSpec.ofChange weighKnotSpec)

/-- ITS FALSE NEIGHBOUR: 'it returns false'. Refute it at one input. -/
def weighKnotWrong : ChangeSpec := { name := "weighKnot", fn := fun _ => fun
  | [d] => { results := [.lit (.bool false)], args := [d] }
  | _ => none }
def WeighKnotWrongFalsely : Prop := weighKnotRow.holds Tryd.pinned (OpenSpec.ofChange weighKnotWrong)

/-- 'muscovadolaw01.WeighNext': WHATEVER THE INPUT: true; the input reads as it did. -/
def weighNextSpec : ChangeSpec := { name := "weighNext", fn := fun _ => fun
  | [d] => { results := [.lit (.bool true)], args := [d] }
  | _ => none }
def weighNextRow : OpenClaim := { program := "ytjjmefieegcddaadoor", sum := "b2c172bc3de7d0df4f9108d94e32ad908e5ab2290f27f2f1a312cb31983e4474", func := "muscovado/muscovadolaw01.WeighNext", spec := "weighNext", inPlace := ["internal/reflectlite.ValueOf", "(internal/reflectlite.Value).Type", "(internal/reflectlite.Value).IsNil", "internal/reflectlite.TypeOf", "(internal/reflectlite.Value).Elem", "(internal/reflectlite.Value).Set"], unfollowed := true, recurses := true, named := ["errors.errorType"], leaving := true, apart := false, laid := [("errors.errorType", laid_errors_errorType)] }
def WeighNextSaid : Prop := weighNextRow.holds Tryd.pinned (OpenSpec.ofChange weighNextSpec)

/-- ITS FALSE NEIGHBOUR: 'it returns false'. Refute it at one input. -/
def weighNextWrong : ChangeSpec := { name := "weighNext", fn := fun _ => fun
  | [d] => { results := [.lit (.bool false)], args := [d] }
  | _ => none }
def WeighNextWrongFalsely : Prop := weighNextRow.holds Tryd.pinned (OpenSpec.ofChange weighNextWrong)

/-- 'muscovadolaw01.WeighApart': WHATEVER THE INPUT: true; the input reads as it did. -/
def weighApartSpec : ChangeSpec := { name := "weighApart", fn := fun _ => fun
  | [d] => { results := [.lit (.bool true)], args := [d] }
  | _ => none }
def weighApartRow : OpenClaim := { program := "ytjjmefieegcddaadoor", sum := "b2c172bc3de7d0df4f9108d94e32ad908e5ab2290f27f2f1a312cb31983e4474", func := "muscovado/muscovadolaw01.WeighApart", spec := "weighApart", inPlace := ["internal/reflectlite.ValueOf", "(internal/reflectlite.Value).Type", "(internal/reflectlite.Value).IsNil", "internal/reflectlite.TypeOf", "(internal/reflectlite.Value).Elem", "(internal/reflectlite.Value).Set"], unfollowed := true, recurses := true, named := ["errors.errorType"], leaving := true, apart := false, laid := [("errors.errorType", laid_errors_errorType)] }
def WeighApartSaid : Prop := weighApartRow.holds Tryd.pinned (OpenSpec.ofChange weighApartSpec)

/-- ITS FALSE NEIGHBOUR: 'it returns false'. Refute it at one input. -/
def weighApartWrong : ChangeSpec := { name := "weighApart", fn := fun _ => fun
  | [d] => { results := [.lit (.bool false)], args := [d] }
  | _ => none }
def WeighApartWrongFalsely : Prop := weighApartRow.holds Tryd.pinned (OpenSpec.ofChange weighApartWrong)

/-- 'muscovadolaw01.WeighKept': WHATEVER THE INPUT: true; the input reads as it did. -/
def weighKeptSpec : ChangeSpec := { name := "weighKept", fn := fun _ => fun
  | [d] => { results := [.lit (.bool true)], args := [d] }
  | _ => none }
def weighKeptRow : OpenClaim := { program := "ytjjmefieegcddaadoor", sum := "b2c172bc3de7d0df4f9108d94e32ad908e5ab2290f27f2f1a312cb31983e4474", func := "muscovado/muscovadolaw01.WeighKept", spec := "weighKept", inPlace := ["internal/reflectlite.ValueOf", "(internal/reflectlite.Value).Type", "(internal/reflectlite.Value).IsNil", "internal/reflectlite.TypeOf", "(internal/reflectlite.Value).Elem", "(internal/reflectlite.Value).Set"], unfollowed := true, recurses := true, named := ["errors.errorType"], leaving := true, apart := false, laid := [("errors.errorType", laid_errors_errorType)] }
def WeighKeptSaid : Prop := weighKeptRow.holds Tryd.pinned (OpenSpec.ofChange weighKeptSpec)

/-- ITS FALSE NEIGHBOUR: 'it returns false'. Refute it at one input. -/
def weighKeptWrong : ChangeSpec := { name := "weighKept", fn := fun _ => fun
  | [d] => { results := [.lit (.bool false)], args := [d] }
  | _ => none }
def WeighKeptWrongFalsely : Prop := weighKeptRow.holds Tryd.pinned (OpenSpec.ofChange weighKeptWrong)

/-- 'muscovadolaw01.WeighThieves': WHATEVER THE INPUT: true; the input reads as it did. -/
def weighThievesSpec : ChangeSpec := { name := "weighThieves", fn := fun _ => fun
  | [d1, d2, d3, d4] => { results := [.lit (.bool true)], args := [d1, d2, d3, d4] }
  | _ => none }
def weighThievesRow : OpenClaim := { program := "ytjjmefieegcddaadoor", sum := "b2c172bc3de7d0df4f9108d94e32ad908e5ab2290f27f2f1a312cb31983e4474", func := "muscovado/muscovadolaw01.WeighThieves", spec := "weighThieves", inPlace := ["internal/reflectlite.ValueOf", "(internal/reflectlite.Value).Type", "(internal/reflectlite.Value).IsNil", "internal/reflectlite.TypeOf", "(internal/reflectlite.Value).Elem", "(internal/reflectlite.Value).Set"], unfollowed := true, recurses := true, named := ["errors.errorType"], leaving := true, apart := false, laid := [("errors.errorType", laid_errors_errorType)] }
def WeighThievesSaid : Prop := weighThievesRow.holds Tryd.pinned (OpenSpec.ofChange weighThievesSpec)

/-- ITS FALSE NEIGHBOUR: 'it returns false'. Refute it at one input. -/
def weighThievesWrong : ChangeSpec := { name := "weighThieves", fn := fun _ => fun
  | [d1, d2, d3, d4] => { results := [.lit (.bool false)], args := [d1, d2, d3, d4] }
  | _ => none }
def WeighThievesWrongFalsely : Prop := weighThievesRow.holds Tryd.pinned (OpenSpec.ofChange weighThievesWrong)

/-- 'muscovadolaw01.WeighCut': WHATEVER THE INPUT: true; the input reads as it did. -/
def weighCutSpec : ChangeSpec := { name := "weighCut", fn := fun _ => fun
  | [d] => { results := [.lit (.bool true)], args := [d] }
  | _ => none }
def weighCutRow : OpenClaim := { program := "ytjjmefieegcddaadoor", sum := "b2c172bc3de7d0df4f9108d94e32ad908e5ab2290f27f2f1a312cb31983e4474", func := "muscovado/muscovadolaw01.WeighCut", spec := "weighCut", inPlace := ["internal/reflectlite.ValueOf", "(internal/reflectlite.Value).Type", "(internal/reflectlite.Value).IsNil", "internal/reflectlite.TypeOf", "(internal/reflectlite.Value).Elem", "(internal/reflectlite.Value).Set"], unfollowed := true, recurses := true, named := ["errors.errorType"], leaving := true, apart := false, laid := [("errors.errorType", laid_errors_errorType)] }
def WeighCutSaid : Prop := weighCutRow.holds Tryd.pinned (OpenSpec.ofChange weighCutSpec)

/-- ITS FALSE NEIGHBOUR: 'it returns false'. Refute it at one input. -/
def weighCutWrong : ChangeSpec := { name := "weighCut", fn := fun _ => fun
  | [d] => { results := [.lit (.bool false)], args := [d] }
  | _ => none }
def WeighCutWrongFalsely : Prop := weighCutRow.holds Tryd.pinned (OpenSpec.ofChange weighCutWrong)

/-- 'muscovadolaw01.WeighStolen': WHATEVER THE INPUT: true; the input reads as it did. -/
def weighStolenSpec : ChangeSpec := { name := "weighStolen", fn := fun _ => fun
  | [d] => { results := [.lit (.bool true)], args := [d] }
  | _ => none }
def weighStolenRow : OpenClaim := { program := "ytjjmefieegcddaadoor", sum := "b2c172bc3de7d0df4f9108d94e32ad908e5ab2290f27f2f1a312cb31983e4474", func := "muscovado/muscovadolaw01.WeighStolen", spec := "weighStolen", inPlace := ["internal/reflectlite.ValueOf", "(internal/reflectlite.Value).Type", "(internal/reflectlite.Value).IsNil", "internal/reflectlite.TypeOf", "(internal/reflectlite.Value).Elem", "(internal/reflectlite.Value).Set"], unfollowed := true, recurses := true, named := ["errors.errorType"], leaving := true, apart := false, laid := [("errors.errorType", laid_errors_errorType)] }
def WeighStolenSaid : Prop := weighStolenRow.holds Tryd.pinned (OpenSpec.ofChange weighStolenSpec)

/-- ITS FALSE NEIGHBOUR: 'it returns false'. Refute it at one input. -/
def weighStolenWrong : ChangeSpec := { name := "weighStolen", fn := fun _ => fun
  | [d] => { results := [.lit (.bool false)], args := [d] }
  | _ => none }
def WeighStolenWrongFalsely : Prop := weighStolenRow.holds Tryd.pinned (OpenSpec.ofChange weighStolenWrong)

/-- 'muscovadolaw01.WeighKnots': WHATEVER THE INPUT: true; the input reads as it did. -/
def weighKnotsSpec : ChangeSpec := { name := "weighKnots", fn := fun _ => fun
  | [d1, d2, d3] => { results := [.lit (.bool true)], args := [d1, d2, d3] }
  | _ => none }
def weighKnotsRow : OpenClaim := { program := "ytjjmefieegcddaadoor", sum := "b2c172bc3de7d0df4f9108d94e32ad908e5ab2290f27f2f1a312cb31983e4474", func := "muscovado/muscovadolaw01.WeighKnots", spec := "weighKnots", inPlace := ["internal/reflectlite.ValueOf", "(internal/reflectlite.Value).Type", "(internal/reflectlite.Value).IsNil", "internal/reflectlite.TypeOf", "(internal/reflectlite.Value).Elem", "(internal/reflectlite.Value).Set"], unfollowed := true, recurses := true, named := ["errors.errorType"], leaving := true, apart := false, laid := [("errors.errorType", laid_errors_errorType)] }
def WeighKnotsSaid : Prop := weighKnotsRow.holds Tryd.pinned (OpenSpec.ofChange weighKnotsSpec)

/-- ITS FALSE NEIGHBOUR: 'it returns false'. Refute it at one input. -/
def weighKnotsWrong : ChangeSpec := { name := "weighKnots", fn := fun _ => fun
  | [d1, d2, d3] => { results := [.lit (.bool false)], args := [d1, d2, d3] }
  | _ => none }
def WeighKnotsWrongFalsely : Prop := weighKnotsRow.holds Tryd.pinned (OpenSpec.ofChange weighKnotsWrong)

/-- 'muscovadolaw01.WeighHeavier': WHATEVER THE INPUT: true; the input reads as it did. -/
def weighHeavierSpec : ChangeSpec := { name := "weighHeavier", fn := fun _ => fun
  | [d] => { results := [.lit (.bool true)], args := [d] }
  | _ => none }
def weighHeavierRow : OpenClaim := { program := "ytjjmefieegcddaadoor", sum := "b2c172bc3de7d0df4f9108d94e32ad908e5ab2290f27f2f1a312cb31983e4474", func := "muscovado/muscovadolaw01.WeighHeavier", spec := "weighHeavier", inPlace := ["internal/reflectlite.ValueOf", "(internal/reflectlite.Value).Type", "(internal/reflectlite.Value).IsNil", "internal/reflectlite.TypeOf", "(internal/reflectlite.Value).Elem", "(internal/reflectlite.Value).Set"], unfollowed := true, recurses := true, named := ["errors.errorType"], leaving := true, apart := false, laid := [("errors.errorType", laid_errors_errorType)] }
def WeighHeavierSaid : Prop := weighHeavierRow.holds Tryd.pinned (OpenSpec.ofChange weighHeavierSpec)

/-- ITS FALSE NEIGHBOUR: 'it returns false'. Refute it at one input. -/
def weighHeavierWrong : ChangeSpec := { name := "weighHeavier", fn := fun _ => fun
  | [d] => { results := [.lit (.bool false)], args := [d] }
  | _ => none }
def WeighHeavierWrongFalsely : Prop := weighHeavierRow.holds Tryd.pinned (OpenSpec.ofChange weighHeavierWrong)

/-- 'muscovadolaw01.WeighNumbered': WHATEVER THE INPUT: true; the input reads as it did. -/
def weighNumberedSpec : ChangeSpec := { name := "weighNumbered", fn := fun _ => fun
  | [d] => { results := [.lit (.bool true)], args := [d] }
  | _ => none }
def weighNumberedRow : OpenClaim := { program := "ytjjmefieegcddaadoor", sum := "b2c172bc3de7d0df4f9108d94e32ad908e5ab2290f27f2f1a312cb31983e4474", func := "muscovado/muscovadolaw01.WeighNumbered", spec := "weighNumbered", inPlace := ["internal/reflectlite.ValueOf", "(internal/reflectlite.Value).Type", "(internal/reflectlite.Value).IsNil", "internal/reflectlite.TypeOf", "(internal/reflectlite.Value).Elem", "(internal/reflectlite.Value).Set"], unfollowed := true, recurses := true, named := ["errors.errorType"], leaving := true, apart := false, laid := [("errors.errorType", laid_errors_errorType)] }
def WeighNumberedSaid : Prop := weighNumberedRow.holds Tryd.pinned (OpenSpec.ofChange weighNumberedSpec)

/-- ITS FALSE NEIGHBOUR: 'it returns false'. Refute it at one input. -/
def weighNumberedWrong : ChangeSpec := { name := "weighNumbered", fn := fun _ => fun
  | [d] => { results := [.lit (.bool false)], args := [d] }
  | _ => none }
def WeighNumberedWrongFalsely : Prop := weighNumberedRow.holds Tryd.pinned (OpenSpec.ofChange weighNumberedWrong)

/-- 'muscovadolaw01.WeighMore': WHATEVER THE INPUT: true; the input reads as it did. -/
def weighMoreSpec : ChangeSpec := { name := "weighMore", fn := fun _ => fun
  | [d] => { results := [.lit (.bool true)], args := [d] }
  | _ => none }
def weighMoreRow : OpenClaim := { program := "ytjjmefieegcddaadoor", sum := "b2c172bc3de7d0df4f9108d94e32ad908e5ab2290f27f2f1a312cb31983e4474", func := "muscovado/muscovadolaw01.WeighMore", spec := "weighMore", inPlace := ["internal/reflectlite.ValueOf", "(internal/reflectlite.Value).Type", "(internal/reflectlite.Value).IsNil", "internal/reflectlite.TypeOf", "(internal/reflectlite.Value).Elem", "(internal/reflectlite.Value).Set"], unfollowed := true, recurses := true, named := ["errors.errorType"], leaving := true, apart := false, laid := [("errors.errorType", laid_errors_errorType)] }
def WeighMoreSaid : Prop := weighMoreRow.holds Tryd.pinned (OpenSpec.ofChange weighMoreSpec)

/-- ITS FALSE NEIGHBOUR: 'it returns false'. Refute it at one input. -/
def weighMoreWrong : ChangeSpec := { name := "weighMore", fn := fun _ => fun
  | [d] => { results := [.lit (.bool false)], args := [d] }
  | _ => none }
def WeighMoreWrongFalsely : Prop := weighMoreRow.holds Tryd.pinned (OpenSpec.ofChange weighMoreWrong)

/-- 'muscovadolaw01.WeighScales': WHATEVER THE INPUT: true; the input reads as it did. -/
def weighScalesSpec : ChangeSpec := { name := "weighScales", fn := fun _ => fun
  | [d] => { results := [.lit (.bool true)], args := [d] }
  | _ => none }
def weighScalesRow : OpenClaim := { program := "ytjjmefieegcddaadoor", sum := "b2c172bc3de7d0df4f9108d94e32ad908e5ab2290f27f2f1a312cb31983e4474", func := "muscovado/muscovadolaw01.WeighScales", spec := "weighScales", inPlace := ["internal/reflectlite.ValueOf", "(internal/reflectlite.Value).Type", "(internal/reflectlite.Value).IsNil", "internal/reflectlite.TypeOf", "(internal/reflectlite.Value).Elem", "(internal/reflectlite.Value).Set"], unfollowed := true, recurses := true, named := ["errors.errorType"], leaving := true, apart := false, laid := [("errors.errorType", laid_errors_errorType)] }
def WeighScalesSaid : Prop := weighScalesRow.holds Tryd.pinned (OpenSpec.ofChange weighScalesSpec)

/-- ITS FALSE NEIGHBOUR: 'it returns false'. Refute it at one input. -/
def weighScalesWrong : ChangeSpec := { name := "weighScales", fn := fun _ => fun
  | [d] => { results := [.lit (.bool false)], args := [d] }
  | _ => none }
def WeighScalesWrongFalsely : Prop := weighScalesRow.holds Tryd.pinned (OpenSpec.ofChange weighScalesWrong)

/-- 'muscovadolaw01.WeighBounds': WHATEVER THE INPUT: true; the input reads as it did. -/
def weighBoundsSpec : ChangeSpec := { name := "weighBounds", fn := fun _ => fun
  | [d1, d2, d3, d4] => { results := [.lit (.bool true)], args := [d1, d2, d3, d4] }
  | _ => none }
def weighBoundsRow : OpenClaim := { program := "ytjjmefieegcddaadoor", sum := "b2c172bc3de7d0df4f9108d94e32ad908e5ab2290f27f2f1a312cb31983e4474", func := "muscovado/muscovadolaw01.WeighBounds", spec := "weighBounds", inPlace := ["internal/reflectlite.ValueOf", "(internal/reflectlite.Value).Type", "(internal/reflectlite.Value).IsNil", "internal/reflectlite.TypeOf", "(internal/reflectlite.Value).Elem", "(internal/reflectlite.Value).Set"], unfollowed := true, recurses := true, named := ["errors.errorType"], leaving := true, apart := false, laid := [("errors.errorType", laid_errors_errorType)] }
def WeighBoundsSaid : Prop := weighBoundsRow.holds Tryd.pinned (OpenSpec.ofChange weighBoundsSpec)

/-- ITS FALSE NEIGHBOUR: 'it returns false'. Refute it at one input. -/
def weighBoundsWrong : ChangeSpec := { name := "weighBounds", fn := fun _ => fun
  | [d1, d2, d3, d4] => { results := [.lit (.bool false)], args := [d1, d2, d3, d4] }
  | _ => none }
def WeighBoundsWrongFalsely : Prop := weighBoundsRow.holds Tryd.pinned (OpenSpec.ofChange weighBoundsWrong)

/-- 'muscovadolaw01.WeighAll': WHATEVER THE INPUT: true; the input reads as it did. -/
def weighAllSpec : ChangeSpec := { name := "weighAll", fn := fun _ => fun
  | [d] => { results := [.lit (.bool true)], args := [d] }
  | _ => none }
def weighAllRow : OpenClaim := { program := "ytjjmefieegcddaadoor", sum := "b2c172bc3de7d0df4f9108d94e32ad908e5ab2290f27f2f1a312cb31983e4474", func := "muscovado/muscovadolaw01.WeighAll", spec := "weighAll", inPlace := ["internal/reflectlite.ValueOf", "(internal/reflectlite.Value).Type", "(internal/reflectlite.Value).IsNil", "internal/reflectlite.TypeOf", "(internal/reflectlite.Value).Elem", "(internal/reflectlite.Value).Set"], unfollowed := true, recurses := true, named := ["errors.errorType"], leaving := true, apart := false, laid := [("errors.errorType", laid_errors_errorType)] }
def WeighAllSaid : Prop := weighAllRow.holds Tryd.pinned (OpenSpec.ofChange weighAllSpec)

/-- ITS FALSE NEIGHBOUR: 'it returns false'. Refute it at one input. -/
def weighAllWrong : ChangeSpec := { name := "weighAll", fn := fun _ => fun
  | [d] => { results := [.lit (.bool false)], args := [d] }
  | _ => none }
def WeighAllWrongFalsely : Prop := weighAllRow.holds Tryd.pinned (OpenSpec.ofChange weighAllWrong)

/-- 'muscovadolaw01.WeighUseless': WHATEVER THE INPUT: true; the input reads as it did. -/
def weighUselessSpec : ChangeSpec := { name := "weighUseless", fn := fun _ => fun
  | [d] => { results := [.lit (.bool true)], args := [d] }
  | _ => none }
def weighUselessRow : OpenClaim := { program := "ytjjmefieegcddaadoor", sum := "b2c172bc3de7d0df4f9108d94e32ad908e5ab2290f27f2f1a312cb31983e4474", func := "muscovado/muscovadolaw01.WeighUseless", spec := "weighUseless", inPlace := ["internal/reflectlite.ValueOf", "(internal/reflectlite.Value).Type", "(internal/reflectlite.Value).IsNil", "internal/reflectlite.TypeOf", "(internal/reflectlite.Value).Elem", "(internal/reflectlite.Value).Set"], unfollowed := true, recurses := true, named := ["errors.errorType"], leaving := true, apart := false, laid := [("errors.errorType", laid_errors_errorType)] }
def WeighUselessSaid : Prop := weighUselessRow.holds Tryd.pinned (OpenSpec.ofChange weighUselessSpec)

/-- ITS FALSE NEIGHBOUR: 'it returns false'. Refute it at one input. -/
def weighUselessWrong : ChangeSpec := { name := "weighUseless", fn := fun _ => fun
  | [d] => { results := [.lit (.bool false)], args := [d] }
  | _ => none }
def WeighUselessWrongFalsely : Prop := weighUselessRow.holds Tryd.pinned (OpenSpec.ofChange weighUselessWrong)

/-- 'muscovadolaw01.WeighKnown': WHATEVER THE INPUT: true; the input reads as it did. -/
def weighKnownSpec : ChangeSpec := { name := "weighKnown", fn := fun _ => fun
  | [] => { results := [.lit (.bool true)], args := [] }
  | _ => none }
def weighKnownRow : OpenClaim := { program := "ytjjmefieegcddaadoor", sum := "b2c172bc3de7d0df4f9108d94e32ad908e5ab2290f27f2f1a312cb31983e4474", func := "muscovado/muscovadolaw01.WeighKnown", spec := "weighKnown", inPlace := ["internal/reflectlite.ValueOf", "(internal/reflectlite.Value).Type", "(internal/reflectlite.Value).IsNil", "internal/reflectlite.TypeOf", "(internal/reflectlite.Value).Elem", "(internal/reflectlite.Value).Set"], unfollowed := true, recurses := true, named := ["errors.errorType"], leaving := true, apart := false, laid := [("errors.errorType", laid_errors_errorType)] }
def WeighKnownSaid : Prop := weighKnownRow.holds Tryd.pinned (OpenSpec.ofChange weighKnownSpec)

/-- ITS FALSE NEIGHBOUR: 'it returns false'. Refute it at one input. -/
def weighKnownWrong : ChangeSpec := { name := "weighKnown", fn := fun _ => fun
  | [] => { results := [.lit (.bool false)], args := [] }
  | _ => none }
def WeighKnownWrongFalsely : Prop := weighKnownRow.holds Tryd.pinned (OpenSpec.ofChange weighKnownWrong)

/- THE SECOND FORM. 'bulk': how many values and letters a reading holds, each counted each time it is reached (what is shared counts as often as it is met; a slice's spare places count too). A statement '..UptoSaid' is the law's where the arguments, and the package variables that the reading takes, are together of bulk at most 1048576: NARROWER than '..Said'. Prove '..Said' where nothing that the law and all that it calls make is longer than what came in: it says more and counts as full. Else prove '..UptoSaid'. A law counts once. -/
mutual
def uptoBulk {H : Type} : DataW H → Nat
  | .lit (.string bytes) => bytes.length + 1
  | .lit _ => 1
  | .nil => 1
  | .ptr d => uptoBulk d + 1
  | .slice elems spare => uptoBulkAll elems + uptoBulkAll spare + 1
  | .agg parts => uptoBulkAll parts + 1
  | .iface _ d => uptoBulk d + 1
  | .map entries => uptoBulkEntries entries + 1
  | .held _ => 1
def uptoBulkAll {H : Type} : List (DataW H) → Nat
  | [] => 0
  | d :: r => uptoBulk d + uptoBulkAll r
def uptoBulkEntries {H : Type} : List (Lit × DataW H) → Nat
  | [] => 0
  | x :: r => uptoBulkEntry x + uptoBulkEntries r
def uptoBulkEntry {H : Type} : Lit × DataW H → Nat
  | (.string bytes, d) => bytes.length + uptoBulk d + 1
  | (_, d) => uptoBulk d + 1
 end
def uptoSmall : (H : Type) → List (DataW H) → Bool := fun _ ds => decide (uptoBulkAll ds ≤ 1048576)
def OpenSpec.upto (s : _root_.Go.ChangeSpec) : _root_.Go.OpenSpec := { _root_.Go.OpenSpec.ofChange s with cond := some uptoSmall }

/-- 'muscovadolaw01.WeighChecks', WHERE WHAT IT READS IS OF BULK AT MOST 1048576: true; the input reads as it did. -/
def weighChecksUptoRow : OpenClaim := { program := "ytjjmefieegcddaadoor", sum := "b2c172bc3de7d0df4f9108d94e32ad908e5ab2290f27f2f1a312cb31983e4474", func := "muscovado/muscovadolaw01.WeighChecks", spec := "weighChecks", inPlace := ["internal/reflectlite.ValueOf", "(internal/reflectlite.Value).Type", "(internal/reflectlite.Value).IsNil", "internal/reflectlite.TypeOf", "(internal/reflectlite.Value).Elem", "(internal/reflectlite.Value).Set"], unfollowed := true, recurses := true, named := ["errors.errorType"], leaving := true, apart := false, laid := [("errors.errorType", laid_errors_errorType)], narrowed := true }
def WeighChecksUptoSaid : Prop := weighChecksUptoRow.holds Tryd.pinned (OpenSpec.upto weighChecksSpec)

/-- 'muscovadolaw01.WeighKnot', WHERE WHAT IT READS IS OF BULK AT MOST 1048576: true; the input reads as it did. -/
def weighKnotUptoRow : OpenClaim := { program := "ytjjmefieegcddaadoor", sum := "b2c172bc3de7d0df4f9108d94e32ad908e5ab2290f27f2f1a312cb31983e4474", func := "muscovado/muscovadolaw01.WeighKnot", spec := "weighKnot", inPlace := ["internal/reflectlite.ValueOf", "(internal/reflectlite.Value).Type", "(internal/reflectlite.Value).IsNil", "internal/reflectlite.TypeOf", "(internal/reflectlite.Value).Elem", "(internal/reflectlite.Value).Set"], unfollowed := true, recurses := true, named := ["errors.errorType"], leaving := true, apart := false, laid := [("errors.errorType", laid_errors_errorType)], narrowed := true }
def WeighKnotUptoSaid : Prop := weighKnotUptoRow.holds Tryd.pinned (OpenSpec.upto weighKnotSpec)

/-- 'muscovadolaw01.WeighNext', WHERE WHAT IT READS IS OF BULK AT MOST 1048576: true; the input reads as it did. -/
def weighNextUptoRow : OpenClaim := { program := "ytjjmefieegcddaadoor", sum := "b2c172bc3de7d0df4f9108d94e32ad908e5ab2290f27f2f1a312cb31983e4474", func := "muscovado/muscovadolaw01.WeighNext", spec := "weighNext", inPlace := ["internal/reflectlite.ValueOf", "(internal/reflectlite.Value).Type", "(internal/reflectlite.Value).IsNil", "internal/reflectlite.TypeOf", "(internal/reflectlite.Value).Elem", "(internal/reflectlite.Value).Set"], unfollowed := true, recurses := true, named := ["errors.errorType"], leaving := true, apart := false, laid := [("errors.errorType", laid_errors_errorType)], narrowed := true }
def WeighNextUptoSaid : Prop := weighNextUptoRow.holds Tryd.pinned (OpenSpec.upto weighNextSpec)

/-- 'muscovadolaw01.WeighApart', WHERE WHAT IT READS IS OF BULK AT MOST 1048576: true; the input reads as it did. -/
def weighApartUptoRow : OpenClaim := { program := "ytjjmefieegcddaadoor", sum := "b2c172bc3de7d0df4f9108d94e32ad908e5ab2290f27f2f1a312cb31983e4474", func := "muscovado/muscovadolaw01.WeighApart", spec := "weighApart", inPlace := ["internal/reflectlite.ValueOf", "(internal/reflectlite.Value).Type", "(internal/reflectlite.Value).IsNil", "internal/reflectlite.TypeOf", "(internal/reflectlite.Value).Elem", "(internal/reflectlite.Value).Set"], unfollowed := true, recurses := true, named := ["errors.errorType"], leaving := true, apart := false, laid := [("errors.errorType", laid_errors_errorType)], narrowed := true }
def WeighApartUptoSaid : Prop := weighApartUptoRow.holds Tryd.pinned (OpenSpec.upto weighApartSpec)

/-- 'muscovadolaw01.WeighKept', WHERE WHAT IT READS IS OF BULK AT MOST 1048576: true; the input reads as it did. -/
def weighKeptUptoRow : OpenClaim := { program := "ytjjmefieegcddaadoor", sum := "b2c172bc3de7d0df4f9108d94e32ad908e5ab2290f27f2f1a312cb31983e4474", func := "muscovado/muscovadolaw01.WeighKept", spec := "weighKept", inPlace := ["internal/reflectlite.ValueOf", "(internal/reflectlite.Value).Type", "(internal/reflectlite.Value).IsNil", "internal/reflectlite.TypeOf", "(internal/reflectlite.Value).Elem", "(internal/reflectlite.Value).Set"], unfollowed := true, recurses := true, named := ["errors.errorType"], leaving := true, apart := false, laid := [("errors.errorType", laid_errors_errorType)], narrowed := true }
def WeighKeptUptoSaid : Prop := weighKeptUptoRow.holds Tryd.pinned (OpenSpec.upto weighKeptSpec)

/-- 'muscovadolaw01.WeighThieves', WHERE WHAT IT READS IS OF BULK AT MOST 1048576: true; the input reads as it did. -/
def weighThievesUptoRow : OpenClaim := { program := "ytjjmefieegcddaadoor", sum := "b2c172bc3de7d0df4f9108d94e32ad908e5ab2290f27f2f1a312cb31983e4474", func := "muscovado/muscovadolaw01.WeighThieves", spec := "weighThieves", inPlace := ["internal/reflectlite.ValueOf", "(internal/reflectlite.Value).Type", "(internal/reflectlite.Value).IsNil", "internal/reflectlite.TypeOf", "(internal/reflectlite.Value).Elem", "(internal/reflectlite.Value).Set"], unfollowed := true, recurses := true, named := ["errors.errorType"], leaving := true, apart := false, laid := [("errors.errorType", laid_errors_errorType)], narrowed := true }
def WeighThievesUptoSaid : Prop := weighThievesUptoRow.holds Tryd.pinned (OpenSpec.upto weighThievesSpec)

/-- 'muscovadolaw01.WeighCut', WHERE WHAT IT READS IS OF BULK AT MOST 1048576: true; the input reads as it did. -/
def weighCutUptoRow : OpenClaim := { program := "ytjjmefieegcddaadoor", sum := "b2c172bc3de7d0df4f9108d94e32ad908e5ab2290f27f2f1a312cb31983e4474", func := "muscovado/muscovadolaw01.WeighCut", spec := "weighCut", inPlace := ["internal/reflectlite.ValueOf", "(internal/reflectlite.Value).Type", "(internal/reflectlite.Value).IsNil", "internal/reflectlite.TypeOf", "(internal/reflectlite.Value).Elem", "(internal/reflectlite.Value).Set"], unfollowed := true, recurses := true, named := ["errors.errorType"], leaving := true, apart := false, laid := [("errors.errorType", laid_errors_errorType)], narrowed := true }
def WeighCutUptoSaid : Prop := weighCutUptoRow.holds Tryd.pinned (OpenSpec.upto weighCutSpec)

/-- 'muscovadolaw01.WeighStolen', WHERE WHAT IT READS IS OF BULK AT MOST 1048576: true; the input reads as it did. -/
def weighStolenUptoRow : OpenClaim := { program := "ytjjmefieegcddaadoor", sum := "b2c172bc3de7d0df4f9108d94e32ad908e5ab2290f27f2f1a312cb31983e4474", func := "muscovado/muscovadolaw01.WeighStolen", spec := "weighStolen", inPlace := ["internal/reflectlite.ValueOf", "(internal/reflectlite.Value).Type", "(internal/reflectlite.Value).IsNil", "internal/reflectlite.TypeOf", "(internal/reflectlite.Value).Elem", "(internal/reflectlite.Value).Set"], unfollowed := true, recurses := true, named := ["errors.errorType"], leaving := true, apart := false, laid := [("errors.errorType", laid_errors_errorType)], narrowed := true }
def WeighStolenUptoSaid : Prop := weighStolenUptoRow.holds Tryd.pinned (OpenSpec.upto weighStolenSpec)

/-- 'muscovadolaw01.WeighKnots', WHERE WHAT IT READS IS OF BULK AT MOST 1048576: true; the input reads as it did. -/
def weighKnotsUptoRow : OpenClaim := { program := "ytjjmefieegcddaadoor", sum := "b2c172bc3de7d0df4f9108d94e32ad908e5ab2290f27f2f1a312cb31983e4474", func := "muscovado/muscovadolaw01.WeighKnots", spec := "weighKnots", inPlace := ["internal/reflectlite.ValueOf", "(internal/reflectlite.Value).Type", "(internal/reflectlite.Value).IsNil", "internal/reflectlite.TypeOf", "(internal/reflectlite.Value).Elem", "(internal/reflectlite.Value).Set"], unfollowed := true, recurses := true, named := ["errors.errorType"], leaving := true, apart := false, laid := [("errors.errorType", laid_errors_errorType)], narrowed := true }
def WeighKnotsUptoSaid : Prop := weighKnotsUptoRow.holds Tryd.pinned (OpenSpec.upto weighKnotsSpec)

/-- 'muscovadolaw01.WeighHeavier', WHERE WHAT IT READS IS OF BULK AT MOST 1048576: true; the input reads as it did. -/
def weighHeavierUptoRow : OpenClaim := { program := "ytjjmefieegcddaadoor", sum := "b2c172bc3de7d0df4f9108d94e32ad908e5ab2290f27f2f1a312cb31983e4474", func := "muscovado/muscovadolaw01.WeighHeavier", spec := "weighHeavier", inPlace := ["internal/reflectlite.ValueOf", "(internal/reflectlite.Value).Type", "(internal/reflectlite.Value).IsNil", "internal/reflectlite.TypeOf", "(internal/reflectlite.Value).Elem", "(internal/reflectlite.Value).Set"], unfollowed := true, recurses := true, named := ["errors.errorType"], leaving := true, apart := false, laid := [("errors.errorType", laid_errors_errorType)], narrowed := true }
def WeighHeavierUptoSaid : Prop := weighHeavierUptoRow.holds Tryd.pinned (OpenSpec.upto weighHeavierSpec)

/-- 'muscovadolaw01.WeighNumbered', WHERE WHAT IT READS IS OF BULK AT MOST 1048576: true; the input reads as it did. -/
def weighNumberedUptoRow : OpenClaim := { program := "ytjjmefieegcddaadoor", sum := "b2c172bc3de7d0df4f9108d94e32ad908e5ab2290f27f2f1a312cb31983e4474", func := "muscovado/muscovadolaw01.WeighNumbered", spec := "weighNumbered", inPlace := ["internal/reflectlite.ValueOf", "(internal/reflectlite.Value).Type", "(internal/reflectlite.Value).IsNil", "internal/reflectlite.TypeOf", "(internal/reflectlite.Value).Elem", "(internal/reflectlite.Value).Set"], unfollowed := true, recurses := true, named := ["errors.errorType"], leaving := true, apart := false, laid := [("errors.errorType", laid_errors_errorType)], narrowed := true }
def WeighNumberedUptoSaid : Prop := weighNumberedUptoRow.holds Tryd.pinned (OpenSpec.upto weighNumberedSpec)

/-- 'muscovadolaw01.WeighMore', WHERE WHAT IT READS IS OF BULK AT MOST 1048576: true; the input reads as it did. -/
def weighMoreUptoRow : OpenClaim := { program := "ytjjmefieegcddaadoor", sum := "b2c172bc3de7d0df4f9108d94e32ad908e5ab2290f27f2f1a312cb31983e4474", func := "muscovado/muscovadolaw01.WeighMore", spec := "weighMore", inPlace := ["internal/reflectlite.ValueOf", "(internal/reflectlite.Value).Type", "(internal/reflectlite.Value).IsNil", "internal/reflectlite.TypeOf", "(internal/reflectlite.Value).Elem", "(internal/reflectlite.Value).Set"], unfollowed := true, recurses := true, named := ["errors.errorType"], leaving := true, apart := false, laid := [("errors.errorType", laid_errors_errorType)], narrowed := true }
def WeighMoreUptoSaid : Prop := weighMoreUptoRow.holds Tryd.pinned (OpenSpec.upto weighMoreSpec)

/-- 'muscovadolaw01.WeighScales', WHERE WHAT IT READS IS OF BULK AT MOST 1048576: true; the input reads as it did. -/
def weighScalesUptoRow : OpenClaim := { program := "ytjjmefieegcddaadoor", sum := "b2c172bc3de7d0df4f9108d94e32ad908e5ab2290f27f2f1a312cb31983e4474", func := "muscovado/muscovadolaw01.WeighScales", spec := "weighScales", inPlace := ["internal/reflectlite.ValueOf", "(internal/reflectlite.Value).Type", "(internal/reflectlite.Value).IsNil", "internal/reflectlite.TypeOf", "(internal/reflectlite.Value).Elem", "(internal/reflectlite.Value).Set"], unfollowed := true, recurses := true, named := ["errors.errorType"], leaving := true, apart := false, laid := [("errors.errorType", laid_errors_errorType)], narrowed := true }
def WeighScalesUptoSaid : Prop := weighScalesUptoRow.holds Tryd.pinned (OpenSpec.upto weighScalesSpec)

/-- 'muscovadolaw01.WeighBounds', WHERE WHAT IT READS IS OF BULK AT MOST 1048576: true; the input reads as it did. -/
def weighBoundsUptoRow : OpenClaim := { program := "ytjjmefieegcddaadoor", sum := "b2c172bc3de7d0df4f9108d94e32ad908e5ab2290f27f2f1a312cb31983e4474", func := "muscovado/muscovadolaw01.WeighBounds", spec := "weighBounds", inPlace := ["internal/reflectlite.ValueOf", "(internal/reflectlite.Value).Type", "(internal/reflectlite.Value).IsNil", "internal/reflectlite.TypeOf", "(internal/reflectlite.Value).Elem", "(internal/reflectlite.Value).Set"], unfollowed := true, recurses := true, named := ["errors.errorType"], leaving := true, apart := false, laid := [("errors.errorType", laid_errors_errorType)], narrowed := true }
def WeighBoundsUptoSaid : Prop := weighBoundsUptoRow.holds Tryd.pinned (OpenSpec.upto weighBoundsSpec)

/-- 'muscovadolaw01.WeighAll', WHERE WHAT IT READS IS OF BULK AT MOST 1048576: true; the input reads as it did. -/
def weighAllUptoRow : OpenClaim := { program := "ytjjmefieegcddaadoor", sum := "b2c172bc3de7d0df4f9108d94e32ad908e5ab2290f27f2f1a312cb31983e4474", func := "muscovado/muscovadolaw01.WeighAll", spec := "weighAll", inPlace := ["internal/reflectlite.ValueOf", "(internal/reflectlite.Value).Type", "(internal/reflectlite.Value).IsNil", "internal/reflectlite.TypeOf", "(internal/reflectlite.Value).Elem", "(internal/reflectlite.Value).Set"], unfollowed := true, recurses := true, named := ["errors.errorType"], leaving := true, apart := false, laid := [("errors.errorType", laid_errors_errorType)], narrowed := true }
def WeighAllUptoSaid : Prop := weighAllUptoRow.holds Tryd.pinned (OpenSpec.upto weighAllSpec)

/-- 'muscovadolaw01.WeighUseless', WHERE WHAT IT READS IS OF BULK AT MOST 1048576: true; the input reads as it did. -/
def weighUselessUptoRow : OpenClaim := { program := "ytjjmefieegcddaadoor", sum := "b2c172bc3de7d0df4f9108d94e32ad908e5ab2290f27f2f1a312cb31983e4474", func := "muscovado/muscovadolaw01.WeighUseless", spec := "weighUseless", inPlace := ["internal/reflectlite.ValueOf", "(internal/reflectlite.Value).Type", "(internal/reflectlite.Value).IsNil", "internal/reflectlite.TypeOf", "(internal/reflectlite.Value).Elem", "(internal/reflectlite.Value).Set"], unfollowed := true, recurses := true, named := ["errors.errorType"], leaving := true, apart := false, laid := [("errors.errorType", laid_errors_errorType)], narrowed := true }
def WeighUselessUptoSaid : Prop := weighUselessUptoRow.holds Tryd.pinned (OpenSpec.upto weighUselessSpec)

/-- 'muscovadolaw01.WeighKnown', WHERE WHAT IT READS IS OF BULK AT MOST 1048576: true; the input reads as it did. -/
def weighKnownUptoRow : OpenClaim := { program := "ytjjmefieegcddaadoor", sum := "b2c172bc3de7d0df4f9108d94e32ad908e5ab2290f27f2f1a312cb31983e4474", func := "muscovado/muscovadolaw01.WeighKnown", spec := "weighKnown", inPlace := ["internal/reflectlite.ValueOf", "(internal/reflectlite.Value).Type", "(internal/reflectlite.Value).IsNil", "internal/reflectlite.TypeOf", "(internal/reflectlite.Value).Elem", "(internal/reflectlite.Value).Set"], unfollowed := true, recurses := true, named := ["errors.errorType"], leaving := true, apart := false, laid := [("errors.errorType", laid_errors_errorType)], narrowed := true }
def WeighKnownUptoSaid : Prop := weighKnownUptoRow.holds Tryd.pinned (OpenSpec.upto weighKnownSpec)

end Rows
end Go.Proofs.YtjjmefieegcddaaDoor
