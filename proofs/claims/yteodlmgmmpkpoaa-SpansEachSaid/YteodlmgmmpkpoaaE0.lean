/-
Proved: what 'swashplatelaw01.SpansEach' computes.
-/
import Derived.Test.YteodlmgmmpkpoaaB3
section
namespace Go.Proofs.YteodlmgmmpkpoaaW.PrintWords
open Go.RowKit
def mx (a b : Int) : Int := if a < b then b else a
def mn (a b : Int) : Int := if b < a then b else a
end Go.Proofs.YteodlmgmmpkpoaaW.PrintWords
end
