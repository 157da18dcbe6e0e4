-- Out of the printed words: what this claim names (prune.py of the repo).
import Derived.Test.YtopajmbblemopaaGreatDoorWTab
/-! ### 56. Four, five, six operations that may come up next, in any order -/
namespace Go.Proofs.YtopajmbblemopaaGreatDoorW.PrintLast
section
variable {P : Program} {ops : Array Oper} {Q : Exit → Act → World → Prop} {md : Region.Mode} {S : World → Prop} {ds : List Nat} {T : Bool × List (List Nat × List Nat)}
end
end Go.Proofs.YtopajmbblemopaaGreatDoorW.PrintLast
