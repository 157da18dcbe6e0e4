-- Out of the printed words: what this claim names (prune.py of the repo).
import Derived.Test.YtopajmbblemopaaGreatDoorWInv
import Derived.Test.YtopajmbblemopaaGreatDoorWFootNe
namespace Go.Proofs.YtopajmbblemopaaGreatDoorW.PrintWords
open Go.RowKit
end Go.Proofs.YtopajmbblemopaaGreatDoorW.PrintWords
namespace Go.Proofs.YtopajmbblemopaaGreatDoorW.PrintLast
section
variable {ops : Array Oper} {a : Act} {o og : Oper} {g : Nat} {t : Tmp} {u : Bool}
end
end Go.Proofs.YtopajmbblemopaaGreatDoorW.PrintLast
