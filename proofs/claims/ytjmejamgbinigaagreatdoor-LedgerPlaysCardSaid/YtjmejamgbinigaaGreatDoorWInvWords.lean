-- Out of the printed words: what this claim names (prune.py of the repo).
import Derived.Test.YtjmejamgbinigaaGreatDoorWInv
import Derived.Test.YtjmejamgbinigaaGreatDoorWFootNe
namespace Go.Proofs.YtjmejamgbinigaaGreatDoorW.PrintWords
open Go.RowKit
end Go.Proofs.YtjmejamgbinigaaGreatDoorW.PrintWords
namespace Go.Proofs.YtjmejamgbinigaaGreatDoorW.PrintLast
section
variable {ops : Array Oper} {a : Act} {o og : Oper} {g : Nat} {t : Tmp} {u : Bool}
end
end Go.Proofs.YtjmejamgbinigaaGreatDoorW.PrintLast
