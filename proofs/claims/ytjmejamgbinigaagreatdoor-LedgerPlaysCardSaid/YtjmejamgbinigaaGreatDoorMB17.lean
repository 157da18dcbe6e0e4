/-
  Lemmas, joined of the texts LStr.
-/
import Derived.Test.YtjmejamgbinigaaGreatDoorMB16
import Derived.Test.YtjmejamgbinigaaGreatDoorMB8
namespace Go.Proofs.YtjmejamgbinigaaGreatDoor
set_option linter.unusedVariables false
set_option linter.unusedSimpArgs false
open Go.RowKit Go.Proofs.YtjmejamgbinigaaGreatDoorW.PrintWords Go.Proofs.YtjmejamgbinigaaGreatDoorW.PrintLast
section
variable {H : Type} {enc : TypeId × Value → H} {w : World} {spare : Nat → Bool} {held : Bool}
end
end Go.Proofs.YtjmejamgbinigaaGreatDoor
