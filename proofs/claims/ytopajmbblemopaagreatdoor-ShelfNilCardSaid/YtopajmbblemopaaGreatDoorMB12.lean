/-
  Lemmas, joined of the texts Open.
-/
import Derived.Test.YtopajmbblemopaaGreatDoorMB11
import Derived.Test.YtopajmbblemopaaGreatDoorMB5
namespace Go.Proofs.YtopajmbblemopaaGreatDoor
set_option linter.unusedVariables false
set_option linter.unusedSimpArgs false
open Go.RowKit

section
variable {H : Type} {enc : TypeId × Value → H} {P : Program} {w : World} {spare : Nat → Bool} {held : Bool}

end
end Go.Proofs.YtopajmbblemopaaGreatDoor
