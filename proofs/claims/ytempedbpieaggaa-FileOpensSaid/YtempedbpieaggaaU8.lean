/- Bytes as data. -/
import Derived.Test.YtempedbpieaggaaProg
import Derived.Test.YtempedbpieaggaaNiceR
namespace Go.Proofs.Ytempedbpieaggaa.Nice
open Go
set_option linter.unusedVariables false
set_option linter.unusedSimpArgs false
set_option maxRecDepth 100000
set_option maxHeartbeats 4000000
def GF : Nat → SV := fun _ => .any
structure Bytes (l : List Int) : Prop where
  n : l.length ≤ 140737488351232
  b : ∀ k, 0 ≤ l.getD k 0 ∧ l.getD k 0 ≤ 255
def u8F (l : List Int) : Nat → Nat → D := fun i _ => .val (.int .u8 (l.getD i 0))
def u8V (l : List Int) : SV := .d (.vec 1 l.length (u8F l))

end Go.Proofs.Ytempedbpieaggaa.Nice
