/-
  spec.NewKeys, impl.NewKeys: the keys that are new.
-/
import Derived.Test.YtjajcionbnfldaaDelete
import Derived.Test.YtjajcionbnfldaaKeys
namespace Go.Proofs.Ytjajcionbnfldaa
open Go.RowKit

def newF (a b : List Int) : List Int := if vkB a && vkB b then missF b a else []
theorem MadeI.nil (w : World) : MadeI w [] (.returned (.slice none 0 0)) w := ⟨none, 0, rfl, SlI.nil, Below.refl _ _⟩


end Go.Proofs.Ytjajcionbnfldaa
