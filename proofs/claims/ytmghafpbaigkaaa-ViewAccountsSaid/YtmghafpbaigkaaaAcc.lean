/-
  The law of a frame's accounts, the frame's three kinds together. Conditions: none.
-/
import Derived.Test.YtmghafpbaigkaaaAccV
import Derived.Test.YtmghafpbaigkaaaAccN
import Derived.Test.YtmghafpbaigkaaaAccU
namespace Go.Proofs.Ytmghafpbaigkaaa
end Go.Proofs.Ytmghafpbaigkaaa
