/-
  The law of the spectrum of any frame, its three kinds together. Conditions: none.
-/
import Derived.Test.YtdngjlgbebmbhaaSpecV
import Derived.Test.YtdngjlgbebmbhaaSpecN
import Derived.Test.YtdngjlgbebmbhaaSpecU
namespace Go.Proofs.Ytdngjlgbebmbhaa
end Go.Proofs.Ytdngjlgbebmbhaa
