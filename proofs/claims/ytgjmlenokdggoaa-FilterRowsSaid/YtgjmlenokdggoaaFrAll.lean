/-
  The law of what filters one behind the other tell of any samples. Conditions: none.
-/
import Derived.Test.YtgjmlenokdggoaaFr0
import Derived.Test.YtgjmlenokdggoaaFr1
import Derived.Test.YtgjmlenokdggoaaFr2
import Derived.Test.YtgjmlenokdggoaaFr3
import Derived.Test.YtgjmlenokdggoaaFr4
import Derived.Test.YtgjmlenokdggoaaFr5
import Derived.Test.YtgjmlenokdggoaaFr7
namespace Go.Proofs.Ytgjmlenokdggoaa
open Go Go.Sx
theorem ev_rows (t : List Int) (l : List Int) (m : Nat) (hm : l.length = m * 1) : ∀ n : Nat, t.length = n * 5 → evF tab 21 4 [.ro (.ints .i64 t) n 5, .ro (.ints .i64 l) m 1] [] = some (.bool true, [], [])
  | 0, h => Q0.ev_ t h m l hm
  | 1, h => Q1.ev_ t h m l hm
  | 2, h => Q2.ev_ t h m l hm
  | 3, h => Q3.ev_ t h m l hm
  | 4, h => Q4.ev_ t h m l hm
  | 5, h => Q5.ev_ t h m l hm
  | 6, h => Q6.ev_ t h m l hm
  | n + 7, h => Q6.ev_more (n + 7) t m l (by omega) h hm
end Go.Proofs.Ytgjmlenokdggoaa
