/- Walks of the laws of layer 1: exact. -/
import Derived.Test.YtekldpghidmeaaaExOut
import Derived.Test.YtekldpghidmeaaaExIn
namespace Go.Proofs.Ytekldpghidmeaaa
open Go.RowKit
theorem exact_any (a b : Int) (w : World) (ha : InR a) (hb : InR b) :
    Calls Try.prog 5 #[.int .i64 a, .int .i64 b] w fun e w' => e = .returned (.bool true) ∧ Below w.heap.size w w' := by
  by_cases hS : InR (a + b)
  · exact exact_in a b w ha hb hS
  · exact exact_out a b w ha hb hS
end Go.Proofs.Ytekldpghidmeaaa
