/- A region that draws its order, of which all but the tail only reads: its world by its name. -/
import Derived.Test.YtkecbghnapjecaaProg
import Derived.WalkKit
import Derived.StillTailTactics
namespace Go.Proofs.Ytkecbghnapjecaa
theorem still_tail {P : Program} {id : Nat} {Q : Exit → Act → World → Prop} {a : Act} {w : World} {l : List Oper} (n : Nat) (hm : P.follows .mixedOrders = true) (hB : Region.lexTailB .any l.toArray n = true)
    (h : wpStill P l.toArray w.drew (fun a' => wpList P l.toArray Q (l.drop n) a' w.drew) (l.take n) a) : (Code.region id l.toArray true).wp P Q a w := wp_region_still_tail n hm hB h
end Go.Proofs.Ytkecbghnapjecaa
