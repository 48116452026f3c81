/-
The law DiskExact: what comes of any reading, writing, flushing, cutting off, fault, of any disk, and the disk behind it, are the page's.
-/
import Derived.Test.YtkdjacmabeeceaaExactA
import Derived.Test.YtkdjacmabeeceaaExactB
import Derived.Test.YtkdjacmabeeceaaExactC
import Derived.Test.YtkdjacmabeeceaaExactD
import Derived.Test.YtkdjacmabeeceaaExactZ
namespace Go.Proofs.Ytkdjacmabeeceaa
open Go.RowKit

theorem exact_any (v vx : Value) (d : Dis) (a keep kind fr bit : Int) (x : List UInt8) (hk63 : keep < 9223372036854775808) (w : World) (h : Rv w noM v d) (hx : SlR w noM vx x) :
    Calls Try.prog 8 #[v, .int .i64 a, vx, .int .i64 keep, .int .i64 kind, .int .i64 fr, .int .i64 bit] w fun e w' => e = .returned (.bool true) ∧ Below w.heap.size w w' := by
  cases hD : disB d
  · exact exact_none v vx d a keep kind fr bit x hk63 w h hx hD
  · by_cases h1 : 0 ≤ a
    · by_cases h2 : a < d.cells.length
      · by_cases h3 : x.length ≤ 200
        · exact exact_is v vx d a keep kind fr bit x hk63 w h hx hD h1 h2 h3
        · exact exact_long v vx d a keep kind fr bit x hk63 w h hx hD h1 h2 h3
      · exact exact_ge v vx d a keep kind fr bit x hk63 w h hx hD h1 (by omega)
    · exact exact_lt v vx d a keep kind fr bit x hk63 w h hx hD (by omega)
end Go.Proofs.Ytkdjacmabeeceaa
