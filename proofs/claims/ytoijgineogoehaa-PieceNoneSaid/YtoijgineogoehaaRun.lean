/-
The run of the law PieceNone in the small language tells true.
-/
import Derived.Test.YtoijgineogoehaaTab
import Derived.Test.YtoijgineogoehaaFwDKp
import Derived.KernelRfl
namespace Go.D.Tab
theorem run622 (a : Int) (b : List UInt8) : tells tree.get 1000000 622 [.int .i64 a, .str b] st0 (.bool true) = true := by kernel_rfl
end Go.D.Tab
