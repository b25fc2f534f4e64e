/-
The run of the law CacheNone in the small language tells true.
-/
import Derived.Test.YtehmkfapbddhnaaGreatDoorTab
import Derived.Test.YtehmkfapbddhnaaGreatDoorFwDKp
import Derived.KernelRfl
namespace Go.D.Tab
theorem run486 (a : Int) : tells tree.get 1000000 486 [.int .i64 a] st0 (.bool true) = true := by kernel_rfl
end Go.D.Tab
