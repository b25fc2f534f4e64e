/-
The run of the law GridKnown in the small language tells true.
-/
import Derived.Test.YtpmjmbpcdacamaaTab
import Derived.Test.YtpmjmbpcdacamaaFwDKp
import Derived.KernelRfl
namespace Go.D.Tab
theorem run604  : tells tree.get 1000000 604 [] st0 (.bool true) = true := by kernel_rfl
end Go.D.Tab
