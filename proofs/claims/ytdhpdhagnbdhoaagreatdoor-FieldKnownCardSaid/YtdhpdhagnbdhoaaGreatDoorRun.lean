/-
The run of the law FieldKnown in the small language tells true.
-/
import Derived.Test.YtdhpdhagnbdhoaaGreatDoorTab
import Derived.Test.YtdhpdhagnbdhoaaGreatDoorFwDKp
import Derived.KernelRfl
namespace Go.D.Tab
theorem run395  : tells tree.get 1000000 395 [] st0 (.bool true) = true := by kernel_rfl
end Go.D.Tab
