/-
The run of the law FrameKnown in the small language tells true.
-/
import Derived.Test.YtdhpdhagnbdhoaaGreatDoorTab
import Derived.Test.YtdhpdhagnbdhoaaGreatDoorFwDKp
import Derived.KernelRfl
namespace Go.D.Tab
theorem run394  : tells tree.get 1000000 394 [] st0 (.bool true) = true := by kernel_rfl
end Go.D.Tab
