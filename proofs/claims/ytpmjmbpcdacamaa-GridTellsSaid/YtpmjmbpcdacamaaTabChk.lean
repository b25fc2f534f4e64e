/-
The table is the program's code. Printed by wip/gen.
-/
import Derived.Test.YtpmjmbpcdacamaaChecked
import Derived.Test.YtpmjmbpcdacamaaTab
import Derived.KernelRfl
namespace Go.D.Tab
open Go.Proofs

theorem chk10 : funcB Try.prog (fmOf fms env) (isPure tree.get) f10 Try.f49 = true := by kernel_rfl
theorem ok10 (f : FuncId) (hf : fmOf fms env 10 = some f) : DefRel Try.prog (fmOf fms env) tree.get (.code f10) f := by
  have h : fmOf fms env 10 = some 49 := by kernel_rfl
  rw [h] at hf
  cases hf
  exact funcB_ok Try.func49 chk10

theorem chk11 : funcB Try.prog (fmOf fms env) (isPure tree.get) f11 Try.f51 = true := by kernel_rfl
theorem ok11 (f : FuncId) (hf : fmOf fms env 11 = some f) : DefRel Try.prog (fmOf fms env) tree.get (.code f11) f := by
  have h : fmOf fms env 11 = some 51 := by kernel_rfl
  rw [h] at hf
  cases hf
  exact funcB_ok Try.func51 chk11

theorem chk13 : funcB Try.prog (fmOf fms env) (isPure tree.get) f13 Try.f55 = true := by kernel_rfl
theorem ok13 (f : FuncId) (hf : fmOf fms env 13 = some f) : DefRel Try.prog (fmOf fms env) tree.get (.code f13) f := by
  have h : fmOf fms env 13 = some 55 := by kernel_rfl
  rw [h] at hf
  cases hf
  exact funcB_ok Try.func55 chk13

theorem chk14 : funcB Try.prog (fmOf fms env) (isPure tree.get) f14 Try.f61 = true := by kernel_rfl
theorem ok14 (f : FuncId) (hf : fmOf fms env 14 = some f) : DefRel Try.prog (fmOf fms env) tree.get (.code f14) f := by
  have h : fmOf fms env 14 = some 61 := by kernel_rfl
  rw [h] at hf
  cases hf
  exact funcB_ok Try.func61 chk14

theorem chk15 : funcB Try.prog (fmOf fms env) (isPure tree.get) f15 Try.f16 = true := by kernel_rfl
theorem ok15 (f : FuncId) (hf : fmOf fms env 15 = some f) : DefRel Try.prog (fmOf fms env) tree.get (.code f15) f := by
  have h : fmOf fms env 15 = some 16 := by kernel_rfl
  rw [h] at hf
  cases hf
  exact funcB_ok Try.func16 chk15

theorem chk21 : funcB Try.prog (fmOf fms env) (isPure tree.get) f21 Try.f77 = true := by kernel_rfl
theorem ok21 (f : FuncId) (hf : fmOf fms env 21 = some f) : DefRel Try.prog (fmOf fms env) tree.get (.code f21) f := by
  have h : fmOf fms env 21 = some 77 := by kernel_rfl
  rw [h] at hf
  cases hf
  exact funcB_ok Try.func77 chk21

theorem chk22 : funcB Try.prog (fmOf fms env) (isPure tree.get) f22 Try.f85 = true := by kernel_rfl
theorem ok22 (f : FuncId) (hf : fmOf fms env 22 = some f) : DefRel Try.prog (fmOf fms env) tree.get (.code f22) f := by
  have h : fmOf fms env 22 = some 85 := by kernel_rfl
  rw [h] at hf
  cases hf
  exact funcB_ok Try.func85 chk22

theorem chk23 : funcB Try.prog (fmOf fms env) (isPure tree.get) f23 Try.f50 = true := by kernel_rfl
theorem ok23 (f : FuncId) (hf : fmOf fms env 23 = some f) : DefRel Try.prog (fmOf fms env) tree.get (.code f23) f := by
  have h : fmOf fms env 23 = some 50 := by kernel_rfl
  rw [h] at hf
  cases hf
  exact funcB_ok Try.func50 chk23

theorem chk27 : funcB Try.prog (fmOf fms env) (isPure tree.get) f27 Try.f56 = true := by kernel_rfl
theorem ok27 (f : FuncId) (hf : fmOf fms env 27 = some f) : DefRel Try.prog (fmOf fms env) tree.get (.code f27) f := by
  have h : fmOf fms env 27 = some 56 := by kernel_rfl
  rw [h] at hf
  cases hf
  exact funcB_ok Try.func56 chk27

theorem chk29 : funcB Try.prog (fmOf fms env) (isPure tree.get) f29 Try.f57 = true := by kernel_rfl
theorem ok29 (f : FuncId) (hf : fmOf fms env 29 = some f) : DefRel Try.prog (fmOf fms env) tree.get (.code f29) f := by
  have h : fmOf fms env 29 = some 57 := by kernel_rfl
  rw [h] at hf
  cases hf
  exact funcB_ok Try.func57 chk29

theorem chk30 : funcB Try.prog (fmOf fms env) (isPure tree.get) f30 Try.f58 = true := by kernel_rfl
theorem ok30 (f : FuncId) (hf : fmOf fms env 30 = some f) : DefRel Try.prog (fmOf fms env) tree.get (.code f30) f := by
  have h : fmOf fms env 30 = some 58 := by kernel_rfl
  rw [h] at hf
  cases hf
  exact funcB_ok Try.func58 chk30

theorem chk31 : funcB Try.prog (fmOf fms env) (isPure tree.get) f31 Try.f59 = true := by kernel_rfl
theorem ok31 (f : FuncId) (hf : fmOf fms env 31 = some f) : DefRel Try.prog (fmOf fms env) tree.get (.code f31) f := by
  have h : fmOf fms env 31 = some 59 := by kernel_rfl
  rw [h] at hf
  cases hf
  exact funcB_ok Try.func59 chk31

theorem chk32 : funcB Try.prog (fmOf fms env) (isPure tree.get) f32 Try.f60 = true := by kernel_rfl
theorem ok32 (f : FuncId) (hf : fmOf fms env 32 = some f) : DefRel Try.prog (fmOf fms env) tree.get (.code f32) f := by
  have h : fmOf fms env 32 = some 60 := by kernel_rfl
  rw [h] at hf
  cases hf
  exact funcB_ok Try.func60 chk32

theorem chk33 : funcB Try.prog (fmOf fms env) (isPure tree.get) f33 Try.f62 = true := by kernel_rfl
theorem ok33 (f : FuncId) (hf : fmOf fms env 33 = some f) : DefRel Try.prog (fmOf fms env) tree.get (.code f33) f := by
  have h : fmOf fms env 33 = some 62 := by kernel_rfl
  rw [h] at hf
  cases hf
  exact funcB_ok Try.func62 chk33

theorem chk34 : funcB Try.prog (fmOf fms env) (isPure tree.get) f34 Try.f63 = true := by kernel_rfl
theorem ok34 (f : FuncId) (hf : fmOf fms env 34 = some f) : DefRel Try.prog (fmOf fms env) tree.get (.code f34) f := by
  have h : fmOf fms env 34 = some 63 := by kernel_rfl
  rw [h] at hf
  cases hf
  exact funcB_ok Try.func63 chk34

theorem chk35 : funcB Try.prog (fmOf fms env) (isPure tree.get) f35 Try.f64 = true := by kernel_rfl
theorem ok35 (f : FuncId) (hf : fmOf fms env 35 = some f) : DefRel Try.prog (fmOf fms env) tree.get (.code f35) f := by
  have h : fmOf fms env 35 = some 64 := by kernel_rfl
  rw [h] at hf
  cases hf
  exact funcB_ok Try.func64 chk35

theorem chk36 : funcB Try.prog (fmOf fms env) (isPure tree.get) f36 Try.f65 = true := by kernel_rfl
theorem ok36 (f : FuncId) (hf : fmOf fms env 36 = some f) : DefRel Try.prog (fmOf fms env) tree.get (.code f36) f := by
  have h : fmOf fms env 36 = some 65 := by kernel_rfl
  rw [h] at hf
  cases hf
  exact funcB_ok Try.func65 chk36

theorem chk37 : funcB Try.prog (fmOf fms env) (isPure tree.get) f37 Try.f66 = true := by kernel_rfl
theorem ok37 (f : FuncId) (hf : fmOf fms env 37 = some f) : DefRel Try.prog (fmOf fms env) tree.get (.code f37) f := by
  have h : fmOf fms env 37 = some 66 := by kernel_rfl
  rw [h] at hf
  cases hf
  exact funcB_ok Try.func66 chk37

theorem chk38 : funcB Try.prog (fmOf fms env) (isPure tree.get) f38 Try.f67 = true := by kernel_rfl
theorem ok38 (f : FuncId) (hf : fmOf fms env 38 = some f) : DefRel Try.prog (fmOf fms env) tree.get (.code f38) f := by
  have h : fmOf fms env 38 = some 67 := by kernel_rfl
  rw [h] at hf
  cases hf
  exact funcB_ok Try.func67 chk38

theorem chk39 : funcB Try.prog (fmOf fms env) (isPure tree.get) f39 Try.f68 = true := by kernel_rfl
theorem ok39 (f : FuncId) (hf : fmOf fms env 39 = some f) : DefRel Try.prog (fmOf fms env) tree.get (.code f39) f := by
  have h : fmOf fms env 39 = some 68 := by kernel_rfl
  rw [h] at hf
  cases hf
  exact funcB_ok Try.func68 chk39

theorem chk40 : funcB Try.prog (fmOf fms env) (isPure tree.get) f40 Try.f69 = true := by kernel_rfl
theorem ok40 (f : FuncId) (hf : fmOf fms env 40 = some f) : DefRel Try.prog (fmOf fms env) tree.get (.code f40) f := by
  have h : fmOf fms env 40 = some 69 := by kernel_rfl
  rw [h] at hf
  cases hf
  exact funcB_ok Try.func69 chk40

theorem chk41 : funcB Try.prog (fmOf fms env) (isPure tree.get) f41 Try.f70 = true := by kernel_rfl
theorem ok41 (f : FuncId) (hf : fmOf fms env 41 = some f) : DefRel Try.prog (fmOf fms env) tree.get (.code f41) f := by
  have h : fmOf fms env 41 = some 70 := by kernel_rfl
  rw [h] at hf
  cases hf
  exact funcB_ok Try.func70 chk41

theorem chk42 : funcB Try.prog (fmOf fms env) (isPure tree.get) f42 Try.f71 = true := by kernel_rfl
theorem ok42 (f : FuncId) (hf : fmOf fms env 42 = some f) : DefRel Try.prog (fmOf fms env) tree.get (.code f42) f := by
  have h : fmOf fms env 42 = some 71 := by kernel_rfl
  rw [h] at hf
  cases hf
  exact funcB_ok Try.func71 chk42

theorem chk43 : funcB Try.prog (fmOf fms env) (isPure tree.get) f43 Try.f72 = true := by kernel_rfl
theorem ok43 (f : FuncId) (hf : fmOf fms env 43 = some f) : DefRel Try.prog (fmOf fms env) tree.get (.code f43) f := by
  have h : fmOf fms env 43 = some 72 := by kernel_rfl
  rw [h] at hf
  cases hf
  exact funcB_ok Try.func72 chk43

theorem chk44 : funcB Try.prog (fmOf fms env) (isPure tree.get) f44 Try.f73 = true := by kernel_rfl
theorem ok44 (f : FuncId) (hf : fmOf fms env 44 = some f) : DefRel Try.prog (fmOf fms env) tree.get (.code f44) f := by
  have h : fmOf fms env 44 = some 73 := by kernel_rfl
  rw [h] at hf
  cases hf
  exact funcB_ok Try.func73 chk44

theorem chk45 : funcB Try.prog (fmOf fms env) (isPure tree.get) f45 Try.f79 = true := by kernel_rfl
theorem ok45 (f : FuncId) (hf : fmOf fms env 45 = some f) : DefRel Try.prog (fmOf fms env) tree.get (.code f45) f := by
  have h : fmOf fms env 45 = some 79 := by kernel_rfl
  rw [h] at hf
  cases hf
  exact funcB_ok Try.func79 chk45

theorem chk46 : funcB Try.prog (fmOf fms env) (isPure tree.get) f46 Try.f80 = true := by kernel_rfl
theorem ok46 (f : FuncId) (hf : fmOf fms env 46 = some f) : DefRel Try.prog (fmOf fms env) tree.get (.code f46) f := by
  have h : fmOf fms env 46 = some 80 := by kernel_rfl
  rw [h] at hf
  cases hf
  exact funcB_ok Try.func80 chk46

theorem chk47 : funcB Try.prog (fmOf fms env) (isPure tree.get) f47 Try.f81 = true := by kernel_rfl
theorem ok47 (f : FuncId) (hf : fmOf fms env 47 = some f) : DefRel Try.prog (fmOf fms env) tree.get (.code f47) f := by
  have h : fmOf fms env 47 = some 81 := by kernel_rfl
  rw [h] at hf
  cases hf
  exact funcB_ok Try.func81 chk47

theorem chk48 : funcB Try.prog (fmOf fms env) (isPure tree.get) f48 Try.f82 = true := by kernel_rfl
theorem ok48 (f : FuncId) (hf : fmOf fms env 48 = some f) : DefRel Try.prog (fmOf fms env) tree.get (.code f48) f := by
  have h : fmOf fms env 48 = some 82 := by kernel_rfl
  rw [h] at hf
  cases hf
  exact funcB_ok Try.func82 chk48

theorem chk49 : funcB Try.prog (fmOf fms env) (isPure tree.get) f49 Try.f32 = true := by kernel_rfl
theorem ok49 (f : FuncId) (hf : fmOf fms env 49 = some f) : DefRel Try.prog (fmOf fms env) tree.get (.code f49) f := by
  have h : fmOf fms env 49 = some 32 := by kernel_rfl
  rw [h] at hf
  cases hf
  exact funcB_ok Try.func32 chk49

theorem chk50 : funcB Try.prog (fmOf fms env) (isPure tree.get) f50 Try.f33 = true := by kernel_rfl
theorem ok50 (f : FuncId) (hf : fmOf fms env 50 = some f) : DefRel Try.prog (fmOf fms env) tree.get (.code f50) f := by
  have h : fmOf fms env 50 = some 33 := by kernel_rfl
  rw [h] at hf
  cases hf
  exact funcB_ok Try.func33 chk50

theorem chk52 : funcB Try.prog (fmOf fms env) (isPure tree.get) f52 Try.f98 = true := by kernel_rfl
theorem ok52 (f : FuncId) (hf : fmOf fms env 52 = some f) : DefRel Try.prog (fmOf fms env) tree.get (.code f52) f := by
  have h : fmOf fms env 52 = some 98 := by kernel_rfl
  rw [h] at hf
  cases hf
  exact funcB_ok Try.func98 chk52

theorem chk53 : funcB Try.prog (fmOf fms env) (isPure tree.get) f53 Try.f52 = true := by kernel_rfl
theorem ok53 (f : FuncId) (hf : fmOf fms env 53 = some f) : DefRel Try.prog (fmOf fms env) tree.get (.code f53) f := by
  have h : fmOf fms env 53 = some 52 := by kernel_rfl
  rw [h] at hf
  cases hf
  exact funcB_ok Try.func52 chk53

theorem chk54 : funcB Try.prog (fmOf fms env) (isPure tree.get) f54 Try.f74 = true := by kernel_rfl
theorem ok54 (f : FuncId) (hf : fmOf fms env 54 = some f) : DefRel Try.prog (fmOf fms env) tree.get (.code f54) f := by
  have h : fmOf fms env 54 = some 74 := by kernel_rfl
  rw [h] at hf
  cases hf
  exact funcB_ok Try.func74 chk54

theorem chk55 : funcB Try.prog (fmOf fms env) (isPure tree.get) f55 Try.f75 = true := by kernel_rfl
theorem ok55 (f : FuncId) (hf : fmOf fms env 55 = some f) : DefRel Try.prog (fmOf fms env) tree.get (.code f55) f := by
  have h : fmOf fms env 55 = some 75 := by kernel_rfl
  rw [h] at hf
  cases hf
  exact funcB_ok Try.func75 chk55

theorem chk56 : funcB Try.prog (fmOf fms env) (isPure tree.get) f56 Try.f76 = true := by kernel_rfl
theorem ok56 (f : FuncId) (hf : fmOf fms env 56 = some f) : DefRel Try.prog (fmOf fms env) tree.get (.code f56) f := by
  have h : fmOf fms env 56 = some 76 := by kernel_rfl
  rw [h] at hf
  cases hf
  exact funcB_ok Try.func76 chk56

theorem chk57 : funcB Try.prog (fmOf fms env) (isPure tree.get) f57 Try.f78 = true := by kernel_rfl
theorem ok57 (f : FuncId) (hf : fmOf fms env 57 = some f) : DefRel Try.prog (fmOf fms env) tree.get (.code f57) f := by
  have h : fmOf fms env 57 = some 78 := by kernel_rfl
  rw [h] at hf
  cases hf
  exact funcB_ok Try.func78 chk57

theorem chk58 : funcB Try.prog (fmOf fms env) (isPure tree.get) f58 Try.f83 = true := by kernel_rfl
theorem ok58 (f : FuncId) (hf : fmOf fms env 58 = some f) : DefRel Try.prog (fmOf fms env) tree.get (.code f58) f := by
  have h : fmOf fms env 58 = some 83 := by kernel_rfl
  rw [h] at hf
  cases hf
  exact funcB_ok Try.func83 chk58

theorem chk59 : funcB Try.prog (fmOf fms env) (isPure tree.get) f59 Try.f84 = true := by kernel_rfl
theorem ok59 (f : FuncId) (hf : fmOf fms env 59 = some f) : DefRel Try.prog (fmOf fms env) tree.get (.code f59) f := by
  have h : fmOf fms env 59 = some 84 := by kernel_rfl
  rw [h] at hf
  cases hf
  exact funcB_ok Try.func84 chk59

theorem chk60 : funcB Try.prog (fmOf fms env) (isPure tree.get) f60 Try.f86 = true := by kernel_rfl
theorem ok60 (f : FuncId) (hf : fmOf fms env 60 = some f) : DefRel Try.prog (fmOf fms env) tree.get (.code f60) f := by
  have h : fmOf fms env 60 = some 86 := by kernel_rfl
  rw [h] at hf
  cases hf
  exact funcB_ok Try.func86 chk60

theorem chk61 : funcB Try.prog (fmOf fms env) (isPure tree.get) f61 Try.f87 = true := by kernel_rfl
theorem ok61 (f : FuncId) (hf : fmOf fms env 61 = some f) : DefRel Try.prog (fmOf fms env) tree.get (.code f61) f := by
  have h : fmOf fms env 61 = some 87 := by kernel_rfl
  rw [h] at hf
  cases hf
  exact funcB_ok Try.func87 chk61

theorem chk62 : funcB Try.prog (fmOf fms env) (isPure tree.get) f62 Try.f88 = true := by kernel_rfl
theorem ok62 (f : FuncId) (hf : fmOf fms env 62 = some f) : DefRel Try.prog (fmOf fms env) tree.get (.code f62) f := by
  have h : fmOf fms env 62 = some 88 := by kernel_rfl
  rw [h] at hf
  cases hf
  exact funcB_ok Try.func88 chk62

theorem chk63 : funcB Try.prog (fmOf fms env) (isPure tree.get) f63 Try.f89 = true := by kernel_rfl
theorem ok63 (f : FuncId) (hf : fmOf fms env 63 = some f) : DefRel Try.prog (fmOf fms env) tree.get (.code f63) f := by
  have h : fmOf fms env 63 = some 89 := by kernel_rfl
  rw [h] at hf
  cases hf
  exact funcB_ok Try.func89 chk63

theorem chk65 : funcB Try.prog (fmOf fms env) (isPure tree.get) f65 Try.f91 = true := by kernel_rfl
theorem ok65 (f : FuncId) (hf : fmOf fms env 65 = some f) : DefRel Try.prog (fmOf fms env) tree.get (.code f65) f := by
  have h : fmOf fms env 65 = some 91 := by kernel_rfl
  rw [h] at hf
  cases hf
  exact funcB_ok Try.func91 chk65

theorem chk66 : funcB Try.prog (fmOf fms env) (isPure tree.get) f66 Try.f95 = true := by kernel_rfl
theorem ok66 (f : FuncId) (hf : fmOf fms env 66 = some f) : DefRel Try.prog (fmOf fms env) tree.get (.code f66) f := by
  have h : fmOf fms env 66 = some 95 := by kernel_rfl
  rw [h] at hf
  cases hf
  exact funcB_ok Try.func95 chk66

theorem chk67 : funcB Try.prog (fmOf fms env) (isPure tree.get) f67 Try.f96 = true := by kernel_rfl
theorem ok67 (f : FuncId) (hf : fmOf fms env 67 = some f) : DefRel Try.prog (fmOf fms env) tree.get (.code f67) f := by
  have h : fmOf fms env 67 = some 96 := by kernel_rfl
  rw [h] at hf
  cases hf
  exact funcB_ok Try.func96 chk67

theorem chk68 : funcB Try.prog (fmOf fms env) (isPure tree.get) f68 Try.f92 = true := by kernel_rfl
theorem ok68 (f : FuncId) (hf : fmOf fms env 68 = some f) : DefRel Try.prog (fmOf fms env) tree.get (.code f68) f := by
  have h : fmOf fms env 68 = some 92 := by kernel_rfl
  rw [h] at hf
  cases hf
  exact funcB_ok Try.func92 chk68

theorem chk69 : funcB Try.prog (fmOf fms env) (isPure tree.get) f69 Try.f93 = true := by kernel_rfl
theorem ok69 (f : FuncId) (hf : fmOf fms env 69 = some f) : DefRel Try.prog (fmOf fms env) tree.get (.code f69) f := by
  have h : fmOf fms env 69 = some 93 := by kernel_rfl
  rw [h] at hf
  cases hf
  exact funcB_ok Try.func93 chk69

theorem chk70 : funcB Try.prog (fmOf fms env) (isPure tree.get) f70 Try.f94 = true := by kernel_rfl
theorem ok70 (f : FuncId) (hf : fmOf fms env 70 = some f) : DefRel Try.prog (fmOf fms env) tree.get (.code f70) f := by
  have h : fmOf fms env 70 = some 94 := by kernel_rfl
  rw [h] at hf
  cases hf
  exact funcB_ok Try.func94 chk70

theorem chk71 : funcB Try.prog (fmOf fms env) (isPure tree.get) f71 Try.f97 = true := by kernel_rfl
theorem ok71 (f : FuncId) (hf : fmOf fms env 71 = some f) : DefRel Try.prog (fmOf fms env) tree.get (.code f71) f := by
  have h : fmOf fms env 71 = some 97 := by kernel_rfl
  rw [h] at hf
  cases hf
  exact funcB_ok Try.func97 chk71

theorem chk73 : funcB Try.prog (fmOf fms env) (isPure tree.get) f73 Try.f100 = true := by kernel_rfl
theorem ok73 (f : FuncId) (hf : fmOf fms env 73 = some f) : DefRel Try.prog (fmOf fms env) tree.get (.code f73) f := by
  have h : fmOf fms env 73 = some 100 := by kernel_rfl
  rw [h] at hf
  cases hf
  exact funcB_ok Try.func100 chk73

theorem chk74 : funcB Try.prog (fmOf fms env) (isPure tree.get) f74 Try.f101 = true := by kernel_rfl
theorem ok74 (f : FuncId) (hf : fmOf fms env 74 = some f) : DefRel Try.prog (fmOf fms env) tree.get (.code f74) f := by
  have h : fmOf fms env 74 = some 101 := by kernel_rfl
  rw [h] at hf
  cases hf
  exact funcB_ok Try.func101 chk74

theorem chk76 : funcB Try.prog (fmOf fms env) (isPure tree.get) f76 Try.f103 = true := by kernel_rfl
theorem ok76 (f : FuncId) (hf : fmOf fms env 76 = some f) : DefRel Try.prog (fmOf fms env) tree.get (.code f76) f := by
  have h : fmOf fms env 76 = some 103 := by kernel_rfl
  rw [h] at hf
  cases hf
  exact funcB_ok Try.func103 chk76

theorem chk77 : funcB Try.prog (fmOf fms env) (isPure tree.get) f77 Try.f104 = true := by kernel_rfl
theorem ok77 (f : FuncId) (hf : fmOf fms env 77 = some f) : DefRel Try.prog (fmOf fms env) tree.get (.code f77) f := by
  have h : fmOf fms env 77 = some 104 := by kernel_rfl
  rw [h] at hf
  cases hf
  exact funcB_ok Try.func104 chk77

theorem chk78 : funcB Try.prog (fmOf fms env) (isPure tree.get) f78 Try.f105 = true := by kernel_rfl
theorem ok78 (f : FuncId) (hf : fmOf fms env 78 = some f) : DefRel Try.prog (fmOf fms env) tree.get (.code f78) f := by
  have h : fmOf fms env 78 = some 105 := by kernel_rfl
  rw [h] at hf
  cases hf
  exact funcB_ok Try.func105 chk78

theorem chk182 : funcB Try.prog (fmOf fms env) (isPure tree.get) f182 Try.f26 = true := by kernel_rfl
theorem ok182 (f : FuncId) (hf : fmOf fms env 182 = some f) : DefRel Try.prog (fmOf fms env) tree.get (.code f182) f := by
  have h : fmOf fms env 182 = some 26 := by kernel_rfl
  rw [h] at hf
  cases hf
  exact funcB_ok Try.func26 chk182

theorem chk184 : funcB Try.prog (fmOf fms env) (isPure tree.get) f184 Try.f20 = true := by kernel_rfl
theorem ok184 (f : FuncId) (hf : fmOf fms env 184 = some f) : DefRel Try.prog (fmOf fms env) tree.get (.code f184) f := by
  have h : fmOf fms env 184 = some 20 := by kernel_rfl
  rw [h] at hf
  cases hf
  exact funcB_ok Try.func20 chk184

theorem chk187 : funcB Try.prog (fmOf fms env) (isPure tree.get) f187 Try.f13 = true := by kernel_rfl
theorem ok187 (f : FuncId) (hf : fmOf fms env 187 = some f) : DefRel Try.prog (fmOf fms env) tree.get (.code f187) f := by
  have h : fmOf fms env 187 = some 13 := by kernel_rfl
  rw [h] at hf
  cases hf
  exact funcB_ok Try.func13 chk187

theorem chk430 : funcB Try.prog (fmOf fms env) (isPure tree.get) f430 Try.f11 = true := by kernel_rfl
theorem ok430 (f : FuncId) (hf : fmOf fms env 430 = some f) : DefRel Try.prog (fmOf fms env) tree.get (.code f430) f := by
  have h : fmOf fms env 430 = some 11 := by kernel_rfl
  rw [h] at hf
  cases hf
  exact funcB_ok Try.func11 chk430

theorem chk453 : funcB Try.prog (fmOf fms env) (isPure tree.get) f453 Try.f14 = true := by kernel_rfl
theorem ok453 (f : FuncId) (hf : fmOf fms env 453 = some f) : DefRel Try.prog (fmOf fms env) tree.get (.code f453) f := by
  have h : fmOf fms env 453 = some 14 := by kernel_rfl
  rw [h] at hf
  cases hf
  exact funcB_ok Try.func14 chk453

theorem chk454 : funcB Try.prog (fmOf fms env) (isPure tree.get) f454 Try.f27 = true := by kernel_rfl
theorem ok454 (f : FuncId) (hf : fmOf fms env 454 = some f) : DefRel Try.prog (fmOf fms env) tree.get (.code f454) f := by
  have h : fmOf fms env 454 = some 27 := by kernel_rfl
  rw [h] at hf
  cases hf
  exact funcB_ok Try.func27 chk454

theorem chk455 : funcB Try.prog (fmOf fms env) (isPure tree.get) f455 Try.f29 = true := by kernel_rfl
theorem ok455 (f : FuncId) (hf : fmOf fms env 455 = some f) : DefRel Try.prog (fmOf fms env) tree.get (.code f455) f := by
  have h : fmOf fms env 455 = some 29 := by kernel_rfl
  rw [h] at hf
  cases hf
  exact funcB_ok Try.func29 chk455

theorem chk456 : funcB Try.prog (fmOf fms env) (isPure tree.get) f456 Try.f30 = true := by kernel_rfl
theorem ok456 (f : FuncId) (hf : fmOf fms env 456 = some f) : DefRel Try.prog (fmOf fms env) tree.get (.code f456) f := by
  have h : fmOf fms env 456 = some 30 := by kernel_rfl
  rw [h] at hf
  cases hf
  exact funcB_ok Try.func30 chk456

theorem chk458 : funcB Try.prog (fmOf fms env) (isPure tree.get) f458 Try.f17 = true := by kernel_rfl
theorem ok458 (f : FuncId) (hf : fmOf fms env 458 = some f) : DefRel Try.prog (fmOf fms env) tree.get (.code f458) f := by
  have h : fmOf fms env 458 = some 17 := by kernel_rfl
  rw [h] at hf
  cases hf
  exact funcB_ok Try.func17 chk458

theorem chk469 : funcB Try.prog (fmOf fms env) (isPure tree.get) f469 Try.f40 = true := by kernel_rfl
theorem ok469 (f : FuncId) (hf : fmOf fms env 469 = some f) : DefRel Try.prog (fmOf fms env) tree.get (.code f469) f := by
  have h : fmOf fms env 469 = some 40 := by kernel_rfl
  rw [h] at hf
  cases hf
  exact funcB_ok Try.func40 chk469

theorem chk470 : funcB Try.prog (fmOf fms env) (isPure tree.get) f470 Try.f41 = true := by kernel_rfl
theorem ok470 (f : FuncId) (hf : fmOf fms env 470 = some f) : DefRel Try.prog (fmOf fms env) tree.get (.code f470) f := by
  have h : fmOf fms env 470 = some 41 := by kernel_rfl
  rw [h] at hf
  cases hf
  exact funcB_ok Try.func41 chk470

theorem chk476 : funcB Try.prog (fmOf fms env) (isPure tree.get) f476 Try.f48 = true := by kernel_rfl
theorem ok476 (f : FuncId) (hf : fmOf fms env 476 = some f) : DefRel Try.prog (fmOf fms env) tree.get (.code f476) f := by
  have h : fmOf fms env 476 = some 48 := by kernel_rfl
  rw [h] at hf
  cases hf
  exact funcB_ok Try.func48 chk476

theorem chk603 : funcB Try.prog (fmOf fms env) (isPure tree.get) f603 Try.f3 = true := by kernel_rfl
theorem ok603 (f : FuncId) (hf : fmOf fms env 603 = some f) : DefRel Try.prog (fmOf fms env) tree.get (.code f603) f := by
  have h : fmOf fms env 603 = some 3 := by kernel_rfl
  rw [h] at hf
  cases hf
  exact funcB_ok Try.func3 chk603

theorem chk606 : funcB Try.prog (fmOf fms env) (isPure tree.get) f606 Try.f6 = true := by kernel_rfl
theorem ok606 (f : FuncId) (hf : fmOf fms env 606 = some f) : DefRel Try.prog (fmOf fms env) tree.get (.code f606) f := by
  have h : fmOf fms env 606 = some 6 := by kernel_rfl
  rw [h] at hf
  cases hf
  exact funcB_ok Try.func6 chk606

theorem chk607 : funcB Try.prog (fmOf fms env) (isPure tree.get) f607 Try.f7 = true := by kernel_rfl
theorem ok607 (f : FuncId) (hf : fmOf fms env 607 = some f) : DefRel Try.prog (fmOf fms env) tree.get (.code f607) f := by
  have h : fmOf fms env 607 = some 7 := by kernel_rfl
  rw [h] at hf
  cases hf
  exact funcB_ok Try.func7 chk607

theorem chk608 : funcB Try.prog (fmOf fms env) (isPure tree.get) f608 Try.f8 = true := by kernel_rfl
theorem ok608 (f : FuncId) (hf : fmOf fms env 608 = some f) : DefRel Try.prog (fmOf fms env) tree.get (.code f608) f := by
  have h : fmOf fms env 608 = some 8 := by kernel_rfl
  rw [h] at hf
  cases hf
  exact funcB_ok Try.func8 chk608

theorem chk609 : funcB Try.prog (fmOf fms env) (isPure tree.get) f609 Try.f9 = true := by kernel_rfl
theorem ok609 (f : FuncId) (hf : fmOf fms env 609 = some f) : DefRel Try.prog (fmOf fms env) tree.get (.code f609) f := by
  have h : fmOf fms env 609 = some 9 := by kernel_rfl
  rw [h] at hf
  cases hf
  exact funcB_ok Try.func9 chk609

theorem chk610 : funcB Try.prog (fmOf fms env) (isPure tree.get) f610 Try.f10 = true := by kernel_rfl
theorem ok610 (f : FuncId) (hf : fmOf fms env 610 = some f) : DefRel Try.prog (fmOf fms env) tree.get (.code f610) f := by
  have h : fmOf fms env 610 = some 10 := by kernel_rfl
  rw [h] at hf
  cases hf
  exact funcB_ok Try.func10 chk610

theorem chk611 : funcB Try.prog (fmOf fms env) (isPure tree.get) f611 Try.f12 = true := by kernel_rfl
theorem ok611 (f : FuncId) (hf : fmOf fms env 611 = some f) : DefRel Try.prog (fmOf fms env) tree.get (.code f611) f := by
  have h : fmOf fms env 611 = some 12 := by kernel_rfl
  rw [h] at hf
  cases hf
  exact funcB_ok Try.func12 chk611

theorem chk612 : funcB Try.prog (fmOf fms env) (isPure tree.get) f612 Try.f15 = true := by kernel_rfl
theorem ok612 (f : FuncId) (hf : fmOf fms env 612 = some f) : DefRel Try.prog (fmOf fms env) tree.get (.code f612) f := by
  have h : fmOf fms env 612 = some 15 := by kernel_rfl
  rw [h] at hf
  cases hf
  exact funcB_ok Try.func15 chk612

theorem chk613 : funcB Try.prog (fmOf fms env) (isPure tree.get) f613 Try.f18 = true := by kernel_rfl
theorem ok613 (f : FuncId) (hf : fmOf fms env 613 = some f) : DefRel Try.prog (fmOf fms env) tree.get (.code f613) f := by
  have h : fmOf fms env 613 = some 18 := by kernel_rfl
  rw [h] at hf
  cases hf
  exact funcB_ok Try.func18 chk613

theorem chk614 : funcB Try.prog (fmOf fms env) (isPure tree.get) f614 Try.f19 = true := by kernel_rfl
theorem ok614 (f : FuncId) (hf : fmOf fms env 614 = some f) : DefRel Try.prog (fmOf fms env) tree.get (.code f614) f := by
  have h : fmOf fms env 614 = some 19 := by kernel_rfl
  rw [h] at hf
  cases hf
  exact funcB_ok Try.func19 chk614

theorem chk615 : funcB Try.prog (fmOf fms env) (isPure tree.get) f615 Try.f21 = true := by kernel_rfl
theorem ok615 (f : FuncId) (hf : fmOf fms env 615 = some f) : DefRel Try.prog (fmOf fms env) tree.get (.code f615) f := by
  have h : fmOf fms env 615 = some 21 := by kernel_rfl
  rw [h] at hf
  cases hf
  exact funcB_ok Try.func21 chk615

theorem chk616 : funcB Try.prog (fmOf fms env) (isPure tree.get) f616 Try.f22 = true := by kernel_rfl
theorem ok616 (f : FuncId) (hf : fmOf fms env 616 = some f) : DefRel Try.prog (fmOf fms env) tree.get (.code f616) f := by
  have h : fmOf fms env 616 = some 22 := by kernel_rfl
  rw [h] at hf
  cases hf
  exact funcB_ok Try.func22 chk616

theorem chk617 : funcB Try.prog (fmOf fms env) (isPure tree.get) f617 Try.f24 = true := by kernel_rfl
theorem ok617 (f : FuncId) (hf : fmOf fms env 617 = some f) : DefRel Try.prog (fmOf fms env) tree.get (.code f617) f := by
  have h : fmOf fms env 617 = some 24 := by kernel_rfl
  rw [h] at hf
  cases hf
  exact funcB_ok Try.func24 chk617

theorem chk619 : funcB Try.prog (fmOf fms env) (isPure tree.get) f619 Try.f28 = true := by kernel_rfl
theorem ok619 (f : FuncId) (hf : fmOf fms env 619 = some f) : DefRel Try.prog (fmOf fms env) tree.get (.code f619) f := by
  have h : fmOf fms env 619 = some 28 := by kernel_rfl
  rw [h] at hf
  cases hf
  exact funcB_ok Try.func28 chk619

theorem chk620 : funcB Try.prog (fmOf fms env) (isPure tree.get) f620 Try.f31 = true := by kernel_rfl
theorem ok620 (f : FuncId) (hf : fmOf fms env 620 = some f) : DefRel Try.prog (fmOf fms env) tree.get (.code f620) f := by
  have h : fmOf fms env 620 = some 31 := by kernel_rfl
  rw [h] at hf
  cases hf
  exact funcB_ok Try.func31 chk620

theorem chk621 : funcB Try.prog (fmOf fms env) (isPure tree.get) f621 Try.f42 = true := by kernel_rfl
theorem ok621 (f : FuncId) (hf : fmOf fms env 621 = some f) : DefRel Try.prog (fmOf fms env) tree.get (.code f621) f := by
  have h : fmOf fms env 621 = some 42 := by kernel_rfl
  rw [h] at hf
  cases hf
  exact funcB_ok Try.func42 chk621

theorem ok72 (f : FuncId) (hf : fmOf fms env 72 = some f) : DefRel Try.prog (fmOf fms env) tree.get (.prim indexByteD) f := by
  have h : fmOf fms env 72 = some 99 := by kernel_rfl
  rw [h] at hf
  cases hf
  exact prim_indexByte Try.func99 (by kernel_rfl) (by kernel_rfl) (by kernel_rfl) (by kernel_rfl)

theorem ok64 (f : FuncId) (hf : fmOf fms env 64 = some f) : DefRel Try.prog (fmOf fms env) tree.get (.prim countByteD) f := by
  have h : fmOf fms env 64 = some 90 := by kernel_rfl
  rw [h] at hf
  cases hf
  exact prim_countByte Try.func90 (by kernel_rfl) (by kernel_rfl) (by kernel_rfl) (by kernel_rfl)

theorem tabOk : TabRel Try.prog (fmOf fms env) tree.get := tabRel_tree (t := tree) ⟨⟨⟨⟨⟨⟨ok10, ok11⟩, ⟨ok13, ⟨ok14, ok15⟩⟩⟩, ⟨⟨ok21, ok22⟩, ⟨ok23, ⟨ok27, ok29⟩⟩⟩⟩, ⟨⟨⟨ok30, ok31⟩, ⟨ok32, ⟨ok33, ok34⟩⟩⟩, ⟨⟨ok35, ⟨ok36, ok37⟩⟩, ⟨ok38, ⟨ok39, ok40⟩⟩⟩⟩⟩, ⟨⟨⟨⟨ok41, ok42⟩, ⟨ok43, ⟨ok44, ok45⟩⟩⟩, ⟨⟨ok46, ok47⟩, ⟨ok48, ⟨ok49, ok50⟩⟩⟩⟩, ⟨⟨⟨ok52, ok53⟩, ⟨ok54, ⟨ok55, ok56⟩⟩⟩, ⟨⟨ok57, ⟨ok58, ok59⟩⟩, ⟨ok60, ⟨ok61, ok62⟩⟩⟩⟩⟩⟩, ⟨⟨⟨⟨⟨ok63, ok64⟩, ⟨ok65, ⟨ok66, ok67⟩⟩⟩, ⟨⟨ok68, ok69⟩, ⟨ok70, ⟨ok71, ok72⟩⟩⟩⟩, ⟨⟨⟨ok73, ok74⟩, ⟨ok76, ⟨ok77, ok78⟩⟩⟩, ⟨⟨ok182, ⟨ok184, ok187⟩⟩, ⟨ok430, ⟨ok453, ok454⟩⟩⟩⟩⟩, ⟨⟨⟨⟨ok455, ok456⟩, ⟨ok458, ⟨ok469, ok470⟩⟩⟩, ⟨⟨ok476, ⟨ok603, ok606⟩⟩, ⟨ok607, ⟨ok608, ok609⟩⟩⟩⟩, ⟨⟨⟨ok610, ok611⟩, ⟨ok612, ⟨ok613, ok614⟩⟩⟩, ⟨⟨ok615, ⟨ok616, ok617⟩⟩, ⟨ok619, ⟨ok620, ok621⟩⟩⟩⟩⟩⟩⟩

end Go.D.Tab
