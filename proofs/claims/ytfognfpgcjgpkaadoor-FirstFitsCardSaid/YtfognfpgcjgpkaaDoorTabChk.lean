/-
The table is the program's code. Printed by wip/gen.
-/
import Derived.Test.YtfognfpgcjgpkaaDoorChecked
import Derived.Test.YtfognfpgcjgpkaaDoorTab
import Derived.KernelRfl
namespace Go.D.Tab
open Go.Proofs

theorem chk10 : funcB Tryd.prog (fmOf fms env) (isPure tree.get) f10 Tryd.f40 = true := by kernel_rfl
theorem ok10 (f : FuncId) (hf : fmOf fms env 10 = some f) : DefRel Tryd.prog (fmOf fms env) tree.get (.code f10) f := by
  have h : fmOf fms env 10 = some 40 := by kernel_rfl
  rw [h] at hf
  cases hf
  exact funcB_ok Tryd.func40 chk10

theorem chk13 : funcB Tryd.prog (fmOf fms env) (isPure tree.get) f13 Tryd.f53 = true := by kernel_rfl
theorem ok13 (f : FuncId) (hf : fmOf fms env 13 = some f) : DefRel Tryd.prog (fmOf fms env) tree.get (.code f13) f := by
  have h : fmOf fms env 13 = some 53 := by kernel_rfl
  rw [h] at hf
  cases hf
  exact funcB_ok Tryd.func53 chk13

theorem chk17 : funcB Tryd.prog (fmOf fms env) (isPure tree.get) f17 Tryd.f62 = true := by kernel_rfl
theorem ok17 (f : FuncId) (hf : fmOf fms env 17 = some f) : DefRel Tryd.prog (fmOf fms env) tree.get (.code f17) f := by
  have h : fmOf fms env 17 = some 62 := by kernel_rfl
  rw [h] at hf
  cases hf
  exact funcB_ok Tryd.func62 chk17

theorem chk21 : funcB Tryd.prog (fmOf fms env) (isPure tree.get) f21 Tryd.f73 = true := by kernel_rfl
theorem ok21 (f : FuncId) (hf : fmOf fms env 21 = some f) : DefRel Tryd.prog (fmOf fms env) tree.get (.code f21) f := by
  have h : fmOf fms env 21 = some 73 := by kernel_rfl
  rw [h] at hf
  cases hf
  exact funcB_ok Tryd.func73 chk21

theorem chk23 : funcB Tryd.prog (fmOf fms env) (isPure tree.get) f23 Tryd.f61 = true := by kernel_rfl
theorem ok23 (f : FuncId) (hf : fmOf fms env 23 = some f) : DefRel Tryd.prog (fmOf fms env) tree.get (.code f23) f := by
  have h : fmOf fms env 23 = some 61 := by kernel_rfl
  rw [h] at hf
  cases hf
  exact funcB_ok Tryd.func61 chk23

theorem chk26 : funcB Tryd.prog (fmOf fms env) (isPure tree.get) f26 Tryd.f25 = true := by kernel_rfl
theorem ok26 (f : FuncId) (hf : fmOf fms env 26 = some f) : DefRel Tryd.prog (fmOf fms env) tree.get (.code f26) f := by
  have h : fmOf fms env 26 = some 25 := by kernel_rfl
  rw [h] at hf
  cases hf
  exact funcB_ok Tryd.func25 chk26

theorem chk27 : funcB Tryd.prog (fmOf fms env) (isPure tree.get) f27 Tryd.f54 = true := by kernel_rfl
theorem ok27 (f : FuncId) (hf : fmOf fms env 27 = some f) : DefRel Tryd.prog (fmOf fms env) tree.get (.code f27) f := by
  have h : fmOf fms env 27 = some 54 := by kernel_rfl
  rw [h] at hf
  cases hf
  exact funcB_ok Tryd.func54 chk27

theorem chk28 : funcB Tryd.prog (fmOf fms env) (isPure tree.get) f28 Tryd.f17 = true := by kernel_rfl
theorem ok28 (f : FuncId) (hf : fmOf fms env 28 = some f) : DefRel Tryd.prog (fmOf fms env) tree.get (.code f28) f := by
  have h : fmOf fms env 28 = some 17 := by kernel_rfl
  rw [h] at hf
  cases hf
  exact funcB_ok Tryd.func17 chk28

theorem chk29 : funcB Tryd.prog (fmOf fms env) (isPure tree.get) f29 Tryd.f55 = true := by kernel_rfl
theorem ok29 (f : FuncId) (hf : fmOf fms env 29 = some f) : DefRel Tryd.prog (fmOf fms env) tree.get (.code f29) f := by
  have h : fmOf fms env 29 = some 55 := by kernel_rfl
  rw [h] at hf
  cases hf
  exact funcB_ok Tryd.func55 chk29

theorem chk30 : funcB Tryd.prog (fmOf fms env) (isPure tree.get) f30 Tryd.f56 = true := by kernel_rfl
theorem ok30 (f : FuncId) (hf : fmOf fms env 30 = some f) : DefRel Tryd.prog (fmOf fms env) tree.get (.code f30) f := by
  have h : fmOf fms env 30 = some 56 := by kernel_rfl
  rw [h] at hf
  cases hf
  exact funcB_ok Tryd.func56 chk30

theorem chk31 : funcB Tryd.prog (fmOf fms env) (isPure tree.get) f31 Tryd.f57 = true := by kernel_rfl
theorem ok31 (f : FuncId) (hf : fmOf fms env 31 = some f) : DefRel Tryd.prog (fmOf fms env) tree.get (.code f31) f := by
  have h : fmOf fms env 31 = some 57 := by kernel_rfl
  rw [h] at hf
  cases hf
  exact funcB_ok Tryd.func57 chk31

theorem chk32 : funcB Tryd.prog (fmOf fms env) (isPure tree.get) f32 Tryd.f58 = true := by kernel_rfl
theorem ok32 (f : FuncId) (hf : fmOf fms env 32 = some f) : DefRel Tryd.prog (fmOf fms env) tree.get (.code f32) f := by
  have h : fmOf fms env 32 = some 58 := by kernel_rfl
  rw [h] at hf
  cases hf
  exact funcB_ok Tryd.func58 chk32

theorem chk40 : funcB Tryd.prog (fmOf fms env) (isPure tree.get) f40 Tryd.f65 = true := by kernel_rfl
theorem ok40 (f : FuncId) (hf : fmOf fms env 40 = some f) : DefRel Tryd.prog (fmOf fms env) tree.get (.code f40) f := by
  have h : fmOf fms env 40 = some 65 := by kernel_rfl
  rw [h] at hf
  cases hf
  exact funcB_ok Tryd.func65 chk40

theorem chk41 : funcB Tryd.prog (fmOf fms env) (isPure tree.get) f41 Tryd.f66 = true := by kernel_rfl
theorem ok41 (f : FuncId) (hf : fmOf fms env 41 = some f) : DefRel Tryd.prog (fmOf fms env) tree.get (.code f41) f := by
  have h : fmOf fms env 41 = some 66 := by kernel_rfl
  rw [h] at hf
  cases hf
  exact funcB_ok Tryd.func66 chk41

theorem chk42 : funcB Tryd.prog (fmOf fms env) (isPure tree.get) f42 Tryd.f67 = true := by kernel_rfl
theorem ok42 (f : FuncId) (hf : fmOf fms env 42 = some f) : DefRel Tryd.prog (fmOf fms env) tree.get (.code f42) f := by
  have h : fmOf fms env 42 = some 67 := by kernel_rfl
  rw [h] at hf
  cases hf
  exact funcB_ok Tryd.func67 chk42

theorem chk43 : funcB Tryd.prog (fmOf fms env) (isPure tree.get) f43 Tryd.f68 = true := by kernel_rfl
theorem ok43 (f : FuncId) (hf : fmOf fms env 43 = some f) : DefRel Tryd.prog (fmOf fms env) tree.get (.code f43) f := by
  have h : fmOf fms env 43 = some 68 := by kernel_rfl
  rw [h] at hf
  cases hf
  exact funcB_ok Tryd.func68 chk43

theorem chk44 : funcB Tryd.prog (fmOf fms env) (isPure tree.get) f44 Tryd.f69 = true := by kernel_rfl
theorem ok44 (f : FuncId) (hf : fmOf fms env 44 = some f) : DefRel Tryd.prog (fmOf fms env) tree.get (.code f44) f := by
  have h : fmOf fms env 44 = some 69 := by kernel_rfl
  rw [h] at hf
  cases hf
  exact funcB_ok Tryd.func69 chk44

theorem chk51 : funcB Tryd.prog (fmOf fms env) (isPure tree.get) f51 Tryd.f81 = true := by kernel_rfl
theorem ok51 (f : FuncId) (hf : fmOf fms env 51 = some f) : DefRel Tryd.prog (fmOf fms env) tree.get (.code f51) f := by
  have h : fmOf fms env 51 = some 81 := by kernel_rfl
  rw [h] at hf
  cases hf
  exact funcB_ok Tryd.func81 chk51

theorem chk54 : funcB Tryd.prog (fmOf fms env) (isPure tree.get) f54 Tryd.f70 = true := by kernel_rfl
theorem ok54 (f : FuncId) (hf : fmOf fms env 54 = some f) : DefRel Tryd.prog (fmOf fms env) tree.get (.code f54) f := by
  have h : fmOf fms env 54 = some 70 := by kernel_rfl
  rw [h] at hf
  cases hf
  exact funcB_ok Tryd.func70 chk54

theorem chk55 : funcB Tryd.prog (fmOf fms env) (isPure tree.get) f55 Tryd.f71 = true := by kernel_rfl
theorem ok55 (f : FuncId) (hf : fmOf fms env 55 = some f) : DefRel Tryd.prog (fmOf fms env) tree.get (.code f55) f := by
  have h : fmOf fms env 55 = some 71 := by kernel_rfl
  rw [h] at hf
  cases hf
  exact funcB_ok Tryd.func71 chk55

theorem chk56 : funcB Tryd.prog (fmOf fms env) (isPure tree.get) f56 Tryd.f72 = true := by kernel_rfl
theorem ok56 (f : FuncId) (hf : fmOf fms env 56 = some f) : DefRel Tryd.prog (fmOf fms env) tree.get (.code f56) f := by
  have h : fmOf fms env 56 = some 72 := by kernel_rfl
  rw [h] at hf
  cases hf
  exact funcB_ok Tryd.func72 chk56

theorem chk57 : funcB Tryd.prog (fmOf fms env) (isPure tree.get) f57 Tryd.f74 = true := by kernel_rfl
theorem ok57 (f : FuncId) (hf : fmOf fms env 57 = some f) : DefRel Tryd.prog (fmOf fms env) tree.get (.code f57) f := by
  have h : fmOf fms env 57 = some 74 := by kernel_rfl
  rw [h] at hf
  cases hf
  exact funcB_ok Tryd.func74 chk57

theorem chk61 : funcB Tryd.prog (fmOf fms env) (isPure tree.get) f61 Tryd.f85 = true := by kernel_rfl
theorem ok61 (f : FuncId) (hf : fmOf fms env 61 = some f) : DefRel Tryd.prog (fmOf fms env) tree.get (.code f61) f := by
  have h : fmOf fms env 61 = some 85 := by kernel_rfl
  rw [h] at hf
  cases hf
  exact funcB_ok Tryd.func85 chk61

theorem chk62 : funcB Tryd.prog (fmOf fms env) (isPure tree.get) f62 Tryd.f86 = true := by kernel_rfl
theorem ok62 (f : FuncId) (hf : fmOf fms env 62 = some f) : DefRel Tryd.prog (fmOf fms env) tree.get (.code f62) f := by
  have h : fmOf fms env 62 = some 86 := by kernel_rfl
  rw [h] at hf
  cases hf
  exact funcB_ok Tryd.func86 chk62

theorem chk63 : funcB Tryd.prog (fmOf fms env) (isPure tree.get) f63 Tryd.f87 = true := by kernel_rfl
theorem ok63 (f : FuncId) (hf : fmOf fms env 63 = some f) : DefRel Tryd.prog (fmOf fms env) tree.get (.code f63) f := by
  have h : fmOf fms env 63 = some 87 := by kernel_rfl
  rw [h] at hf
  cases hf
  exact funcB_ok Tryd.func87 chk63

theorem chk65 : funcB Tryd.prog (fmOf fms env) (isPure tree.get) f65 Tryd.f89 = true := by kernel_rfl
theorem ok65 (f : FuncId) (hf : fmOf fms env 65 = some f) : DefRel Tryd.prog (fmOf fms env) tree.get (.code f65) f := by
  have h : fmOf fms env 65 = some 89 := by kernel_rfl
  rw [h] at hf
  cases hf
  exact funcB_ok Tryd.func89 chk65

theorem chk68 : funcB Tryd.prog (fmOf fms env) (isPure tree.get) f68 Tryd.f90 = true := by kernel_rfl
theorem ok68 (f : FuncId) (hf : fmOf fms env 68 = some f) : DefRel Tryd.prog (fmOf fms env) tree.get (.code f68) f := by
  have h : fmOf fms env 68 = some 90 := by kernel_rfl
  rw [h] at hf
  cases hf
  exact funcB_ok Tryd.func90 chk68

theorem chk69 : funcB Tryd.prog (fmOf fms env) (isPure tree.get) f69 Tryd.f91 = true := by kernel_rfl
theorem ok69 (f : FuncId) (hf : fmOf fms env 69 = some f) : DefRel Tryd.prog (fmOf fms env) tree.get (.code f69) f := by
  have h : fmOf fms env 69 = some 91 := by kernel_rfl
  rw [h] at hf
  cases hf
  exact funcB_ok Tryd.func91 chk69

theorem chk70 : funcB Tryd.prog (fmOf fms env) (isPure tree.get) f70 Tryd.f92 = true := by kernel_rfl
theorem ok70 (f : FuncId) (hf : fmOf fms env 70 = some f) : DefRel Tryd.prog (fmOf fms env) tree.get (.code f70) f := by
  have h : fmOf fms env 70 = some 92 := by kernel_rfl
  rw [h] at hf
  cases hf
  exact funcB_ok Tryd.func92 chk70

theorem chk73 : funcB Tryd.prog (fmOf fms env) (isPure tree.get) f73 Tryd.f101 = true := by kernel_rfl
theorem ok73 (f : FuncId) (hf : fmOf fms env 73 = some f) : DefRel Tryd.prog (fmOf fms env) tree.get (.code f73) f := by
  have h : fmOf fms env 73 = some 101 := by kernel_rfl
  rw [h] at hf
  cases hf
  exact funcB_ok Tryd.func101 chk73

theorem chk74 : funcB Tryd.prog (fmOf fms env) (isPure tree.get) f74 Tryd.f102 = true := by kernel_rfl
theorem ok74 (f : FuncId) (hf : fmOf fms env 74 = some f) : DefRel Tryd.prog (fmOf fms env) tree.get (.code f74) f := by
  have h : fmOf fms env 74 = some 102 := by kernel_rfl
  rw [h] at hf
  cases hf
  exact funcB_ok Tryd.func102 chk74

theorem chk76 : funcB Tryd.prog (fmOf fms env) (isPure tree.get) f76 Tryd.f107 = true := by kernel_rfl
theorem ok76 (f : FuncId) (hf : fmOf fms env 76 = some f) : DefRel Tryd.prog (fmOf fms env) tree.get (.code f76) f := by
  have h : fmOf fms env 76 = some 107 := by kernel_rfl
  rw [h] at hf
  cases hf
  exact funcB_ok Tryd.func107 chk76

theorem chk77 : funcB Tryd.prog (fmOf fms env) (isPure tree.get) f77 Tryd.f108 = true := by kernel_rfl
theorem ok77 (f : FuncId) (hf : fmOf fms env 77 = some f) : DefRel Tryd.prog (fmOf fms env) tree.get (.code f77) f := by
  have h : fmOf fms env 77 = some 108 := by kernel_rfl
  rw [h] at hf
  cases hf
  exact funcB_ok Tryd.func108 chk77

theorem chk78 : funcB Tryd.prog (fmOf fms env) (isPure tree.get) f78 Tryd.f111 = true := by kernel_rfl
theorem ok78 (f : FuncId) (hf : fmOf fms env 78 = some f) : DefRel Tryd.prog (fmOf fms env) tree.get (.code f78) f := by
  have h : fmOf fms env 78 = some 111 := by kernel_rfl
  rw [h] at hf
  cases hf
  exact funcB_ok Tryd.func111 chk78

theorem chk96 : funcB Tryd.prog (fmOf fms env) (isPure tree.get) f96 Tryd.f3 = true := by kernel_rfl
theorem ok96 (f : FuncId) (hf : fmOf fms env 96 = some f) : DefRel Tryd.prog (fmOf fms env) tree.get (.code f96) f := by
  have h : fmOf fms env 96 = some 3 := by kernel_rfl
  rw [h] at hf
  cases hf
  exact funcB_ok Tryd.func3 chk96

theorem chk97 : funcB Tryd.prog (fmOf fms env) (isPure tree.get) f97 Tryd.f4 = true := by kernel_rfl
theorem ok97 (f : FuncId) (hf : fmOf fms env 97 = some f) : DefRel Tryd.prog (fmOf fms env) tree.get (.code f97) f := by
  have h : fmOf fms env 97 = some 4 := by kernel_rfl
  rw [h] at hf
  cases hf
  exact funcB_ok Tryd.func4 chk97

theorem chk98 : funcB Tryd.prog (fmOf fms env) (isPure tree.get) f98 Tryd.f5 = true := by kernel_rfl
theorem ok98 (f : FuncId) (hf : fmOf fms env 98 = some f) : DefRel Tryd.prog (fmOf fms env) tree.get (.code f98) f := by
  have h : fmOf fms env 98 = some 5 := by kernel_rfl
  rw [h] at hf
  cases hf
  exact funcB_ok Tryd.func5 chk98

theorem chk99 : funcB Tryd.prog (fmOf fms env) (isPure tree.get) f99 Tryd.f6 = true := by kernel_rfl
theorem ok99 (f : FuncId) (hf : fmOf fms env 99 = some f) : DefRel Tryd.prog (fmOf fms env) tree.get (.code f99) f := by
  have h : fmOf fms env 99 = some 6 := by kernel_rfl
  rw [h] at hf
  cases hf
  exact funcB_ok Tryd.func6 chk99

theorem chk100 : funcB Tryd.prog (fmOf fms env) (isPure tree.get) f100 Tryd.f7 = true := by kernel_rfl
theorem ok100 (f : FuncId) (hf : fmOf fms env 100 = some f) : DefRel Tryd.prog (fmOf fms env) tree.get (.code f100) f := by
  have h : fmOf fms env 100 = some 7 := by kernel_rfl
  rw [h] at hf
  cases hf
  exact funcB_ok Tryd.func7 chk100

theorem chk101 : funcB Tryd.prog (fmOf fms env) (isPure tree.get) f101 Tryd.f8 = true := by kernel_rfl
theorem ok101 (f : FuncId) (hf : fmOf fms env 101 = some f) : DefRel Tryd.prog (fmOf fms env) tree.get (.code f101) f := by
  have h : fmOf fms env 101 = some 8 := by kernel_rfl
  rw [h] at hf
  cases hf
  exact funcB_ok Tryd.func8 chk101

theorem chk102 : funcB Tryd.prog (fmOf fms env) (isPure tree.get) f102 Tryd.f9 = true := by kernel_rfl
theorem ok102 (f : FuncId) (hf : fmOf fms env 102 = some f) : DefRel Tryd.prog (fmOf fms env) tree.get (.code f102) f := by
  have h : fmOf fms env 102 = some 9 := by kernel_rfl
  rw [h] at hf
  cases hf
  exact funcB_ok Tryd.func9 chk102

theorem chk103 : funcB Tryd.prog (fmOf fms env) (isPure tree.get) f103 Tryd.f10 = true := by kernel_rfl
theorem ok103 (f : FuncId) (hf : fmOf fms env 103 = some f) : DefRel Tryd.prog (fmOf fms env) tree.get (.code f103) f := by
  have h : fmOf fms env 103 = some 10 := by kernel_rfl
  rw [h] at hf
  cases hf
  exact funcB_ok Tryd.func10 chk103

theorem chk104 : funcB Tryd.prog (fmOf fms env) (isPure tree.get) f104 Tryd.f11 = true := by kernel_rfl
theorem ok104 (f : FuncId) (hf : fmOf fms env 104 = some f) : DefRel Tryd.prog (fmOf fms env) tree.get (.code f104) f := by
  have h : fmOf fms env 104 = some 11 := by kernel_rfl
  rw [h] at hf
  cases hf
  exact funcB_ok Tryd.func11 chk104

theorem chk105 : funcB Tryd.prog (fmOf fms env) (isPure tree.get) f105 Tryd.f12 = true := by kernel_rfl
theorem ok105 (f : FuncId) (hf : fmOf fms env 105 = some f) : DefRel Tryd.prog (fmOf fms env) tree.get (.code f105) f := by
  have h : fmOf fms env 105 = some 12 := by kernel_rfl
  rw [h] at hf
  cases hf
  exact funcB_ok Tryd.func12 chk105

theorem chk106 : funcB Tryd.prog (fmOf fms env) (isPure tree.get) f106 Tryd.f13 = true := by kernel_rfl
theorem ok106 (f : FuncId) (hf : fmOf fms env 106 = some f) : DefRel Tryd.prog (fmOf fms env) tree.get (.code f106) f := by
  have h : fmOf fms env 106 = some 13 := by kernel_rfl
  rw [h] at hf
  cases hf
  exact funcB_ok Tryd.func13 chk106

theorem chk107 : funcB Tryd.prog (fmOf fms env) (isPure tree.get) f107 Tryd.f14 = true := by kernel_rfl
theorem ok107 (f : FuncId) (hf : fmOf fms env 107 = some f) : DefRel Tryd.prog (fmOf fms env) tree.get (.code f107) f := by
  have h : fmOf fms env 107 = some 14 := by kernel_rfl
  rw [h] at hf
  cases hf
  exact funcB_ok Tryd.func14 chk107

theorem chk108 : funcB Tryd.prog (fmOf fms env) (isPure tree.get) f108 Tryd.f15 = true := by kernel_rfl
theorem ok108 (f : FuncId) (hf : fmOf fms env 108 = some f) : DefRel Tryd.prog (fmOf fms env) tree.get (.code f108) f := by
  have h : fmOf fms env 108 = some 15 := by kernel_rfl
  rw [h] at hf
  cases hf
  exact funcB_ok Tryd.func15 chk108

theorem chk109 : funcB Tryd.prog (fmOf fms env) (isPure tree.get) f109 Tryd.f16 = true := by kernel_rfl
theorem ok109 (f : FuncId) (hf : fmOf fms env 109 = some f) : DefRel Tryd.prog (fmOf fms env) tree.get (.code f109) f := by
  have h : fmOf fms env 109 = some 16 := by kernel_rfl
  rw [h] at hf
  cases hf
  exact funcB_ok Tryd.func16 chk109

theorem chk110 : funcB Tryd.prog (fmOf fms env) (isPure tree.get) f110 Tryd.f18 = true := by kernel_rfl
theorem ok110 (f : FuncId) (hf : fmOf fms env 110 = some f) : DefRel Tryd.prog (fmOf fms env) tree.get (.code f110) f := by
  have h : fmOf fms env 110 = some 18 := by kernel_rfl
  rw [h] at hf
  cases hf
  exact funcB_ok Tryd.func18 chk110

theorem chk111 : funcB Tryd.prog (fmOf fms env) (isPure tree.get) f111 Tryd.f19 = true := by kernel_rfl
theorem ok111 (f : FuncId) (hf : fmOf fms env 111 = some f) : DefRel Tryd.prog (fmOf fms env) tree.get (.code f111) f := by
  have h : fmOf fms env 111 = some 19 := by kernel_rfl
  rw [h] at hf
  cases hf
  exact funcB_ok Tryd.func19 chk111

theorem chk112 : funcB Tryd.prog (fmOf fms env) (isPure tree.get) f112 Tryd.f20 = true := by kernel_rfl
theorem ok112 (f : FuncId) (hf : fmOf fms env 112 = some f) : DefRel Tryd.prog (fmOf fms env) tree.get (.code f112) f := by
  have h : fmOf fms env 112 = some 20 := by kernel_rfl
  rw [h] at hf
  cases hf
  exact funcB_ok Tryd.func20 chk112

theorem chk113 : funcB Tryd.prog (fmOf fms env) (isPure tree.get) f113 Tryd.f21 = true := by kernel_rfl
theorem ok113 (f : FuncId) (hf : fmOf fms env 113 = some f) : DefRel Tryd.prog (fmOf fms env) tree.get (.code f113) f := by
  have h : fmOf fms env 113 = some 21 := by kernel_rfl
  rw [h] at hf
  cases hf
  exact funcB_ok Tryd.func21 chk113

theorem chk114 : funcB Tryd.prog (fmOf fms env) (isPure tree.get) f114 Tryd.f22 = true := by kernel_rfl
theorem ok114 (f : FuncId) (hf : fmOf fms env 114 = some f) : DefRel Tryd.prog (fmOf fms env) tree.get (.code f114) f := by
  have h : fmOf fms env 114 = some 22 := by kernel_rfl
  rw [h] at hf
  cases hf
  exact funcB_ok Tryd.func22 chk114

theorem chk115 : funcB Tryd.prog (fmOf fms env) (isPure tree.get) f115 Tryd.f23 = true := by kernel_rfl
theorem ok115 (f : FuncId) (hf : fmOf fms env 115 = some f) : DefRel Tryd.prog (fmOf fms env) tree.get (.code f115) f := by
  have h : fmOf fms env 115 = some 23 := by kernel_rfl
  rw [h] at hf
  cases hf
  exact funcB_ok Tryd.func23 chk115

theorem chk116 : funcB Tryd.prog (fmOf fms env) (isPure tree.get) f116 Tryd.f24 = true := by kernel_rfl
theorem ok116 (f : FuncId) (hf : fmOf fms env 116 = some f) : DefRel Tryd.prog (fmOf fms env) tree.get (.code f116) f := by
  have h : fmOf fms env 116 = some 24 := by kernel_rfl
  rw [h] at hf
  cases hf
  exact funcB_ok Tryd.func24 chk116

theorem chk117 : funcB Tryd.prog (fmOf fms env) (isPure tree.get) f117 Tryd.f26 = true := by kernel_rfl
theorem ok117 (f : FuncId) (hf : fmOf fms env 117 = some f) : DefRel Tryd.prog (fmOf fms env) tree.get (.code f117) f := by
  have h : fmOf fms env 117 = some 26 := by kernel_rfl
  rw [h] at hf
  cases hf
  exact funcB_ok Tryd.func26 chk117

theorem chk118 : funcB Tryd.prog (fmOf fms env) (isPure tree.get) f118 Tryd.f27 = true := by kernel_rfl
theorem ok118 (f : FuncId) (hf : fmOf fms env 118 = some f) : DefRel Tryd.prog (fmOf fms env) tree.get (.code f118) f := by
  have h : fmOf fms env 118 = some 27 := by kernel_rfl
  rw [h] at hf
  cases hf
  exact funcB_ok Tryd.func27 chk118

theorem chk119 : funcB Tryd.prog (fmOf fms env) (isPure tree.get) f119 Tryd.f28 = true := by kernel_rfl
theorem ok119 (f : FuncId) (hf : fmOf fms env 119 = some f) : DefRel Tryd.prog (fmOf fms env) tree.get (.code f119) f := by
  have h : fmOf fms env 119 = some 28 := by kernel_rfl
  rw [h] at hf
  cases hf
  exact funcB_ok Tryd.func28 chk119

theorem chk120 : funcB Tryd.prog (fmOf fms env) (isPure tree.get) f120 Tryd.f29 = true := by kernel_rfl
theorem ok120 (f : FuncId) (hf : fmOf fms env 120 = some f) : DefRel Tryd.prog (fmOf fms env) tree.get (.code f120) f := by
  have h : fmOf fms env 120 = some 29 := by kernel_rfl
  rw [h] at hf
  cases hf
  exact funcB_ok Tryd.func29 chk120

theorem chk121 : funcB Tryd.prog (fmOf fms env) (isPure tree.get) f121 Tryd.f30 = true := by kernel_rfl
theorem ok121 (f : FuncId) (hf : fmOf fms env 121 = some f) : DefRel Tryd.prog (fmOf fms env) tree.get (.code f121) f := by
  have h : fmOf fms env 121 = some 30 := by kernel_rfl
  rw [h] at hf
  cases hf
  exact funcB_ok Tryd.func30 chk121

theorem chk122 : funcB Tryd.prog (fmOf fms env) (isPure tree.get) f122 Tryd.f31 = true := by kernel_rfl
theorem ok122 (f : FuncId) (hf : fmOf fms env 122 = some f) : DefRel Tryd.prog (fmOf fms env) tree.get (.code f122) f := by
  have h : fmOf fms env 122 = some 31 := by kernel_rfl
  rw [h] at hf
  cases hf
  exact funcB_ok Tryd.func31 chk122

theorem chk123 : funcB Tryd.prog (fmOf fms env) (isPure tree.get) f123 Tryd.f32 = true := by kernel_rfl
theorem ok123 (f : FuncId) (hf : fmOf fms env 123 = some f) : DefRel Tryd.prog (fmOf fms env) tree.get (.code f123) f := by
  have h : fmOf fms env 123 = some 32 := by kernel_rfl
  rw [h] at hf
  cases hf
  exact funcB_ok Tryd.func32 chk123

theorem chk124 : funcB Tryd.prog (fmOf fms env) (isPure tree.get) f124 Tryd.f33 = true := by kernel_rfl
theorem ok124 (f : FuncId) (hf : fmOf fms env 124 = some f) : DefRel Tryd.prog (fmOf fms env) tree.get (.code f124) f := by
  have h : fmOf fms env 124 = some 33 := by kernel_rfl
  rw [h] at hf
  cases hf
  exact funcB_ok Tryd.func33 chk124

theorem chk125 : funcB Tryd.prog (fmOf fms env) (isPure tree.get) f125 Tryd.f34 = true := by kernel_rfl
theorem ok125 (f : FuncId) (hf : fmOf fms env 125 = some f) : DefRel Tryd.prog (fmOf fms env) tree.get (.code f125) f := by
  have h : fmOf fms env 125 = some 34 := by kernel_rfl
  rw [h] at hf
  cases hf
  exact funcB_ok Tryd.func34 chk125

theorem chk126 : funcB Tryd.prog (fmOf fms env) (isPure tree.get) f126 Tryd.f35 = true := by kernel_rfl
theorem ok126 (f : FuncId) (hf : fmOf fms env 126 = some f) : DefRel Tryd.prog (fmOf fms env) tree.get (.code f126) f := by
  have h : fmOf fms env 126 = some 35 := by kernel_rfl
  rw [h] at hf
  cases hf
  exact funcB_ok Tryd.func35 chk126

theorem chk127 : funcB Tryd.prog (fmOf fms env) (isPure tree.get) f127 Tryd.f36 = true := by kernel_rfl
theorem ok127 (f : FuncId) (hf : fmOf fms env 127 = some f) : DefRel Tryd.prog (fmOf fms env) tree.get (.code f127) f := by
  have h : fmOf fms env 127 = some 36 := by kernel_rfl
  rw [h] at hf
  cases hf
  exact funcB_ok Tryd.func36 chk127

theorem chk128 : funcB Tryd.prog (fmOf fms env) (isPure tree.get) f128 Tryd.f37 = true := by kernel_rfl
theorem ok128 (f : FuncId) (hf : fmOf fms env 128 = some f) : DefRel Tryd.prog (fmOf fms env) tree.get (.code f128) f := by
  have h : fmOf fms env 128 = some 37 := by kernel_rfl
  rw [h] at hf
  cases hf
  exact funcB_ok Tryd.func37 chk128

theorem chk129 : funcB Tryd.prog (fmOf fms env) (isPure tree.get) f129 Tryd.f38 = true := by kernel_rfl
theorem ok129 (f : FuncId) (hf : fmOf fms env 129 = some f) : DefRel Tryd.prog (fmOf fms env) tree.get (.code f129) f := by
  have h : fmOf fms env 129 = some 38 := by kernel_rfl
  rw [h] at hf
  cases hf
  exact funcB_ok Tryd.func38 chk129

theorem chk130 : funcB Tryd.prog (fmOf fms env) (isPure tree.get) f130 Tryd.f39 = true := by kernel_rfl
theorem ok130 (f : FuncId) (hf : fmOf fms env 130 = some f) : DefRel Tryd.prog (fmOf fms env) tree.get (.code f130) f := by
  have h : fmOf fms env 130 = some 39 := by kernel_rfl
  rw [h] at hf
  cases hf
  exact funcB_ok Tryd.func39 chk130

theorem chk131 : funcB Tryd.prog (fmOf fms env) (isPure tree.get) f131 Tryd.f41 = true := by kernel_rfl
theorem ok131 (f : FuncId) (hf : fmOf fms env 131 = some f) : DefRel Tryd.prog (fmOf fms env) tree.get (.code f131) f := by
  have h : fmOf fms env 131 = some 41 := by kernel_rfl
  rw [h] at hf
  cases hf
  exact funcB_ok Tryd.func41 chk131

theorem chk132 : funcB Tryd.prog (fmOf fms env) (isPure tree.get) f132 Tryd.f42 = true := by kernel_rfl
theorem ok132 (f : FuncId) (hf : fmOf fms env 132 = some f) : DefRel Tryd.prog (fmOf fms env) tree.get (.code f132) f := by
  have h : fmOf fms env 132 = some 42 := by kernel_rfl
  rw [h] at hf
  cases hf
  exact funcB_ok Tryd.func42 chk132

theorem chk133 : funcB Tryd.prog (fmOf fms env) (isPure tree.get) f133 Tryd.f43 = true := by kernel_rfl
theorem ok133 (f : FuncId) (hf : fmOf fms env 133 = some f) : DefRel Tryd.prog (fmOf fms env) tree.get (.code f133) f := by
  have h : fmOf fms env 133 = some 43 := by kernel_rfl
  rw [h] at hf
  cases hf
  exact funcB_ok Tryd.func43 chk133

theorem chk134 : funcB Tryd.prog (fmOf fms env) (isPure tree.get) f134 Tryd.f44 = true := by kernel_rfl
theorem ok134 (f : FuncId) (hf : fmOf fms env 134 = some f) : DefRel Tryd.prog (fmOf fms env) tree.get (.code f134) f := by
  have h : fmOf fms env 134 = some 44 := by kernel_rfl
  rw [h] at hf
  cases hf
  exact funcB_ok Tryd.func44 chk134

theorem chk135 : funcB Tryd.prog (fmOf fms env) (isPure tree.get) f135 Tryd.f45 = true := by kernel_rfl
theorem ok135 (f : FuncId) (hf : fmOf fms env 135 = some f) : DefRel Tryd.prog (fmOf fms env) tree.get (.code f135) f := by
  have h : fmOf fms env 135 = some 45 := by kernel_rfl
  rw [h] at hf
  cases hf
  exact funcB_ok Tryd.func45 chk135

theorem chk136 : funcB Tryd.prog (fmOf fms env) (isPure tree.get) f136 Tryd.f46 = true := by kernel_rfl
theorem ok136 (f : FuncId) (hf : fmOf fms env 136 = some f) : DefRel Tryd.prog (fmOf fms env) tree.get (.code f136) f := by
  have h : fmOf fms env 136 = some 46 := by kernel_rfl
  rw [h] at hf
  cases hf
  exact funcB_ok Tryd.func46 chk136

theorem chk137 : funcB Tryd.prog (fmOf fms env) (isPure tree.get) f137 Tryd.f47 = true := by kernel_rfl
theorem ok137 (f : FuncId) (hf : fmOf fms env 137 = some f) : DefRel Tryd.prog (fmOf fms env) tree.get (.code f137) f := by
  have h : fmOf fms env 137 = some 47 := by kernel_rfl
  rw [h] at hf
  cases hf
  exact funcB_ok Tryd.func47 chk137

theorem chk138 : funcB Tryd.prog (fmOf fms env) (isPure tree.get) f138 Tryd.f48 = true := by kernel_rfl
theorem ok138 (f : FuncId) (hf : fmOf fms env 138 = some f) : DefRel Tryd.prog (fmOf fms env) tree.get (.code f138) f := by
  have h : fmOf fms env 138 = some 48 := by kernel_rfl
  rw [h] at hf
  cases hf
  exact funcB_ok Tryd.func48 chk138

theorem chk139 : funcB Tryd.prog (fmOf fms env) (isPure tree.get) f139 Tryd.f49 = true := by kernel_rfl
theorem ok139 (f : FuncId) (hf : fmOf fms env 139 = some f) : DefRel Tryd.prog (fmOf fms env) tree.get (.code f139) f := by
  have h : fmOf fms env 139 = some 49 := by kernel_rfl
  rw [h] at hf
  cases hf
  exact funcB_ok Tryd.func49 chk139

theorem chk140 : funcB Tryd.prog (fmOf fms env) (isPure tree.get) f140 Tryd.f50 = true := by kernel_rfl
theorem ok140 (f : FuncId) (hf : fmOf fms env 140 = some f) : DefRel Tryd.prog (fmOf fms env) tree.get (.code f140) f := by
  have h : fmOf fms env 140 = some 50 := by kernel_rfl
  rw [h] at hf
  cases hf
  exact funcB_ok Tryd.func50 chk140

theorem chk141 : funcB Tryd.prog (fmOf fms env) (isPure tree.get) f141 Tryd.f51 = true := by kernel_rfl
theorem ok141 (f : FuncId) (hf : fmOf fms env 141 = some f) : DefRel Tryd.prog (fmOf fms env) tree.get (.code f141) f := by
  have h : fmOf fms env 141 = some 51 := by kernel_rfl
  rw [h] at hf
  cases hf
  exact funcB_ok Tryd.func51 chk141

theorem chk142 : funcB Tryd.prog (fmOf fms env) (isPure tree.get) f142 Tryd.f52 = true := by kernel_rfl
theorem ok142 (f : FuncId) (hf : fmOf fms env 142 = some f) : DefRel Tryd.prog (fmOf fms env) tree.get (.code f142) f := by
  have h : fmOf fms env 142 = some 52 := by kernel_rfl
  rw [h] at hf
  cases hf
  exact funcB_ok Tryd.func52 chk142

theorem chk143 : funcB Tryd.prog (fmOf fms env) (isPure tree.get) f143 Tryd.f59 = true := by kernel_rfl
theorem ok143 (f : FuncId) (hf : fmOf fms env 143 = some f) : DefRel Tryd.prog (fmOf fms env) tree.get (.code f143) f := by
  have h : fmOf fms env 143 = some 59 := by kernel_rfl
  rw [h] at hf
  cases hf
  exact funcB_ok Tryd.func59 chk143

theorem chk144 : funcB Tryd.prog (fmOf fms env) (isPure tree.get) f144 Tryd.f60 = true := by kernel_rfl
theorem ok144 (f : FuncId) (hf : fmOf fms env 144 = some f) : DefRel Tryd.prog (fmOf fms env) tree.get (.code f144) f := by
  have h : fmOf fms env 144 = some 60 := by kernel_rfl
  rw [h] at hf
  cases hf
  exact funcB_ok Tryd.func60 chk144

theorem chk145 : funcB Tryd.prog (fmOf fms env) (isPure tree.get) f145 Tryd.f63 = true := by kernel_rfl
theorem ok145 (f : FuncId) (hf : fmOf fms env 145 = some f) : DefRel Tryd.prog (fmOf fms env) tree.get (.code f145) f := by
  have h : fmOf fms env 145 = some 63 := by kernel_rfl
  rw [h] at hf
  cases hf
  exact funcB_ok Tryd.func63 chk145

theorem chk146 : funcB Tryd.prog (fmOf fms env) (isPure tree.get) f146 Tryd.f64 = true := by kernel_rfl
theorem ok146 (f : FuncId) (hf : fmOf fms env 146 = some f) : DefRel Tryd.prog (fmOf fms env) tree.get (.code f146) f := by
  have h : fmOf fms env 146 = some 64 := by kernel_rfl
  rw [h] at hf
  cases hf
  exact funcB_ok Tryd.func64 chk146

theorem chk147 : funcB Tryd.prog (fmOf fms env) (isPure tree.get) f147 Tryd.f75 = true := by kernel_rfl
theorem ok147 (f : FuncId) (hf : fmOf fms env 147 = some f) : DefRel Tryd.prog (fmOf fms env) tree.get (.code f147) f := by
  have h : fmOf fms env 147 = some 75 := by kernel_rfl
  rw [h] at hf
  cases hf
  exact funcB_ok Tryd.func75 chk147

theorem chk148 : funcB Tryd.prog (fmOf fms env) (isPure tree.get) f148 Tryd.f76 = true := by kernel_rfl
theorem ok148 (f : FuncId) (hf : fmOf fms env 148 = some f) : DefRel Tryd.prog (fmOf fms env) tree.get (.code f148) f := by
  have h : fmOf fms env 148 = some 76 := by kernel_rfl
  rw [h] at hf
  cases hf
  exact funcB_ok Tryd.func76 chk148

theorem chk149 : funcB Tryd.prog (fmOf fms env) (isPure tree.get) f149 Tryd.f77 = true := by kernel_rfl
theorem ok149 (f : FuncId) (hf : fmOf fms env 149 = some f) : DefRel Tryd.prog (fmOf fms env) tree.get (.code f149) f := by
  have h : fmOf fms env 149 = some 77 := by kernel_rfl
  rw [h] at hf
  cases hf
  exact funcB_ok Tryd.func77 chk149

theorem chk150 : funcB Tryd.prog (fmOf fms env) (isPure tree.get) f150 Tryd.f78 = true := by kernel_rfl
theorem ok150 (f : FuncId) (hf : fmOf fms env 150 = some f) : DefRel Tryd.prog (fmOf fms env) tree.get (.code f150) f := by
  have h : fmOf fms env 150 = some 78 := by kernel_rfl
  rw [h] at hf
  cases hf
  exact funcB_ok Tryd.func78 chk150

theorem chk151 : funcB Tryd.prog (fmOf fms env) (isPure tree.get) f151 Tryd.f79 = true := by kernel_rfl
theorem ok151 (f : FuncId) (hf : fmOf fms env 151 = some f) : DefRel Tryd.prog (fmOf fms env) tree.get (.code f151) f := by
  have h : fmOf fms env 151 = some 79 := by kernel_rfl
  rw [h] at hf
  cases hf
  exact funcB_ok Tryd.func79 chk151

theorem chk152 : funcB Tryd.prog (fmOf fms env) (isPure tree.get) f152 Tryd.f80 = true := by kernel_rfl
theorem ok152 (f : FuncId) (hf : fmOf fms env 152 = some f) : DefRel Tryd.prog (fmOf fms env) tree.get (.code f152) f := by
  have h : fmOf fms env 152 = some 80 := by kernel_rfl
  rw [h] at hf
  cases hf
  exact funcB_ok Tryd.func80 chk152

theorem chk153 : funcB Tryd.prog (fmOf fms env) (isPure tree.get) f153 Tryd.f82 = true := by kernel_rfl
theorem ok153 (f : FuncId) (hf : fmOf fms env 153 = some f) : DefRel Tryd.prog (fmOf fms env) tree.get (.code f153) f := by
  have h : fmOf fms env 153 = some 82 := by kernel_rfl
  rw [h] at hf
  cases hf
  exact funcB_ok Tryd.func82 chk153

theorem chk154 : funcB Tryd.prog (fmOf fms env) (isPure tree.get) f154 Tryd.f83 = true := by kernel_rfl
theorem ok154 (f : FuncId) (hf : fmOf fms env 154 = some f) : DefRel Tryd.prog (fmOf fms env) tree.get (.code f154) f := by
  have h : fmOf fms env 154 = some 83 := by kernel_rfl
  rw [h] at hf
  cases hf
  exact funcB_ok Tryd.func83 chk154

theorem chk155 : funcB Tryd.prog (fmOf fms env) (isPure tree.get) f155 Tryd.f84 = true := by kernel_rfl
theorem ok155 (f : FuncId) (hf : fmOf fms env 155 = some f) : DefRel Tryd.prog (fmOf fms env) tree.get (.code f155) f := by
  have h : fmOf fms env 155 = some 84 := by kernel_rfl
  rw [h] at hf
  cases hf
  exact funcB_ok Tryd.func84 chk155

theorem chk156 : funcB Tryd.prog (fmOf fms env) (isPure tree.get) f156 Tryd.f93 = true := by kernel_rfl
theorem ok156 (f : FuncId) (hf : fmOf fms env 156 = some f) : DefRel Tryd.prog (fmOf fms env) tree.get (.code f156) f := by
  have h : fmOf fms env 156 = some 93 := by kernel_rfl
  rw [h] at hf
  cases hf
  exact funcB_ok Tryd.func93 chk156

theorem chk157 : funcB Tryd.prog (fmOf fms env) (isPure tree.get) f157 Tryd.f94 = true := by kernel_rfl
theorem ok157 (f : FuncId) (hf : fmOf fms env 157 = some f) : DefRel Tryd.prog (fmOf fms env) tree.get (.code f157) f := by
  have h : fmOf fms env 157 = some 94 := by kernel_rfl
  rw [h] at hf
  cases hf
  exact funcB_ok Tryd.func94 chk157

theorem chk158 : funcB Tryd.prog (fmOf fms env) (isPure tree.get) f158 Tryd.f95 = true := by kernel_rfl
theorem ok158 (f : FuncId) (hf : fmOf fms env 158 = some f) : DefRel Tryd.prog (fmOf fms env) tree.get (.code f158) f := by
  have h : fmOf fms env 158 = some 95 := by kernel_rfl
  rw [h] at hf
  cases hf
  exact funcB_ok Tryd.func95 chk158

theorem chk159 : funcB Tryd.prog (fmOf fms env) (isPure tree.get) f159 Tryd.f96 = true := by kernel_rfl
theorem ok159 (f : FuncId) (hf : fmOf fms env 159 = some f) : DefRel Tryd.prog (fmOf fms env) tree.get (.code f159) f := by
  have h : fmOf fms env 159 = some 96 := by kernel_rfl
  rw [h] at hf
  cases hf
  exact funcB_ok Tryd.func96 chk159

theorem chk160 : funcB Tryd.prog (fmOf fms env) (isPure tree.get) f160 Tryd.f97 = true := by kernel_rfl
theorem ok160 (f : FuncId) (hf : fmOf fms env 160 = some f) : DefRel Tryd.prog (fmOf fms env) tree.get (.code f160) f := by
  have h : fmOf fms env 160 = some 97 := by kernel_rfl
  rw [h] at hf
  cases hf
  exact funcB_ok Tryd.func97 chk160

theorem chk161 : funcB Tryd.prog (fmOf fms env) (isPure tree.get) f161 Tryd.f98 = true := by kernel_rfl
theorem ok161 (f : FuncId) (hf : fmOf fms env 161 = some f) : DefRel Tryd.prog (fmOf fms env) tree.get (.code f161) f := by
  have h : fmOf fms env 161 = some 98 := by kernel_rfl
  rw [h] at hf
  cases hf
  exact funcB_ok Tryd.func98 chk161

theorem chk162 : funcB Tryd.prog (fmOf fms env) (isPure tree.get) f162 Tryd.f99 = true := by kernel_rfl
theorem ok162 (f : FuncId) (hf : fmOf fms env 162 = some f) : DefRel Tryd.prog (fmOf fms env) tree.get (.code f162) f := by
  have h : fmOf fms env 162 = some 99 := by kernel_rfl
  rw [h] at hf
  cases hf
  exact funcB_ok Tryd.func99 chk162

theorem chk163 : funcB Tryd.prog (fmOf fms env) (isPure tree.get) f163 Tryd.f103 = true := by kernel_rfl
theorem ok163 (f : FuncId) (hf : fmOf fms env 163 = some f) : DefRel Tryd.prog (fmOf fms env) tree.get (.code f163) f := by
  have h : fmOf fms env 163 = some 103 := by kernel_rfl
  rw [h] at hf
  cases hf
  exact funcB_ok Tryd.func103 chk163

theorem chk164 : funcB Tryd.prog (fmOf fms env) (isPure tree.get) f164 Tryd.f104 = true := by kernel_rfl
theorem ok164 (f : FuncId) (hf : fmOf fms env 164 = some f) : DefRel Tryd.prog (fmOf fms env) tree.get (.code f164) f := by
  have h : fmOf fms env 164 = some 104 := by kernel_rfl
  rw [h] at hf
  cases hf
  exact funcB_ok Tryd.func104 chk164

theorem chk165 : funcB Tryd.prog (fmOf fms env) (isPure tree.get) f165 Tryd.f105 = true := by kernel_rfl
theorem ok165 (f : FuncId) (hf : fmOf fms env 165 = some f) : DefRel Tryd.prog (fmOf fms env) tree.get (.code f165) f := by
  have h : fmOf fms env 165 = some 105 := by kernel_rfl
  rw [h] at hf
  cases hf
  exact funcB_ok Tryd.func105 chk165

theorem chk166 : funcB Tryd.prog (fmOf fms env) (isPure tree.get) f166 Tryd.f109 = true := by kernel_rfl
theorem ok166 (f : FuncId) (hf : fmOf fms env 166 = some f) : DefRel Tryd.prog (fmOf fms env) tree.get (.code f166) f := by
  have h : fmOf fms env 166 = some 109 := by kernel_rfl
  rw [h] at hf
  cases hf
  exact funcB_ok Tryd.func109 chk166

theorem chk167 : funcB Tryd.prog (fmOf fms env) (isPure tree.get) f167 Tryd.f110 = true := by kernel_rfl
theorem ok167 (f : FuncId) (hf : fmOf fms env 167 = some f) : DefRel Tryd.prog (fmOf fms env) tree.get (.code f167) f := by
  have h : fmOf fms env 167 = some 110 := by kernel_rfl
  rw [h] at hf
  cases hf
  exact funcB_ok Tryd.func110 chk167

theorem ok72 (f : FuncId) (hf : fmOf fms env 72 = some f) : DefRel Tryd.prog (fmOf fms env) tree.get (.prim indexByteD) f := by
  have h : fmOf fms env 72 = some 100 := by kernel_rfl
  rw [h] at hf
  cases hf
  exact prim_indexByte Tryd.func100 (by kernel_rfl) (by kernel_rfl) (by kernel_rfl) (by kernel_rfl)

theorem ok64 (f : FuncId) (hf : fmOf fms env 64 = some f) : DefRel Tryd.prog (fmOf fms env) tree.get (.prim countByteD) f := by
  have h : fmOf fms env 64 = some 88 := by kernel_rfl
  rw [h] at hf
  cases hf
  exact prim_countByte Tryd.func88 (by kernel_rfl) (by kernel_rfl) (by kernel_rfl) (by kernel_rfl)

theorem tabOk : TabRel Tryd.prog (fmOf fms env) tree.get := tabRel_tree (t := tree) ⟨⟨⟨⟨⟨⟨ok10, ⟨ok13, ok17⟩⟩, ⟨ok21, ⟨ok23, ok26⟩⟩⟩, ⟨⟨ok27, ⟨ok28, ok29⟩⟩, ⟨⟨ok30, ok31⟩, ⟨ok32, ok40⟩⟩⟩⟩, ⟨⟨⟨ok41, ⟨ok42, ok43⟩⟩, ⟨⟨ok44, ok51⟩, ⟨ok54, ok55⟩⟩⟩, ⟨⟨ok56, ⟨ok57, ok61⟩⟩, ⟨⟨ok62, ok63⟩, ⟨ok64, ok65⟩⟩⟩⟩⟩, ⟨⟨⟨⟨ok68, ⟨ok69, ok70⟩⟩, ⟨ok72, ⟨ok73, ok74⟩⟩⟩, ⟨⟨ok76, ⟨ok77, ok78⟩⟩, ⟨⟨ok96, ok97⟩, ⟨ok98, ok99⟩⟩⟩⟩, ⟨⟨⟨ok100, ⟨ok101, ok102⟩⟩, ⟨⟨ok103, ok104⟩, ⟨ok105, ok106⟩⟩⟩, ⟨⟨ok107, ⟨ok108, ok109⟩⟩, ⟨⟨ok110, ok111⟩, ⟨ok112, ok113⟩⟩⟩⟩⟩⟩, ⟨⟨⟨⟨⟨ok114, ⟨ok115, ok116⟩⟩, ⟨ok117, ⟨ok118, ok119⟩⟩⟩, ⟨⟨ok120, ⟨ok121, ok122⟩⟩, ⟨⟨ok123, ok124⟩, ⟨ok125, ok126⟩⟩⟩⟩, ⟨⟨⟨ok127, ⟨ok128, ok129⟩⟩, ⟨⟨ok130, ok131⟩, ⟨ok132, ok133⟩⟩⟩, ⟨⟨ok134, ⟨ok135, ok136⟩⟩, ⟨⟨ok137, ok138⟩, ⟨ok139, ok140⟩⟩⟩⟩⟩, ⟨⟨⟨⟨ok141, ⟨ok142, ok143⟩⟩, ⟨ok144, ⟨ok145, ok146⟩⟩⟩, ⟨⟨ok147, ⟨ok148, ok149⟩⟩, ⟨⟨ok150, ok151⟩, ⟨ok152, ok153⟩⟩⟩⟩, ⟨⟨⟨ok154, ⟨ok155, ok156⟩⟩, ⟨⟨ok157, ok158⟩, ⟨ok159, ok160⟩⟩⟩, ⟨⟨ok161, ⟨ok162, ok163⟩⟩, ⟨⟨ok164, ok165⟩, ⟨ok166, ok167⟩⟩⟩⟩⟩⟩⟩

end Go.D.Tab
