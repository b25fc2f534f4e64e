/-
The table is the program's code. Printed by wip/gen.
-/
import Derived.Test.YtfognfpgcjgpkaaGreatDoorChecked
import Derived.Test.YtfognfpgcjgpkaaGreatDoorTab
import Derived.KernelRfl
namespace Go.D.Tab
open Go.Proofs

theorem chk10 : funcB Tryz.prog (fmOf fms env) (isPure tree.get) f10 Tryz.f70 = true := by kernel_rfl
theorem ok10 (f : FuncId) (hf : fmOf fms env 10 = some f) : DefRel Tryz.prog (fmOf fms env) tree.get (.code f10) f := by
  have h : fmOf fms env 10 = some 70 := by kernel_rfl
  rw [h] at hf
  cases hf
  exact funcB_ok Tryz.func70 chk10

theorem chk13 : funcB Tryz.prog (fmOf fms env) (isPure tree.get) f13 Tryz.f80 = true := by kernel_rfl
theorem ok13 (f : FuncId) (hf : fmOf fms env 13 = some f) : DefRel Tryz.prog (fmOf fms env) tree.get (.code f13) f := by
  have h : fmOf fms env 13 = some 80 := by kernel_rfl
  rw [h] at hf
  cases hf
  exact funcB_ok Tryz.func80 chk13

theorem chk17 : funcB Tryz.prog (fmOf fms env) (isPure tree.get) f17 Tryz.f89 = true := by kernel_rfl
theorem ok17 (f : FuncId) (hf : fmOf fms env 17 = some f) : DefRel Tryz.prog (fmOf fms env) tree.get (.code f17) f := by
  have h : fmOf fms env 17 = some 89 := by kernel_rfl
  rw [h] at hf
  cases hf
  exact funcB_ok Tryz.func89 chk17

theorem chk21 : funcB Tryz.prog (fmOf fms env) (isPure tree.get) f21 Tryz.f98 = true := by kernel_rfl
theorem ok21 (f : FuncId) (hf : fmOf fms env 21 = some f) : DefRel Tryz.prog (fmOf fms env) tree.get (.code f21) f := by
  have h : fmOf fms env 21 = some 98 := by kernel_rfl
  rw [h] at hf
  cases hf
  exact funcB_ok Tryz.func98 chk21

theorem chk23 : funcB Tryz.prog (fmOf fms env) (isPure tree.get) f23 Tryz.f88 = true := by kernel_rfl
theorem ok23 (f : FuncId) (hf : fmOf fms env 23 = some f) : DefRel Tryz.prog (fmOf fms env) tree.get (.code f23) f := by
  have h : fmOf fms env 23 = some 88 := by kernel_rfl
  rw [h] at hf
  cases hf
  exact funcB_ok Tryz.func88 chk23

theorem chk26 : funcB Tryz.prog (fmOf fms env) (isPure tree.get) f26 Tryz.f58 = true := by kernel_rfl
theorem ok26 (f : FuncId) (hf : fmOf fms env 26 = some f) : DefRel Tryz.prog (fmOf fms env) tree.get (.code f26) f := by
  have h : fmOf fms env 26 = some 58 := by kernel_rfl
  rw [h] at hf
  cases hf
  exact funcB_ok Tryz.func58 chk26

theorem chk27 : funcB Tryz.prog (fmOf fms env) (isPure tree.get) f27 Tryz.f81 = true := by kernel_rfl
theorem ok27 (f : FuncId) (hf : fmOf fms env 27 = some f) : DefRel Tryz.prog (fmOf fms env) tree.get (.code f27) f := by
  have h : fmOf fms env 27 = some 81 := by kernel_rfl
  rw [h] at hf
  cases hf
  exact funcB_ok Tryz.func81 chk27

theorem chk29 : funcB Tryz.prog (fmOf fms env) (isPure tree.get) f29 Tryz.f82 = true := by kernel_rfl
theorem ok29 (f : FuncId) (hf : fmOf fms env 29 = some f) : DefRel Tryz.prog (fmOf fms env) tree.get (.code f29) f := by
  have h : fmOf fms env 29 = some 82 := by kernel_rfl
  rw [h] at hf
  cases hf
  exact funcB_ok Tryz.func82 chk29

theorem chk30 : funcB Tryz.prog (fmOf fms env) (isPure tree.get) f30 Tryz.f83 = true := by kernel_rfl
theorem ok30 (f : FuncId) (hf : fmOf fms env 30 = some f) : DefRel Tryz.prog (fmOf fms env) tree.get (.code f30) f := by
  have h : fmOf fms env 30 = some 83 := by kernel_rfl
  rw [h] at hf
  cases hf
  exact funcB_ok Tryz.func83 chk30

theorem chk31 : funcB Tryz.prog (fmOf fms env) (isPure tree.get) f31 Tryz.f84 = true := by kernel_rfl
theorem ok31 (f : FuncId) (hf : fmOf fms env 31 = some f) : DefRel Tryz.prog (fmOf fms env) tree.get (.code f31) f := by
  have h : fmOf fms env 31 = some 84 := by kernel_rfl
  rw [h] at hf
  cases hf
  exact funcB_ok Tryz.func84 chk31

theorem chk32 : funcB Tryz.prog (fmOf fms env) (isPure tree.get) f32 Tryz.f85 = true := by kernel_rfl
theorem ok32 (f : FuncId) (hf : fmOf fms env 32 = some f) : DefRel Tryz.prog (fmOf fms env) tree.get (.code f32) f := by
  have h : fmOf fms env 32 = some 85 := by kernel_rfl
  rw [h] at hf
  cases hf
  exact funcB_ok Tryz.func85 chk32

theorem chk40 : funcB Tryz.prog (fmOf fms env) (isPure tree.get) f40 Tryz.f90 = true := by kernel_rfl
theorem ok40 (f : FuncId) (hf : fmOf fms env 40 = some f) : DefRel Tryz.prog (fmOf fms env) tree.get (.code f40) f := by
  have h : fmOf fms env 40 = some 90 := by kernel_rfl
  rw [h] at hf
  cases hf
  exact funcB_ok Tryz.func90 chk40

theorem chk41 : funcB Tryz.prog (fmOf fms env) (isPure tree.get) f41 Tryz.f91 = true := by kernel_rfl
theorem ok41 (f : FuncId) (hf : fmOf fms env 41 = some f) : DefRel Tryz.prog (fmOf fms env) tree.get (.code f41) f := by
  have h : fmOf fms env 41 = some 91 := by kernel_rfl
  rw [h] at hf
  cases hf
  exact funcB_ok Tryz.func91 chk41

theorem chk42 : funcB Tryz.prog (fmOf fms env) (isPure tree.get) f42 Tryz.f92 = true := by kernel_rfl
theorem ok42 (f : FuncId) (hf : fmOf fms env 42 = some f) : DefRel Tryz.prog (fmOf fms env) tree.get (.code f42) f := by
  have h : fmOf fms env 42 = some 92 := by kernel_rfl
  rw [h] at hf
  cases hf
  exact funcB_ok Tryz.func92 chk42

theorem chk43 : funcB Tryz.prog (fmOf fms env) (isPure tree.get) f43 Tryz.f93 = true := by kernel_rfl
theorem ok43 (f : FuncId) (hf : fmOf fms env 43 = some f) : DefRel Tryz.prog (fmOf fms env) tree.get (.code f43) f := by
  have h : fmOf fms env 43 = some 93 := by kernel_rfl
  rw [h] at hf
  cases hf
  exact funcB_ok Tryz.func93 chk43

theorem chk44 : funcB Tryz.prog (fmOf fms env) (isPure tree.get) f44 Tryz.f94 = true := by kernel_rfl
theorem ok44 (f : FuncId) (hf : fmOf fms env 44 = some f) : DefRel Tryz.prog (fmOf fms env) tree.get (.code f44) f := by
  have h : fmOf fms env 44 = some 94 := by kernel_rfl
  rw [h] at hf
  cases hf
  exact funcB_ok Tryz.func94 chk44

theorem chk51 : funcB Tryz.prog (fmOf fms env) (isPure tree.get) f51 Tryz.f106 = true := by kernel_rfl
theorem ok51 (f : FuncId) (hf : fmOf fms env 51 = some f) : DefRel Tryz.prog (fmOf fms env) tree.get (.code f51) f := by
  have h : fmOf fms env 51 = some 106 := by kernel_rfl
  rw [h] at hf
  cases hf
  exact funcB_ok Tryz.func106 chk51

theorem chk54 : funcB Tryz.prog (fmOf fms env) (isPure tree.get) f54 Tryz.f95 = true := by kernel_rfl
theorem ok54 (f : FuncId) (hf : fmOf fms env 54 = some f) : DefRel Tryz.prog (fmOf fms env) tree.get (.code f54) f := by
  have h : fmOf fms env 54 = some 95 := by kernel_rfl
  rw [h] at hf
  cases hf
  exact funcB_ok Tryz.func95 chk54

theorem chk55 : funcB Tryz.prog (fmOf fms env) (isPure tree.get) f55 Tryz.f96 = true := by kernel_rfl
theorem ok55 (f : FuncId) (hf : fmOf fms env 55 = some f) : DefRel Tryz.prog (fmOf fms env) tree.get (.code f55) f := by
  have h : fmOf fms env 55 = some 96 := by kernel_rfl
  rw [h] at hf
  cases hf
  exact funcB_ok Tryz.func96 chk55

theorem chk56 : funcB Tryz.prog (fmOf fms env) (isPure tree.get) f56 Tryz.f97 = true := by kernel_rfl
theorem ok56 (f : FuncId) (hf : fmOf fms env 56 = some f) : DefRel Tryz.prog (fmOf fms env) tree.get (.code f56) f := by
  have h : fmOf fms env 56 = some 97 := by kernel_rfl
  rw [h] at hf
  cases hf
  exact funcB_ok Tryz.func97 chk56

theorem chk57 : funcB Tryz.prog (fmOf fms env) (isPure tree.get) f57 Tryz.f99 = true := by kernel_rfl
theorem ok57 (f : FuncId) (hf : fmOf fms env 57 = some f) : DefRel Tryz.prog (fmOf fms env) tree.get (.code f57) f := by
  have h : fmOf fms env 57 = some 99 := by kernel_rfl
  rw [h] at hf
  cases hf
  exact funcB_ok Tryz.func99 chk57

theorem chk61 : funcB Tryz.prog (fmOf fms env) (isPure tree.get) f61 Tryz.f107 = true := by kernel_rfl
theorem ok61 (f : FuncId) (hf : fmOf fms env 61 = some f) : DefRel Tryz.prog (fmOf fms env) tree.get (.code f61) f := by
  have h : fmOf fms env 61 = some 107 := by kernel_rfl
  rw [h] at hf
  cases hf
  exact funcB_ok Tryz.func107 chk61

theorem chk62 : funcB Tryz.prog (fmOf fms env) (isPure tree.get) f62 Tryz.f108 = true := by kernel_rfl
theorem ok62 (f : FuncId) (hf : fmOf fms env 62 = some f) : DefRel Tryz.prog (fmOf fms env) tree.get (.code f62) f := by
  have h : fmOf fms env 62 = some 108 := by kernel_rfl
  rw [h] at hf
  cases hf
  exact funcB_ok Tryz.func108 chk62

theorem chk63 : funcB Tryz.prog (fmOf fms env) (isPure tree.get) f63 Tryz.f109 = true := by kernel_rfl
theorem ok63 (f : FuncId) (hf : fmOf fms env 63 = some f) : DefRel Tryz.prog (fmOf fms env) tree.get (.code f63) f := by
  have h : fmOf fms env 63 = some 109 := by kernel_rfl
  rw [h] at hf
  cases hf
  exact funcB_ok Tryz.func109 chk63

theorem chk65 : funcB Tryz.prog (fmOf fms env) (isPure tree.get) f65 Tryz.f111 = true := by kernel_rfl
theorem ok65 (f : FuncId) (hf : fmOf fms env 65 = some f) : DefRel Tryz.prog (fmOf fms env) tree.get (.code f65) f := by
  have h : fmOf fms env 65 = some 111 := by kernel_rfl
  rw [h] at hf
  cases hf
  exact funcB_ok Tryz.func111 chk65

theorem chk68 : funcB Tryz.prog (fmOf fms env) (isPure tree.get) f68 Tryz.f112 = true := by kernel_rfl
theorem ok68 (f : FuncId) (hf : fmOf fms env 68 = some f) : DefRel Tryz.prog (fmOf fms env) tree.get (.code f68) f := by
  have h : fmOf fms env 68 = some 112 := by kernel_rfl
  rw [h] at hf
  cases hf
  exact funcB_ok Tryz.func112 chk68

theorem chk69 : funcB Tryz.prog (fmOf fms env) (isPure tree.get) f69 Tryz.f113 = true := by kernel_rfl
theorem ok69 (f : FuncId) (hf : fmOf fms env 69 = some f) : DefRel Tryz.prog (fmOf fms env) tree.get (.code f69) f := by
  have h : fmOf fms env 69 = some 113 := by kernel_rfl
  rw [h] at hf
  cases hf
  exact funcB_ok Tryz.func113 chk69

theorem chk70 : funcB Tryz.prog (fmOf fms env) (isPure tree.get) f70 Tryz.f114 = true := by kernel_rfl
theorem ok70 (f : FuncId) (hf : fmOf fms env 70 = some f) : DefRel Tryz.prog (fmOf fms env) tree.get (.code f70) f := by
  have h : fmOf fms env 70 = some 114 := by kernel_rfl
  rw [h] at hf
  cases hf
  exact funcB_ok Tryz.func114 chk70

theorem chk73 : funcB Tryz.prog (fmOf fms env) (isPure tree.get) f73 Tryz.f122 = true := by kernel_rfl
theorem ok73 (f : FuncId) (hf : fmOf fms env 73 = some f) : DefRel Tryz.prog (fmOf fms env) tree.get (.code f73) f := by
  have h : fmOf fms env 73 = some 122 := by kernel_rfl
  rw [h] at hf
  cases hf
  exact funcB_ok Tryz.func122 chk73

theorem chk74 : funcB Tryz.prog (fmOf fms env) (isPure tree.get) f74 Tryz.f123 = true := by kernel_rfl
theorem ok74 (f : FuncId) (hf : fmOf fms env 74 = some f) : DefRel Tryz.prog (fmOf fms env) tree.get (.code f74) f := by
  have h : fmOf fms env 74 = some 123 := by kernel_rfl
  rw [h] at hf
  cases hf
  exact funcB_ok Tryz.func123 chk74

theorem chk76 : funcB Tryz.prog (fmOf fms env) (isPure tree.get) f76 Tryz.f128 = true := by kernel_rfl
theorem ok76 (f : FuncId) (hf : fmOf fms env 76 = some f) : DefRel Tryz.prog (fmOf fms env) tree.get (.code f76) f := by
  have h : fmOf fms env 76 = some 128 := by kernel_rfl
  rw [h] at hf
  cases hf
  exact funcB_ok Tryz.func128 chk76

theorem chk77 : funcB Tryz.prog (fmOf fms env) (isPure tree.get) f77 Tryz.f129 = true := by kernel_rfl
theorem ok77 (f : FuncId) (hf : fmOf fms env 77 = some f) : DefRel Tryz.prog (fmOf fms env) tree.get (.code f77) f := by
  have h : fmOf fms env 77 = some 129 := by kernel_rfl
  rw [h] at hf
  cases hf
  exact funcB_ok Tryz.func129 chk77

theorem chk78 : funcB Tryz.prog (fmOf fms env) (isPure tree.get) f78 Tryz.f132 = true := by kernel_rfl
theorem ok78 (f : FuncId) (hf : fmOf fms env 78 = some f) : DefRel Tryz.prog (fmOf fms env) tree.get (.code f78) f := by
  have h : fmOf fms env 78 = some 132 := by kernel_rfl
  rw [h] at hf
  cases hf
  exact funcB_ok Tryz.func132 chk78

theorem chk100 : funcB Tryz.prog (fmOf fms env) (isPure tree.get) f100 Tryz.f44 = true := by kernel_rfl
theorem ok100 (f : FuncId) (hf : fmOf fms env 100 = some f) : DefRel Tryz.prog (fmOf fms env) tree.get (.code f100) f := by
  have h : fmOf fms env 100 = some 44 := by kernel_rfl
  rw [h] at hf
  cases hf
  exact funcB_ok Tryz.func44 chk100

theorem chk101 : funcB Tryz.prog (fmOf fms env) (isPure tree.get) f101 Tryz.f6 = true := by kernel_rfl
theorem ok101 (f : FuncId) (hf : fmOf fms env 101 = some f) : DefRel Tryz.prog (fmOf fms env) tree.get (.code f101) f := by
  have h : fmOf fms env 101 = some 6 := by kernel_rfl
  rw [h] at hf
  cases hf
  exact funcB_ok Tryz.func6 chk101

theorem chk102 : funcB Tryz.prog (fmOf fms env) (isPure tree.get) f102 Tryz.f19 = true := by kernel_rfl
theorem ok102 (f : FuncId) (hf : fmOf fms env 102 = some f) : DefRel Tryz.prog (fmOf fms env) tree.get (.code f102) f := by
  have h : fmOf fms env 102 = some 19 := by kernel_rfl
  rw [h] at hf
  cases hf
  exact funcB_ok Tryz.func19 chk102

theorem chk103 : funcB Tryz.prog (fmOf fms env) (isPure tree.get) f103 Tryz.f14 = true := by kernel_rfl
theorem ok103 (f : FuncId) (hf : fmOf fms env 103 = some f) : DefRel Tryz.prog (fmOf fms env) tree.get (.code f103) f := by
  have h : fmOf fms env 103 = some 14 := by kernel_rfl
  rw [h] at hf
  cases hf
  exact funcB_ok Tryz.func14 chk103

theorem chk105 : funcB Tryz.prog (fmOf fms env) (isPure tree.get) f105 Tryz.f43 = true := by kernel_rfl
theorem ok105 (f : FuncId) (hf : fmOf fms env 105 = some f) : DefRel Tryz.prog (fmOf fms env) tree.get (.code f105) f := by
  have h : fmOf fms env 105 = some 43 := by kernel_rfl
  rw [h] at hf
  cases hf
  exact funcB_ok Tryz.func43 chk105

theorem chk106 : funcB Tryz.prog (fmOf fms env) (isPure tree.get) f106 Tryz.f57 = true := by kernel_rfl
theorem ok106 (f : FuncId) (hf : fmOf fms env 106 = some f) : DefRel Tryz.prog (fmOf fms env) tree.get (.code f106) f := by
  have h : fmOf fms env 106 = some 57 := by kernel_rfl
  rw [h] at hf
  cases hf
  exact funcB_ok Tryz.func57 chk106

theorem chk107 : funcB Tryz.prog (fmOf fms env) (isPure tree.get) f107 Tryz.f42 = true := by kernel_rfl
theorem ok107 (f : FuncId) (hf : fmOf fms env 107 = some f) : DefRel Tryz.prog (fmOf fms env) tree.get (.code f107) f := by
  have h : fmOf fms env 107 = some 42 := by kernel_rfl
  rw [h] at hf
  cases hf
  exact funcB_ok Tryz.func42 chk107

theorem chk108 : funcB Tryz.prog (fmOf fms env) (isPure tree.get) f108 Tryz.f16 = true := by kernel_rfl
theorem ok108 (f : FuncId) (hf : fmOf fms env 108 = some f) : DefRel Tryz.prog (fmOf fms env) tree.get (.code f108) f := by
  have h : fmOf fms env 108 = some 16 := by kernel_rfl
  rw [h] at hf
  cases hf
  exact funcB_ok Tryz.func16 chk108

theorem chk109 : funcB Tryz.prog (fmOf fms env) (isPure tree.get) f109 Tryz.f12 = true := by kernel_rfl
theorem ok109 (f : FuncId) (hf : fmOf fms env 109 = some f) : DefRel Tryz.prog (fmOf fms env) tree.get (.code f109) f := by
  have h : fmOf fms env 109 = some 12 := by kernel_rfl
  rw [h] at hf
  cases hf
  exact funcB_ok Tryz.func12 chk109

theorem chk110 : funcB Tryz.prog (fmOf fms env) (isPure tree.get) f110 Tryz.f8 = true := by kernel_rfl
theorem ok110 (f : FuncId) (hf : fmOf fms env 110 = some f) : DefRel Tryz.prog (fmOf fms env) tree.get (.code f110) f := by
  have h : fmOf fms env 110 = some 8 := by kernel_rfl
  rw [h] at hf
  cases hf
  exact funcB_ok Tryz.func8 chk110

theorem chk111 : funcB Tryz.prog (fmOf fms env) (isPure tree.get) f111 Tryz.f53 = true := by kernel_rfl
theorem ok111 (f : FuncId) (hf : fmOf fms env 111 = some f) : DefRel Tryz.prog (fmOf fms env) tree.get (.code f111) f := by
  have h : fmOf fms env 111 = some 53 := by kernel_rfl
  rw [h] at hf
  cases hf
  exact funcB_ok Tryz.func53 chk111

theorem chk112 : funcB Tryz.prog (fmOf fms env) (isPure tree.get) f112 Tryz.f29 = true := by kernel_rfl
theorem ok112 (f : FuncId) (hf : fmOf fms env 112 = some f) : DefRel Tryz.prog (fmOf fms env) tree.get (.code f112) f := by
  have h : fmOf fms env 112 = some 29 := by kernel_rfl
  rw [h] at hf
  cases hf
  exact funcB_ok Tryz.func29 chk112

theorem chk113 : funcB Tryz.prog (fmOf fms env) (isPure tree.get) f113 Tryz.f21 = true := by kernel_rfl
theorem ok113 (f : FuncId) (hf : fmOf fms env 113 = some f) : DefRel Tryz.prog (fmOf fms env) tree.get (.code f113) f := by
  have h : fmOf fms env 113 = some 21 := by kernel_rfl
  rw [h] at hf
  cases hf
  exact funcB_ok Tryz.func21 chk113

theorem chk114 : funcB Tryz.prog (fmOf fms env) (isPure tree.get) f114 Tryz.f26 = true := by kernel_rfl
theorem ok114 (f : FuncId) (hf : fmOf fms env 114 = some f) : DefRel Tryz.prog (fmOf fms env) tree.get (.code f114) f := by
  have h : fmOf fms env 114 = some 26 := by kernel_rfl
  rw [h] at hf
  cases hf
  exact funcB_ok Tryz.func26 chk114

theorem chk116 : funcB Tryz.prog (fmOf fms env) (isPure tree.get) f116 Tryz.f39 = true := by kernel_rfl
theorem ok116 (f : FuncId) (hf : fmOf fms env 116 = some f) : DefRel Tryz.prog (fmOf fms env) tree.get (.code f116) f := by
  have h : fmOf fms env 116 = some 39 := by kernel_rfl
  rw [h] at hf
  cases hf
  exact funcB_ok Tryz.func39 chk116

theorem chk117 : funcB Tryz.prog (fmOf fms env) (isPure tree.get) f117 Tryz.f64 = true := by kernel_rfl
theorem ok117 (f : FuncId) (hf : fmOf fms env 117 = some f) : DefRel Tryz.prog (fmOf fms env) tree.get (.code f117) f := by
  have h : fmOf fms env 117 = some 64 := by kernel_rfl
  rw [h] at hf
  cases hf
  exact funcB_ok Tryz.func64 chk117

theorem chk118 : funcB Tryz.prog (fmOf fms env) (isPure tree.get) f118 Tryz.f65 = true := by kernel_rfl
theorem ok118 (f : FuncId) (hf : fmOf fms env 118 = some f) : DefRel Tryz.prog (fmOf fms env) tree.get (.code f118) f := by
  have h : fmOf fms env 118 = some 65 := by kernel_rfl
  rw [h] at hf
  cases hf
  exact funcB_ok Tryz.func65 chk118

theorem chk119 : funcB Tryz.prog (fmOf fms env) (isPure tree.get) f119 Tryz.f41 = true := by kernel_rfl
theorem ok119 (f : FuncId) (hf : fmOf fms env 119 = some f) : DefRel Tryz.prog (fmOf fms env) tree.get (.code f119) f := by
  have h : fmOf fms env 119 = some 41 := by kernel_rfl
  rw [h] at hf
  cases hf
  exact funcB_ok Tryz.func41 chk119

theorem chk120 : funcB Tryz.prog (fmOf fms env) (isPure tree.get) f120 Tryz.f38 = true := by kernel_rfl
theorem ok120 (f : FuncId) (hf : fmOf fms env 120 = some f) : DefRel Tryz.prog (fmOf fms env) tree.get (.code f120) f := by
  have h : fmOf fms env 120 = some 38 := by kernel_rfl
  rw [h] at hf
  cases hf
  exact funcB_ok Tryz.func38 chk120

theorem chk121 : funcB Tryz.prog (fmOf fms env) (isPure tree.get) f121 Tryz.f31 = true := by kernel_rfl
theorem ok121 (f : FuncId) (hf : fmOf fms env 121 = some f) : DefRel Tryz.prog (fmOf fms env) tree.get (.code f121) f := by
  have h : fmOf fms env 121 = some 31 := by kernel_rfl
  rw [h] at hf
  cases hf
  exact funcB_ok Tryz.func31 chk121

theorem chk122 : funcB Tryz.prog (fmOf fms env) (isPure tree.get) f122 Tryz.f32 = true := by kernel_rfl
theorem ok122 (f : FuncId) (hf : fmOf fms env 122 = some f) : DefRel Tryz.prog (fmOf fms env) tree.get (.code f122) f := by
  have h : fmOf fms env 122 = some 32 := by kernel_rfl
  rw [h] at hf
  cases hf
  exact funcB_ok Tryz.func32 chk122

theorem chk123 : funcB Tryz.prog (fmOf fms env) (isPure tree.get) f123 Tryz.f33 = true := by kernel_rfl
theorem ok123 (f : FuncId) (hf : fmOf fms env 123 = some f) : DefRel Tryz.prog (fmOf fms env) tree.get (.code f123) f := by
  have h : fmOf fms env 123 = some 33 := by kernel_rfl
  rw [h] at hf
  cases hf
  exact funcB_ok Tryz.func33 chk123

theorem chk124 : funcB Tryz.prog (fmOf fms env) (isPure tree.get) f124 Tryz.f34 = true := by kernel_rfl
theorem ok124 (f : FuncId) (hf : fmOf fms env 124 = some f) : DefRel Tryz.prog (fmOf fms env) tree.get (.code f124) f := by
  have h : fmOf fms env 124 = some 34 := by kernel_rfl
  rw [h] at hf
  cases hf
  exact funcB_ok Tryz.func34 chk124

theorem chk125 : funcB Tryz.prog (fmOf fms env) (isPure tree.get) f125 Tryz.f23 = true := by kernel_rfl
theorem ok125 (f : FuncId) (hf : fmOf fms env 125 = some f) : DefRel Tryz.prog (fmOf fms env) tree.get (.code f125) f := by
  have h : fmOf fms env 125 = some 23 := by kernel_rfl
  rw [h] at hf
  cases hf
  exact funcB_ok Tryz.func23 chk125

theorem chk126 : funcB Tryz.prog (fmOf fms env) (isPure tree.get) f126 Tryz.f24 = true := by kernel_rfl
theorem ok126 (f : FuncId) (hf : fmOf fms env 126 = some f) : DefRel Tryz.prog (fmOf fms env) tree.get (.code f126) f := by
  have h : fmOf fms env 126 = some 24 := by kernel_rfl
  rw [h] at hf
  cases hf
  exact funcB_ok Tryz.func24 chk126

theorem chk127 : funcB Tryz.prog (fmOf fms env) (isPure tree.get) f127 Tryz.f45 = true := by kernel_rfl
theorem ok127 (f : FuncId) (hf : fmOf fms env 127 = some f) : DefRel Tryz.prog (fmOf fms env) tree.get (.code f127) f := by
  have h : fmOf fms env 127 = some 45 := by kernel_rfl
  rw [h] at hf
  cases hf
  exact funcB_ok Tryz.func45 chk127

theorem chk128 : funcB Tryz.prog (fmOf fms env) (isPure tree.get) f128 Tryz.f46 = true := by kernel_rfl
theorem ok128 (f : FuncId) (hf : fmOf fms env 128 = some f) : DefRel Tryz.prog (fmOf fms env) tree.get (.code f128) f := by
  have h : fmOf fms env 128 = some 46 := by kernel_rfl
  rw [h] at hf
  cases hf
  exact funcB_ok Tryz.func46 chk128

theorem chk129 : funcB Tryz.prog (fmOf fms env) (isPure tree.get) f129 Tryz.f47 = true := by kernel_rfl
theorem ok129 (f : FuncId) (hf : fmOf fms env 129 = some f) : DefRel Tryz.prog (fmOf fms env) tree.get (.code f129) f := by
  have h : fmOf fms env 129 = some 47 := by kernel_rfl
  rw [h] at hf
  cases hf
  exact funcB_ok Tryz.func47 chk129

theorem chk130 : funcB Tryz.prog (fmOf fms env) (isPure tree.get) f130 Tryz.f48 = true := by kernel_rfl
theorem ok130 (f : FuncId) (hf : fmOf fms env 130 = some f) : DefRel Tryz.prog (fmOf fms env) tree.get (.code f130) f := by
  have h : fmOf fms env 130 = some 48 := by kernel_rfl
  rw [h] at hf
  cases hf
  exact funcB_ok Tryz.func48 chk130

theorem chk131 : funcB Tryz.prog (fmOf fms env) (isPure tree.get) f131 Tryz.f71 = true := by kernel_rfl
theorem ok131 (f : FuncId) (hf : fmOf fms env 131 = some f) : DefRel Tryz.prog (fmOf fms env) tree.get (.code f131) f := by
  have h : fmOf fms env 131 = some 71 := by kernel_rfl
  rw [h] at hf
  cases hf
  exact funcB_ok Tryz.func71 chk131

theorem chk132 : funcB Tryz.prog (fmOf fms env) (isPure tree.get) f132 Tryz.f72 = true := by kernel_rfl
theorem ok132 (f : FuncId) (hf : fmOf fms env 132 = some f) : DefRel Tryz.prog (fmOf fms env) tree.get (.code f132) f := by
  have h : fmOf fms env 132 = some 72 := by kernel_rfl
  rw [h] at hf
  cases hf
  exact funcB_ok Tryz.func72 chk132

theorem chk133 : funcB Tryz.prog (fmOf fms env) (isPure tree.get) f133 Tryz.f73 = true := by kernel_rfl
theorem ok133 (f : FuncId) (hf : fmOf fms env 133 = some f) : DefRel Tryz.prog (fmOf fms env) tree.get (.code f133) f := by
  have h : fmOf fms env 133 = some 73 := by kernel_rfl
  rw [h] at hf
  cases hf
  exact funcB_ok Tryz.func73 chk133

theorem chk134 : funcB Tryz.prog (fmOf fms env) (isPure tree.get) f134 Tryz.f74 = true := by kernel_rfl
theorem ok134 (f : FuncId) (hf : fmOf fms env 134 = some f) : DefRel Tryz.prog (fmOf fms env) tree.get (.code f134) f := by
  have h : fmOf fms env 134 = some 74 := by kernel_rfl
  rw [h] at hf
  cases hf
  exact funcB_ok Tryz.func74 chk134

theorem chk135 : funcB Tryz.prog (fmOf fms env) (isPure tree.get) f135 Tryz.f75 = true := by kernel_rfl
theorem ok135 (f : FuncId) (hf : fmOf fms env 135 = some f) : DefRel Tryz.prog (fmOf fms env) tree.get (.code f135) f := by
  have h : fmOf fms env 135 = some 75 := by kernel_rfl
  rw [h] at hf
  cases hf
  exact funcB_ok Tryz.func75 chk135

theorem chk136 : funcB Tryz.prog (fmOf fms env) (isPure tree.get) f136 Tryz.f76 = true := by kernel_rfl
theorem ok136 (f : FuncId) (hf : fmOf fms env 136 = some f) : DefRel Tryz.prog (fmOf fms env) tree.get (.code f136) f := by
  have h : fmOf fms env 136 = some 76 := by kernel_rfl
  rw [h] at hf
  cases hf
  exact funcB_ok Tryz.func76 chk136

theorem chk137 : funcB Tryz.prog (fmOf fms env) (isPure tree.get) f137 Tryz.f77 = true := by kernel_rfl
theorem ok137 (f : FuncId) (hf : fmOf fms env 137 = some f) : DefRel Tryz.prog (fmOf fms env) tree.get (.code f137) f := by
  have h : fmOf fms env 137 = some 77 := by kernel_rfl
  rw [h] at hf
  cases hf
  exact funcB_ok Tryz.func77 chk137

theorem chk138 : funcB Tryz.prog (fmOf fms env) (isPure tree.get) f138 Tryz.f78 = true := by kernel_rfl
theorem ok138 (f : FuncId) (hf : fmOf fms env 138 = some f) : DefRel Tryz.prog (fmOf fms env) tree.get (.code f138) f := by
  have h : fmOf fms env 138 = some 78 := by kernel_rfl
  rw [h] at hf
  cases hf
  exact funcB_ok Tryz.func78 chk138

theorem chk139 : funcB Tryz.prog (fmOf fms env) (isPure tree.get) f139 Tryz.f54 = true := by kernel_rfl
theorem ok139 (f : FuncId) (hf : fmOf fms env 139 = some f) : DefRel Tryz.prog (fmOf fms env) tree.get (.code f139) f := by
  have h : fmOf fms env 139 = some 54 := by kernel_rfl
  rw [h] at hf
  cases hf
  exact funcB_ok Tryz.func54 chk139

theorem chk140 : funcB Tryz.prog (fmOf fms env) (isPure tree.get) f140 Tryz.f50 = true := by kernel_rfl
theorem ok140 (f : FuncId) (hf : fmOf fms env 140 = some f) : DefRel Tryz.prog (fmOf fms env) tree.get (.code f140) f := by
  have h : fmOf fms env 140 = some 50 := by kernel_rfl
  rw [h] at hf
  cases hf
  exact funcB_ok Tryz.func50 chk140

theorem chk141 : funcB Tryz.prog (fmOf fms env) (isPure tree.get) f141 Tryz.f59 = true := by kernel_rfl
theorem ok141 (f : FuncId) (hf : fmOf fms env 141 = some f) : DefRel Tryz.prog (fmOf fms env) tree.get (.code f141) f := by
  have h : fmOf fms env 141 = some 59 := by kernel_rfl
  rw [h] at hf
  cases hf
  exact funcB_ok Tryz.func59 chk141

theorem chk142 : funcB Tryz.prog (fmOf fms env) (isPure tree.get) f142 Tryz.f60 = true := by kernel_rfl
theorem ok142 (f : FuncId) (hf : fmOf fms env 142 = some f) : DefRel Tryz.prog (fmOf fms env) tree.get (.code f142) f := by
  have h : fmOf fms env 142 = some 60 := by kernel_rfl
  rw [h] at hf
  cases hf
  exact funcB_ok Tryz.func60 chk142

theorem chk143 : funcB Tryz.prog (fmOf fms env) (isPure tree.get) f143 Tryz.f86 = true := by kernel_rfl
theorem ok143 (f : FuncId) (hf : fmOf fms env 143 = some f) : DefRel Tryz.prog (fmOf fms env) tree.get (.code f143) f := by
  have h : fmOf fms env 143 = some 86 := by kernel_rfl
  rw [h] at hf
  cases hf
  exact funcB_ok Tryz.func86 chk143

theorem chk144 : funcB Tryz.prog (fmOf fms env) (isPure tree.get) f144 Tryz.f87 = true := by kernel_rfl
theorem ok144 (f : FuncId) (hf : fmOf fms env 144 = some f) : DefRel Tryz.prog (fmOf fms env) tree.get (.code f144) f := by
  have h : fmOf fms env 144 = some 87 := by kernel_rfl
  rw [h] at hf
  cases hf
  exact funcB_ok Tryz.func87 chk144

theorem chk145 : funcB Tryz.prog (fmOf fms env) (isPure tree.get) f145 Tryz.f62 = true := by kernel_rfl
theorem ok145 (f : FuncId) (hf : fmOf fms env 145 = some f) : DefRel Tryz.prog (fmOf fms env) tree.get (.code f145) f := by
  have h : fmOf fms env 145 = some 62 := by kernel_rfl
  rw [h] at hf
  cases hf
  exact funcB_ok Tryz.func62 chk145

theorem chk146 : funcB Tryz.prog (fmOf fms env) (isPure tree.get) f146 Tryz.f63 = true := by kernel_rfl
theorem ok146 (f : FuncId) (hf : fmOf fms env 146 = some f) : DefRel Tryz.prog (fmOf fms env) tree.get (.code f146) f := by
  have h : fmOf fms env 146 = some 63 := by kernel_rfl
  rw [h] at hf
  cases hf
  exact funcB_ok Tryz.func63 chk146

theorem chk147 : funcB Tryz.prog (fmOf fms env) (isPure tree.get) f147 Tryz.f100 = true := by kernel_rfl
theorem ok147 (f : FuncId) (hf : fmOf fms env 147 = some f) : DefRel Tryz.prog (fmOf fms env) tree.get (.code f147) f := by
  have h : fmOf fms env 147 = some 100 := by kernel_rfl
  rw [h] at hf
  cases hf
  exact funcB_ok Tryz.func100 chk147

theorem chk148 : funcB Tryz.prog (fmOf fms env) (isPure tree.get) f148 Tryz.f101 = true := by kernel_rfl
theorem ok148 (f : FuncId) (hf : fmOf fms env 148 = some f) : DefRel Tryz.prog (fmOf fms env) tree.get (.code f148) f := by
  have h : fmOf fms env 148 = some 101 := by kernel_rfl
  rw [h] at hf
  cases hf
  exact funcB_ok Tryz.func101 chk148

theorem chk149 : funcB Tryz.prog (fmOf fms env) (isPure tree.get) f149 Tryz.f102 = true := by kernel_rfl
theorem ok149 (f : FuncId) (hf : fmOf fms env 149 = some f) : DefRel Tryz.prog (fmOf fms env) tree.get (.code f149) f := by
  have h : fmOf fms env 149 = some 102 := by kernel_rfl
  rw [h] at hf
  cases hf
  exact funcB_ok Tryz.func102 chk149

theorem chk150 : funcB Tryz.prog (fmOf fms env) (isPure tree.get) f150 Tryz.f103 = true := by kernel_rfl
theorem ok150 (f : FuncId) (hf : fmOf fms env 150 = some f) : DefRel Tryz.prog (fmOf fms env) tree.get (.code f150) f := by
  have h : fmOf fms env 150 = some 103 := by kernel_rfl
  rw [h] at hf
  cases hf
  exact funcB_ok Tryz.func103 chk150

theorem chk151 : funcB Tryz.prog (fmOf fms env) (isPure tree.get) f151 Tryz.f104 = true := by kernel_rfl
theorem ok151 (f : FuncId) (hf : fmOf fms env 151 = some f) : DefRel Tryz.prog (fmOf fms env) tree.get (.code f151) f := by
  have h : fmOf fms env 151 = some 104 := by kernel_rfl
  rw [h] at hf
  cases hf
  exact funcB_ok Tryz.func104 chk151

theorem chk152 : funcB Tryz.prog (fmOf fms env) (isPure tree.get) f152 Tryz.f105 = true := by kernel_rfl
theorem ok152 (f : FuncId) (hf : fmOf fms env 152 = some f) : DefRel Tryz.prog (fmOf fms env) tree.get (.code f152) f := by
  have h : fmOf fms env 152 = some 105 := by kernel_rfl
  rw [h] at hf
  cases hf
  exact funcB_ok Tryz.func105 chk152

theorem chk153 : funcB Tryz.prog (fmOf fms env) (isPure tree.get) f153 Tryz.f67 = true := by kernel_rfl
theorem ok153 (f : FuncId) (hf : fmOf fms env 153 = some f) : DefRel Tryz.prog (fmOf fms env) tree.get (.code f153) f := by
  have h : fmOf fms env 153 = some 67 := by kernel_rfl
  rw [h] at hf
  cases hf
  exact funcB_ok Tryz.func67 chk153

theorem chk154 : funcB Tryz.prog (fmOf fms env) (isPure tree.get) f154 Tryz.f68 = true := by kernel_rfl
theorem ok154 (f : FuncId) (hf : fmOf fms env 154 = some f) : DefRel Tryz.prog (fmOf fms env) tree.get (.code f154) f := by
  have h : fmOf fms env 154 = some 68 := by kernel_rfl
  rw [h] at hf
  cases hf
  exact funcB_ok Tryz.func68 chk154

theorem chk155 : funcB Tryz.prog (fmOf fms env) (isPure tree.get) f155 Tryz.f69 = true := by kernel_rfl
theorem ok155 (f : FuncId) (hf : fmOf fms env 155 = some f) : DefRel Tryz.prog (fmOf fms env) tree.get (.code f155) f := by
  have h : fmOf fms env 155 = some 69 := by kernel_rfl
  rw [h] at hf
  cases hf
  exact funcB_ok Tryz.func69 chk155

theorem chk156 : funcB Tryz.prog (fmOf fms env) (isPure tree.get) f156 Tryz.f115 = true := by kernel_rfl
theorem ok156 (f : FuncId) (hf : fmOf fms env 156 = some f) : DefRel Tryz.prog (fmOf fms env) tree.get (.code f156) f := by
  have h : fmOf fms env 156 = some 115 := by kernel_rfl
  rw [h] at hf
  cases hf
  exact funcB_ok Tryz.func115 chk156

theorem chk157 : funcB Tryz.prog (fmOf fms env) (isPure tree.get) f157 Tryz.f116 = true := by kernel_rfl
theorem ok157 (f : FuncId) (hf : fmOf fms env 157 = some f) : DefRel Tryz.prog (fmOf fms env) tree.get (.code f157) f := by
  have h : fmOf fms env 157 = some 116 := by kernel_rfl
  rw [h] at hf
  cases hf
  exact funcB_ok Tryz.func116 chk157

theorem chk158 : funcB Tryz.prog (fmOf fms env) (isPure tree.get) f158 Tryz.f117 = true := by kernel_rfl
theorem ok158 (f : FuncId) (hf : fmOf fms env 158 = some f) : DefRel Tryz.prog (fmOf fms env) tree.get (.code f158) f := by
  have h : fmOf fms env 158 = some 117 := by kernel_rfl
  rw [h] at hf
  cases hf
  exact funcB_ok Tryz.func117 chk158

theorem chk159 : funcB Tryz.prog (fmOf fms env) (isPure tree.get) f159 Tryz.f118 = true := by kernel_rfl
theorem ok159 (f : FuncId) (hf : fmOf fms env 159 = some f) : DefRel Tryz.prog (fmOf fms env) tree.get (.code f159) f := by
  have h : fmOf fms env 159 = some 118 := by kernel_rfl
  rw [h] at hf
  cases hf
  exact funcB_ok Tryz.func118 chk159

theorem chk160 : funcB Tryz.prog (fmOf fms env) (isPure tree.get) f160 Tryz.f119 = true := by kernel_rfl
theorem ok160 (f : FuncId) (hf : fmOf fms env 160 = some f) : DefRel Tryz.prog (fmOf fms env) tree.get (.code f160) f := by
  have h : fmOf fms env 160 = some 119 := by kernel_rfl
  rw [h] at hf
  cases hf
  exact funcB_ok Tryz.func119 chk160

theorem chk161 : funcB Tryz.prog (fmOf fms env) (isPure tree.get) f161 Tryz.f120 = true := by kernel_rfl
theorem ok161 (f : FuncId) (hf : fmOf fms env 161 = some f) : DefRel Tryz.prog (fmOf fms env) tree.get (.code f161) f := by
  have h : fmOf fms env 161 = some 120 := by kernel_rfl
  rw [h] at hf
  cases hf
  exact funcB_ok Tryz.func120 chk161

theorem chk162 : funcB Tryz.prog (fmOf fms env) (isPure tree.get) f162 Tryz.f79 = true := by kernel_rfl
theorem ok162 (f : FuncId) (hf : fmOf fms env 162 = some f) : DefRel Tryz.prog (fmOf fms env) tree.get (.code f162) f := by
  have h : fmOf fms env 162 = some 79 := by kernel_rfl
  rw [h] at hf
  cases hf
  exact funcB_ok Tryz.func79 chk162

theorem chk163 : funcB Tryz.prog (fmOf fms env) (isPure tree.get) f163 Tryz.f124 = true := by kernel_rfl
theorem ok163 (f : FuncId) (hf : fmOf fms env 163 = some f) : DefRel Tryz.prog (fmOf fms env) tree.get (.code f163) f := by
  have h : fmOf fms env 163 = some 124 := by kernel_rfl
  rw [h] at hf
  cases hf
  exact funcB_ok Tryz.func124 chk163

theorem chk164 : funcB Tryz.prog (fmOf fms env) (isPure tree.get) f164 Tryz.f125 = true := by kernel_rfl
theorem ok164 (f : FuncId) (hf : fmOf fms env 164 = some f) : DefRel Tryz.prog (fmOf fms env) tree.get (.code f164) f := by
  have h : fmOf fms env 164 = some 125 := by kernel_rfl
  rw [h] at hf
  cases hf
  exact funcB_ok Tryz.func125 chk164

theorem chk165 : funcB Tryz.prog (fmOf fms env) (isPure tree.get) f165 Tryz.f126 = true := by kernel_rfl
theorem ok165 (f : FuncId) (hf : fmOf fms env 165 = some f) : DefRel Tryz.prog (fmOf fms env) tree.get (.code f165) f := by
  have h : fmOf fms env 165 = some 126 := by kernel_rfl
  rw [h] at hf
  cases hf
  exact funcB_ok Tryz.func126 chk165

theorem chk166 : funcB Tryz.prog (fmOf fms env) (isPure tree.get) f166 Tryz.f130 = true := by kernel_rfl
theorem ok166 (f : FuncId) (hf : fmOf fms env 166 = some f) : DefRel Tryz.prog (fmOf fms env) tree.get (.code f166) f := by
  have h : fmOf fms env 166 = some 130 := by kernel_rfl
  rw [h] at hf
  cases hf
  exact funcB_ok Tryz.func130 chk166

theorem chk167 : funcB Tryz.prog (fmOf fms env) (isPure tree.get) f167 Tryz.f131 = true := by kernel_rfl
theorem ok167 (f : FuncId) (hf : fmOf fms env 167 = some f) : DefRel Tryz.prog (fmOf fms env) tree.get (.code f167) f := by
  have h : fmOf fms env 167 = some 131 := by kernel_rfl
  rw [h] at hf
  cases hf
  exact funcB_ok Tryz.func131 chk167

theorem chk241 : funcB Tryz.prog (fmOf fms env) (isPure tree.get) f241 Tryz.f56 = true := by kernel_rfl
theorem ok241 (f : FuncId) (hf : fmOf fms env 241 = some f) : DefRel Tryz.prog (fmOf fms env) tree.get (.code f241) f := by
  have h : fmOf fms env 241 = some 56 := by kernel_rfl
  rw [h] at hf
  cases hf
  exact funcB_ok Tryz.func56 chk241

theorem chk310 : funcB Tryz.prog (fmOf fms env) (isPure tree.get) f310 Tryz.f20 = true := by kernel_rfl
theorem ok310 (f : FuncId) (hf : fmOf fms env 310 = some f) : DefRel Tryz.prog (fmOf fms env) tree.get (.code f310) f := by
  have h : fmOf fms env 310 = some 20 := by kernel_rfl
  rw [h] at hf
  cases hf
  exact funcB_ok Tryz.func20 chk310

theorem chk316 : funcB Tryz.prog (fmOf fms env) (isPure tree.get) f316 Tryz.f52 = true := by kernel_rfl
theorem ok316 (f : FuncId) (hf : fmOf fms env 316 = some f) : DefRel Tryz.prog (fmOf fms env) tree.get (.code f316) f := by
  have h : fmOf fms env 316 = some 52 := by kernel_rfl
  rw [h] at hf
  cases hf
  exact funcB_ok Tryz.func52 chk316

theorem chk318 : funcB Tryz.prog (fmOf fms env) (isPure tree.get) f318 Tryz.f28 = true := by kernel_rfl
theorem ok318 (f : FuncId) (hf : fmOf fms env 318 = some f) : DefRel Tryz.prog (fmOf fms env) tree.get (.code f318) f := by
  have h : fmOf fms env 318 = some 28 := by kernel_rfl
  rw [h] at hf
  cases hf
  exact funcB_ok Tryz.func28 chk318

theorem chk322 : funcB Tryz.prog (fmOf fms env) (isPure tree.get) f322 Tryz.f10 = true := by kernel_rfl
theorem ok322 (f : FuncId) (hf : fmOf fms env 322 = some f) : DefRel Tryz.prog (fmOf fms env) tree.get (.code f322) f := by
  have h : fmOf fms env 322 = some 10 := by kernel_rfl
  rw [h] at hf
  cases hf
  exact funcB_ok Tryz.func10 chk322

theorem chk325 : funcB Tryz.prog (fmOf fms env) (isPure tree.get) f325 Tryz.f17 = true := by kernel_rfl
theorem ok325 (f : FuncId) (hf : fmOf fms env 325 = some f) : DefRel Tryz.prog (fmOf fms env) tree.get (.code f325) f := by
  have h : fmOf fms env 325 = some 17 := by kernel_rfl
  rw [h] at hf
  cases hf
  exact funcB_ok Tryz.func17 chk325

theorem chk327 : funcB Tryz.prog (fmOf fms env) (isPure tree.get) f327 Tryz.f49 = true := by kernel_rfl
theorem ok327 (f : FuncId) (hf : fmOf fms env 327 = some f) : DefRel Tryz.prog (fmOf fms env) tree.get (.code f327) f := by
  have h : fmOf fms env 327 = some 49 := by kernel_rfl
  rw [h] at hf
  cases hf
  exact funcB_ok Tryz.func49 chk327

theorem chk328 : funcB Tryz.prog (fmOf fms env) (isPure tree.get) f328 Tryz.f27 = true := by kernel_rfl
theorem ok328 (f : FuncId) (hf : fmOf fms env 328 = some f) : DefRel Tryz.prog (fmOf fms env) tree.get (.code f328) f := by
  have h : fmOf fms env 328 = some 27 := by kernel_rfl
  rw [h] at hf
  cases hf
  exact funcB_ok Tryz.func27 chk328

theorem chk329 : funcB Tryz.prog (fmOf fms env) (isPure tree.get) f329 Tryz.f37 = true := by kernel_rfl
theorem ok329 (f : FuncId) (hf : fmOf fms env 329 = some f) : DefRel Tryz.prog (fmOf fms env) tree.get (.code f329) f := by
  have h : fmOf fms env 329 = some 37 := by kernel_rfl
  rw [h] at hf
  cases hf
  exact funcB_ok Tryz.func37 chk329

theorem chk333 : funcB Tryz.prog (fmOf fms env) (isPure tree.get) f333 Tryz.f25 = true := by kernel_rfl
theorem ok333 (f : FuncId) (hf : fmOf fms env 333 = some f) : DefRel Tryz.prog (fmOf fms env) tree.get (.code f333) f := by
  have h : fmOf fms env 333 = some 25 := by kernel_rfl
  rw [h] at hf
  cases hf
  exact funcB_ok Tryz.func25 chk333

theorem chk339 : funcB Tryz.prog (fmOf fms env) (isPure tree.get) f339 Tryz.f66 = true := by kernel_rfl
theorem ok339 (f : FuncId) (hf : fmOf fms env 339 = some f) : DefRel Tryz.prog (fmOf fms env) tree.get (.code f339) f := by
  have h : fmOf fms env 339 = some 66 := by kernel_rfl
  rw [h] at hf
  cases hf
  exact funcB_ok Tryz.func66 chk339

theorem chk340 : funcB Tryz.prog (fmOf fms env) (isPure tree.get) f340 Tryz.f30 = true := by kernel_rfl
theorem ok340 (f : FuncId) (hf : fmOf fms env 340 = some f) : DefRel Tryz.prog (fmOf fms env) tree.get (.code f340) f := by
  have h : fmOf fms env 340 = some 30 := by kernel_rfl
  rw [h] at hf
  cases hf
  exact funcB_ok Tryz.func30 chk340

theorem chk341 : funcB Tryz.prog (fmOf fms env) (isPure tree.get) f341 Tryz.f61 = true := by kernel_rfl
theorem ok341 (f : FuncId) (hf : fmOf fms env 341 = some f) : DefRel Tryz.prog (fmOf fms env) tree.get (.code f341) f := by
  have h : fmOf fms env 341 = some 61 := by kernel_rfl
  rw [h] at hf
  cases hf
  exact funcB_ok Tryz.func61 chk341

theorem chk342 : funcB Tryz.prog (fmOf fms env) (isPure tree.get) f342 Tryz.f55 = true := by kernel_rfl
theorem ok342 (f : FuncId) (hf : fmOf fms env 342 = some f) : DefRel Tryz.prog (fmOf fms env) tree.get (.code f342) f := by
  have h : fmOf fms env 342 = some 55 := by kernel_rfl
  rw [h] at hf
  cases hf
  exact funcB_ok Tryz.func55 chk342

theorem chk347 : funcB Tryz.prog (fmOf fms env) (isPure tree.get) f347 Tryz.f51 = true := by kernel_rfl
theorem ok347 (f : FuncId) (hf : fmOf fms env 347 = some f) : DefRel Tryz.prog (fmOf fms env) tree.get (.code f347) f := by
  have h : fmOf fms env 347 = some 51 := by kernel_rfl
  rw [h] at hf
  cases hf
  exact funcB_ok Tryz.func51 chk347

theorem chk349 : funcB Tryz.prog (fmOf fms env) (isPure tree.get) f349 Tryz.f13 = true := by kernel_rfl
theorem ok349 (f : FuncId) (hf : fmOf fms env 349 = some f) : DefRel Tryz.prog (fmOf fms env) tree.get (.code f349) f := by
  have h : fmOf fms env 349 = some 13 := by kernel_rfl
  rw [h] at hf
  cases hf
  exact funcB_ok Tryz.func13 chk349

theorem chk352 : funcB Tryz.prog (fmOf fms env) (isPure tree.get) f352 Tryz.f36 = true := by kernel_rfl
theorem ok352 (f : FuncId) (hf : fmOf fms env 352 = some f) : DefRel Tryz.prog (fmOf fms env) tree.get (.code f352) f := by
  have h : fmOf fms env 352 = some 36 := by kernel_rfl
  rw [h] at hf
  cases hf
  exact funcB_ok Tryz.func36 chk352

theorem chk353 : funcB Tryz.prog (fmOf fms env) (isPure tree.get) f353 Tryz.f40 = true := by kernel_rfl
theorem ok353 (f : FuncId) (hf : fmOf fms env 353 = some f) : DefRel Tryz.prog (fmOf fms env) tree.get (.code f353) f := by
  have h : fmOf fms env 353 = some 40 := by kernel_rfl
  rw [h] at hf
  cases hf
  exact funcB_ok Tryz.func40 chk353

theorem chk354 : funcB Tryz.prog (fmOf fms env) (isPure tree.get) f354 Tryz.f35 = true := by kernel_rfl
theorem ok354 (f : FuncId) (hf : fmOf fms env 354 = some f) : DefRel Tryz.prog (fmOf fms env) tree.get (.code f354) f := by
  have h : fmOf fms env 354 = some 35 := by kernel_rfl
  rw [h] at hf
  cases hf
  exact funcB_ok Tryz.func35 chk354

theorem chk626 : funcB Tryz.prog (fmOf fms env) (isPure tree.get) f626 Tryz.f3 = true := by kernel_rfl
theorem ok626 (f : FuncId) (hf : fmOf fms env 626 = some f) : DefRel Tryz.prog (fmOf fms env) tree.get (.code f626) f := by
  have h : fmOf fms env 626 = some 3 := by kernel_rfl
  rw [h] at hf
  cases hf
  exact funcB_ok Tryz.func3 chk626

theorem chk627 : funcB Tryz.prog (fmOf fms env) (isPure tree.get) f627 Tryz.f4 = true := by kernel_rfl
theorem ok627 (f : FuncId) (hf : fmOf fms env 627 = some f) : DefRel Tryz.prog (fmOf fms env) tree.get (.code f627) f := by
  have h : fmOf fms env 627 = some 4 := by kernel_rfl
  rw [h] at hf
  cases hf
  exact funcB_ok Tryz.func4 chk627

theorem chk628 : funcB Tryz.prog (fmOf fms env) (isPure tree.get) f628 Tryz.f5 = true := by kernel_rfl
theorem ok628 (f : FuncId) (hf : fmOf fms env 628 = some f) : DefRel Tryz.prog (fmOf fms env) tree.get (.code f628) f := by
  have h : fmOf fms env 628 = some 5 := by kernel_rfl
  rw [h] at hf
  cases hf
  exact funcB_ok Tryz.func5 chk628

theorem chk629 : funcB Tryz.prog (fmOf fms env) (isPure tree.get) f629 Tryz.f7 = true := by kernel_rfl
theorem ok629 (f : FuncId) (hf : fmOf fms env 629 = some f) : DefRel Tryz.prog (fmOf fms env) tree.get (.code f629) f := by
  have h : fmOf fms env 629 = some 7 := by kernel_rfl
  rw [h] at hf
  cases hf
  exact funcB_ok Tryz.func7 chk629

theorem chk630 : funcB Tryz.prog (fmOf fms env) (isPure tree.get) f630 Tryz.f9 = true := by kernel_rfl
theorem ok630 (f : FuncId) (hf : fmOf fms env 630 = some f) : DefRel Tryz.prog (fmOf fms env) tree.get (.code f630) f := by
  have h : fmOf fms env 630 = some 9 := by kernel_rfl
  rw [h] at hf
  cases hf
  exact funcB_ok Tryz.func9 chk630

theorem chk631 : funcB Tryz.prog (fmOf fms env) (isPure tree.get) f631 Tryz.f11 = true := by kernel_rfl
theorem ok631 (f : FuncId) (hf : fmOf fms env 631 = some f) : DefRel Tryz.prog (fmOf fms env) tree.get (.code f631) f := by
  have h : fmOf fms env 631 = some 11 := by kernel_rfl
  rw [h] at hf
  cases hf
  exact funcB_ok Tryz.func11 chk631

theorem chk632 : funcB Tryz.prog (fmOf fms env) (isPure tree.get) f632 Tryz.f15 = true := by kernel_rfl
theorem ok632 (f : FuncId) (hf : fmOf fms env 632 = some f) : DefRel Tryz.prog (fmOf fms env) tree.get (.code f632) f := by
  have h : fmOf fms env 632 = some 15 := by kernel_rfl
  rw [h] at hf
  cases hf
  exact funcB_ok Tryz.func15 chk632

theorem chk633 : funcB Tryz.prog (fmOf fms env) (isPure tree.get) f633 Tryz.f18 = true := by kernel_rfl
theorem ok633 (f : FuncId) (hf : fmOf fms env 633 = some f) : DefRel Tryz.prog (fmOf fms env) tree.get (.code f633) f := by
  have h : fmOf fms env 633 = some 18 := by kernel_rfl
  rw [h] at hf
  cases hf
  exact funcB_ok Tryz.func18 chk633

theorem chk634 : funcB Tryz.prog (fmOf fms env) (isPure tree.get) f634 Tryz.f22 = true := by kernel_rfl
theorem ok634 (f : FuncId) (hf : fmOf fms env 634 = some f) : DefRel Tryz.prog (fmOf fms env) tree.get (.code f634) f := by
  have h : fmOf fms env 634 = some 22 := by kernel_rfl
  rw [h] at hf
  cases hf
  exact funcB_ok Tryz.func22 chk634

theorem ok72 (f : FuncId) (hf : fmOf fms env 72 = some f) : DefRel Tryz.prog (fmOf fms env) tree.get (.prim indexByteD) f := by
  have h : fmOf fms env 72 = some 121 := by kernel_rfl
  rw [h] at hf
  cases hf
  exact prim_indexByte Tryz.func121 (by kernel_rfl) (by kernel_rfl) (by kernel_rfl) (by kernel_rfl)

theorem ok64 (f : FuncId) (hf : fmOf fms env 64 = some f) : DefRel Tryz.prog (fmOf fms env) tree.get (.prim countByteD) f := by
  have h : fmOf fms env 64 = some 110 := by kernel_rfl
  rw [h] at hf
  cases hf
  exact prim_countByte Tryz.func110 (by kernel_rfl) (by kernel_rfl) (by kernel_rfl) (by kernel_rfl)

theorem tabOk : TabRel Tryz.prog (fmOf fms env) tree.get := tabRel_tree (t := tree) ⟨⟨⟨⟨⟨⟨⟨ok10, ok13⟩, ⟨ok17, ok21⟩⟩, ⟨⟨ok23, ok26⟩, ⟨ok27, ok29⟩⟩⟩, ⟨⟨⟨ok30, ok31⟩, ⟨ok32, ok40⟩⟩, ⟨⟨ok41, ok42⟩, ⟨ok43, ok44⟩⟩⟩⟩, ⟨⟨⟨⟨ok51, ok54⟩, ⟨ok55, ok56⟩⟩, ⟨⟨ok57, ok61⟩, ⟨ok62, ok63⟩⟩⟩, ⟨⟨⟨ok64, ok65⟩, ⟨ok68, ok69⟩⟩, ⟨⟨ok70, ok72⟩, ⟨ok73, ok74⟩⟩⟩⟩⟩, ⟨⟨⟨⟨⟨ok76, ok77⟩, ⟨ok78, ok100⟩⟩, ⟨⟨ok101, ok102⟩, ⟨ok103, ok105⟩⟩⟩, ⟨⟨⟨ok106, ok107⟩, ⟨ok108, ok109⟩⟩, ⟨⟨ok110, ok111⟩, ⟨ok112, ok113⟩⟩⟩⟩, ⟨⟨⟨⟨ok114, ok116⟩, ⟨ok117, ok118⟩⟩, ⟨⟨ok119, ok120⟩, ⟨ok121, ok122⟩⟩⟩, ⟨⟨⟨ok123, ok124⟩, ⟨ok125, ok126⟩⟩, ⟨⟨ok127, ok128⟩, ⟨ok129, ok130⟩⟩⟩⟩⟩⟩, ⟨⟨⟨⟨⟨⟨ok131, ok132⟩, ⟨ok133, ok134⟩⟩, ⟨⟨ok135, ok136⟩, ⟨ok137, ok138⟩⟩⟩, ⟨⟨⟨ok139, ok140⟩, ⟨ok141, ok142⟩⟩, ⟨⟨ok143, ok144⟩, ⟨ok145, ok146⟩⟩⟩⟩, ⟨⟨⟨⟨ok147, ok148⟩, ⟨ok149, ok150⟩⟩, ⟨⟨ok151, ok152⟩, ⟨ok153, ok154⟩⟩⟩, ⟨⟨⟨ok155, ok156⟩, ⟨ok157, ok158⟩⟩, ⟨⟨ok159, ok160⟩, ⟨ok161, ok162⟩⟩⟩⟩⟩, ⟨⟨⟨⟨⟨ok163, ok164⟩, ⟨ok165, ok166⟩⟩, ⟨⟨ok167, ok241⟩, ⟨ok310, ok316⟩⟩⟩, ⟨⟨⟨ok318, ok322⟩, ⟨ok325, ok327⟩⟩, ⟨⟨ok328, ok329⟩, ⟨ok333, ok339⟩⟩⟩⟩, ⟨⟨⟨⟨ok340, ok341⟩, ⟨ok342, ok347⟩⟩, ⟨⟨ok349, ok352⟩, ⟨ok353, ok354⟩⟩⟩, ⟨⟨⟨ok626, ok627⟩, ⟨ok628, ok629⟩⟩, ⟨⟨ok630, ok631⟩, ⟨ok632, ⟨ok633, ok634⟩⟩⟩⟩⟩⟩⟩⟩

end Go.D.Tab
