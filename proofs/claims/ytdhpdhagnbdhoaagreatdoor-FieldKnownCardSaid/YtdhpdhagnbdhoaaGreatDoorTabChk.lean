/-
The table is the program's code. Printed by wip/gen.
-/
import Derived.Test.YtdhpdhagnbdhoaaGreatDoorChecked
import Derived.Test.YtdhpdhagnbdhoaaGreatDoorTab
import Derived.KernelRfl
namespace Go.D.Tab
open Go.Proofs

theorem chk10 : funcB Tryz.prog (fmOf fms env) (isPure tree.get) f10 Tryz.f119 = true := by kernel_rfl
theorem ok10 (f : FuncId) (hf : fmOf fms env 10 = some f) : DefRel Tryz.prog (fmOf fms env) tree.get (.code f10) f := by
  have h : fmOf fms env 10 = some 119 := by kernel_rfl
  rw [h] at hf
  cases hf
  exact funcB_ok Tryz.func119 chk10

theorem chk13 : funcB Tryz.prog (fmOf fms env) (isPure tree.get) f13 Tryz.f89 = true := by kernel_rfl
theorem ok13 (f : FuncId) (hf : fmOf fms env 13 = some f) : DefRel Tryz.prog (fmOf fms env) tree.get (.code f13) f := by
  have h : fmOf fms env 13 = some 89 := by kernel_rfl
  rw [h] at hf
  cases hf
  exact funcB_ok Tryz.func89 chk13

theorem chk17 : funcB Tryz.prog (fmOf fms env) (isPure tree.get) f17 Tryz.f170 = true := by kernel_rfl
theorem ok17 (f : FuncId) (hf : fmOf fms env 17 = some f) : DefRel Tryz.prog (fmOf fms env) tree.get (.code f17) f := by
  have h : fmOf fms env 17 = some 170 := by kernel_rfl
  rw [h] at hf
  cases hf
  exact funcB_ok Tryz.func170 chk17

theorem chk21 : funcB Tryz.prog (fmOf fms env) (isPure tree.get) f21 Tryz.f202 = true := by kernel_rfl
theorem ok21 (f : FuncId) (hf : fmOf fms env 21 = some f) : DefRel Tryz.prog (fmOf fms env) tree.get (.code f21) f := by
  have h : fmOf fms env 21 = some 202 := by kernel_rfl
  rw [h] at hf
  cases hf
  exact funcB_ok Tryz.func202 chk21

theorem chk23 : funcB Tryz.prog (fmOf fms env) (isPure tree.get) f23 Tryz.f151 = true := by kernel_rfl
theorem ok23 (f : FuncId) (hf : fmOf fms env 23 = some f) : DefRel Tryz.prog (fmOf fms env) tree.get (.code f23) f := by
  have h : fmOf fms env 23 = some 151 := by kernel_rfl
  rw [h] at hf
  cases hf
  exact funcB_ok Tryz.func151 chk23

theorem chk27 : funcB Tryz.prog (fmOf fms env) (isPure tree.get) f27 Tryz.f113 = true := by kernel_rfl
theorem ok27 (f : FuncId) (hf : fmOf fms env 27 = some f) : DefRel Tryz.prog (fmOf fms env) tree.get (.code f27) f := by
  have h : fmOf fms env 27 = some 113 := by kernel_rfl
  rw [h] at hf
  cases hf
  exact funcB_ok Tryz.func113 chk27

theorem chk29 : funcB Tryz.prog (fmOf fms env) (isPure tree.get) f29 Tryz.f164 = true := by kernel_rfl
theorem ok29 (f : FuncId) (hf : fmOf fms env 29 = some f) : DefRel Tryz.prog (fmOf fms env) tree.get (.code f29) f := by
  have h : fmOf fms env 29 = some 164 := by kernel_rfl
  rw [h] at hf
  cases hf
  exact funcB_ok Tryz.func164 chk29

theorem chk30 : funcB Tryz.prog (fmOf fms env) (isPure tree.get) f30 Tryz.f165 = true := by kernel_rfl
theorem ok30 (f : FuncId) (hf : fmOf fms env 30 = some f) : DefRel Tryz.prog (fmOf fms env) tree.get (.code f30) f := by
  have h : fmOf fms env 30 = some 165 := by kernel_rfl
  rw [h] at hf
  cases hf
  exact funcB_ok Tryz.func165 chk30

theorem chk31 : funcB Tryz.prog (fmOf fms env) (isPure tree.get) f31 Tryz.f166 = true := by kernel_rfl
theorem ok31 (f : FuncId) (hf : fmOf fms env 31 = some f) : DefRel Tryz.prog (fmOf fms env) tree.get (.code f31) f := by
  have h : fmOf fms env 31 = some 166 := by kernel_rfl
  rw [h] at hf
  cases hf
  exact funcB_ok Tryz.func166 chk31

theorem chk32 : funcB Tryz.prog (fmOf fms env) (isPure tree.get) f32 Tryz.f167 = true := by kernel_rfl
theorem ok32 (f : FuncId) (hf : fmOf fms env 32 = some f) : DefRel Tryz.prog (fmOf fms env) tree.get (.code f32) f := by
  have h : fmOf fms env 32 = some 167 := by kernel_rfl
  rw [h] at hf
  cases hf
  exact funcB_ok Tryz.func167 chk32

theorem chk40 : funcB Tryz.prog (fmOf fms env) (isPure tree.get) f40 Tryz.f114 = true := by kernel_rfl
theorem ok40 (f : FuncId) (hf : fmOf fms env 40 = some f) : DefRel Tryz.prog (fmOf fms env) tree.get (.code f40) f := by
  have h : fmOf fms env 40 = some 114 := by kernel_rfl
  rw [h] at hf
  cases hf
  exact funcB_ok Tryz.func114 chk40

theorem chk41 : funcB Tryz.prog (fmOf fms env) (isPure tree.get) f41 Tryz.f115 = true := by kernel_rfl
theorem ok41 (f : FuncId) (hf : fmOf fms env 41 = some f) : DefRel Tryz.prog (fmOf fms env) tree.get (.code f41) f := by
  have h : fmOf fms env 41 = some 115 := by kernel_rfl
  rw [h] at hf
  cases hf
  exact funcB_ok Tryz.func115 chk41

theorem chk42 : funcB Tryz.prog (fmOf fms env) (isPure tree.get) f42 Tryz.f116 = true := by kernel_rfl
theorem ok42 (f : FuncId) (hf : fmOf fms env 42 = some f) : DefRel Tryz.prog (fmOf fms env) tree.get (.code f42) f := by
  have h : fmOf fms env 42 = some 116 := by kernel_rfl
  rw [h] at hf
  cases hf
  exact funcB_ok Tryz.func116 chk42

theorem chk43 : funcB Tryz.prog (fmOf fms env) (isPure tree.get) f43 Tryz.f117 = true := by kernel_rfl
theorem ok43 (f : FuncId) (hf : fmOf fms env 43 = some f) : DefRel Tryz.prog (fmOf fms env) tree.get (.code f43) f := by
  have h : fmOf fms env 43 = some 117 := by kernel_rfl
  rw [h] at hf
  cases hf
  exact funcB_ok Tryz.func117 chk43

theorem chk44 : funcB Tryz.prog (fmOf fms env) (isPure tree.get) f44 Tryz.f106 = true := by kernel_rfl
theorem ok44 (f : FuncId) (hf : fmOf fms env 44 = some f) : DefRel Tryz.prog (fmOf fms env) tree.get (.code f44) f := by
  have h : fmOf fms env 44 = some 106 := by kernel_rfl
  rw [h] at hf
  cases hf
  exact funcB_ok Tryz.func106 chk44

theorem chk51 : funcB Tryz.prog (fmOf fms env) (isPure tree.get) f51 Tryz.f210 = true := by kernel_rfl
theorem ok51 (f : FuncId) (hf : fmOf fms env 51 = some f) : DefRel Tryz.prog (fmOf fms env) tree.get (.code f51) f := by
  have h : fmOf fms env 51 = some 210 := by kernel_rfl
  rw [h] at hf
  cases hf
  exact funcB_ok Tryz.func210 chk51

theorem chk54 : funcB Tryz.prog (fmOf fms env) (isPure tree.get) f54 Tryz.f160 = true := by kernel_rfl
theorem ok54 (f : FuncId) (hf : fmOf fms env 54 = some f) : DefRel Tryz.prog (fmOf fms env) tree.get (.code f54) f := by
  have h : fmOf fms env 54 = some 160 := by kernel_rfl
  rw [h] at hf
  cases hf
  exact funcB_ok Tryz.func160 chk54

theorem chk55 : funcB Tryz.prog (fmOf fms env) (isPure tree.get) f55 Tryz.f161 = true := by kernel_rfl
theorem ok55 (f : FuncId) (hf : fmOf fms env 55 = some f) : DefRel Tryz.prog (fmOf fms env) tree.get (.code f55) f := by
  have h : fmOf fms env 55 = some 161 := by kernel_rfl
  rw [h] at hf
  cases hf
  exact funcB_ok Tryz.func161 chk55

theorem chk56 : funcB Tryz.prog (fmOf fms env) (isPure tree.get) f56 Tryz.f201 = true := by kernel_rfl
theorem ok56 (f : FuncId) (hf : fmOf fms env 56 = some f) : DefRel Tryz.prog (fmOf fms env) tree.get (.code f56) f := by
  have h : fmOf fms env 56 = some 201 := by kernel_rfl
  rw [h] at hf
  cases hf
  exact funcB_ok Tryz.func201 chk56

theorem chk57 : funcB Tryz.prog (fmOf fms env) (isPure tree.get) f57 Tryz.f203 = true := by kernel_rfl
theorem ok57 (f : FuncId) (hf : fmOf fms env 57 = some f) : DefRel Tryz.prog (fmOf fms env) tree.get (.code f57) f := by
  have h : fmOf fms env 57 = some 203 := by kernel_rfl
  rw [h] at hf
  cases hf
  exact funcB_ok Tryz.func203 chk57

theorem chk61 : funcB Tryz.prog (fmOf fms env) (isPure tree.get) f61 Tryz.f162 = true := by kernel_rfl
theorem ok61 (f : FuncId) (hf : fmOf fms env 61 = some f) : DefRel Tryz.prog (fmOf fms env) tree.get (.code f61) f := by
  have h : fmOf fms env 61 = some 162 := by kernel_rfl
  rw [h] at hf
  cases hf
  exact funcB_ok Tryz.func162 chk61

theorem chk62 : funcB Tryz.prog (fmOf fms env) (isPure tree.get) f62 Tryz.f163 = true := by kernel_rfl
theorem ok62 (f : FuncId) (hf : fmOf fms env 62 = some f) : DefRel Tryz.prog (fmOf fms env) tree.get (.code f62) f := by
  have h : fmOf fms env 62 = some 163 := by kernel_rfl
  rw [h] at hf
  cases hf
  exact funcB_ok Tryz.func163 chk62

theorem chk63 : funcB Tryz.prog (fmOf fms env) (isPure tree.get) f63 Tryz.f152 = true := by kernel_rfl
theorem ok63 (f : FuncId) (hf : fmOf fms env 63 = some f) : DefRel Tryz.prog (fmOf fms env) tree.get (.code f63) f := by
  have h : fmOf fms env 63 = some 152 := by kernel_rfl
  rw [h] at hf
  cases hf
  exact funcB_ok Tryz.func152 chk63

theorem chk65 : funcB Tryz.prog (fmOf fms env) (isPure tree.get) f65 Tryz.f107 = true := by kernel_rfl
theorem ok65 (f : FuncId) (hf : fmOf fms env 65 = some f) : DefRel Tryz.prog (fmOf fms env) tree.get (.code f65) f := by
  have h : fmOf fms env 65 = some 107 := by kernel_rfl
  rw [h] at hf
  cases hf
  exact funcB_ok Tryz.func107 chk65

theorem chk68 : funcB Tryz.prog (fmOf fms env) (isPure tree.get) f68 Tryz.f197 = true := by kernel_rfl
theorem ok68 (f : FuncId) (hf : fmOf fms env 68 = some f) : DefRel Tryz.prog (fmOf fms env) tree.get (.code f68) f := by
  have h : fmOf fms env 68 = some 197 := by kernel_rfl
  rw [h] at hf
  cases hf
  exact funcB_ok Tryz.func197 chk68

theorem chk69 : funcB Tryz.prog (fmOf fms env) (isPure tree.get) f69 Tryz.f198 = true := by kernel_rfl
theorem ok69 (f : FuncId) (hf : fmOf fms env 69 = some f) : DefRel Tryz.prog (fmOf fms env) tree.get (.code f69) f := by
  have h : fmOf fms env 69 = some 198 := by kernel_rfl
  rw [h] at hf
  cases hf
  exact funcB_ok Tryz.func198 chk69

theorem chk70 : funcB Tryz.prog (fmOf fms env) (isPure tree.get) f70 Tryz.f199 = true := by kernel_rfl
theorem ok70 (f : FuncId) (hf : fmOf fms env 70 = some f) : DefRel Tryz.prog (fmOf fms env) tree.get (.code f70) f := by
  have h : fmOf fms env 70 = some 199 := by kernel_rfl
  rw [h] at hf
  cases hf
  exact funcB_ok Tryz.func199 chk70

theorem chk73 : funcB Tryz.prog (fmOf fms env) (isPure tree.get) f73 Tryz.f155 = true := by kernel_rfl
theorem ok73 (f : FuncId) (hf : fmOf fms env 73 = some f) : DefRel Tryz.prog (fmOf fms env) tree.get (.code f73) f := by
  have h : fmOf fms env 73 = some 155 := by kernel_rfl
  rw [h] at hf
  cases hf
  exact funcB_ok Tryz.func155 chk73

theorem chk74 : funcB Tryz.prog (fmOf fms env) (isPure tree.get) f74 Tryz.f227 = true := by kernel_rfl
theorem ok74 (f : FuncId) (hf : fmOf fms env 74 = some f) : DefRel Tryz.prog (fmOf fms env) tree.get (.code f74) f := by
  have h : fmOf fms env 74 = some 227 := by kernel_rfl
  rw [h] at hf
  cases hf
  exact funcB_ok Tryz.func227 chk74

theorem chk76 : funcB Tryz.prog (fmOf fms env) (isPure tree.get) f76 Tryz.f191 = true := by kernel_rfl
theorem ok76 (f : FuncId) (hf : fmOf fms env 76 = some f) : DefRel Tryz.prog (fmOf fms env) tree.get (.code f76) f := by
  have h : fmOf fms env 76 = some 191 := by kernel_rfl
  rw [h] at hf
  cases hf
  exact funcB_ok Tryz.func191 chk76

theorem chk77 : funcB Tryz.prog (fmOf fms env) (isPure tree.get) f77 Tryz.f192 = true := by kernel_rfl
theorem ok77 (f : FuncId) (hf : fmOf fms env 77 = some f) : DefRel Tryz.prog (fmOf fms env) tree.get (.code f77) f := by
  have h : fmOf fms env 77 = some 192 := by kernel_rfl
  rw [h] at hf
  cases hf
  exact funcB_ok Tryz.func192 chk77

theorem chk78 : funcB Tryz.prog (fmOf fms env) (isPure tree.get) f78 Tryz.f222 = true := by kernel_rfl
theorem ok78 (f : FuncId) (hf : fmOf fms env 78 = some f) : DefRel Tryz.prog (fmOf fms env) tree.get (.code f78) f := by
  have h : fmOf fms env 78 = some 222 := by kernel_rfl
  rw [h] at hf
  cases hf
  exact funcB_ok Tryz.func222 chk78

theorem chk106 : funcB Tryz.prog (fmOf fms env) (isPure tree.get) f106 Tryz.f64 = true := by kernel_rfl
theorem ok106 (f : FuncId) (hf : fmOf fms env 106 = some f) : DefRel Tryz.prog (fmOf fms env) tree.get (.code f106) f := by
  have h : fmOf fms env 106 = some 64 := by kernel_rfl
  rw [h] at hf
  cases hf
  exact funcB_ok Tryz.func64 chk106

theorem chk108 : funcB Tryz.prog (fmOf fms env) (isPure tree.get) f108 Tryz.f96 = true := by kernel_rfl
theorem ok108 (f : FuncId) (hf : fmOf fms env 108 = some f) : DefRel Tryz.prog (fmOf fms env) tree.get (.code f108) f := by
  have h : fmOf fms env 108 = some 96 := by kernel_rfl
  rw [h] at hf
  cases hf
  exact funcB_ok Tryz.func96 chk108

theorem chk109 : funcB Tryz.prog (fmOf fms env) (isPure tree.get) f109 Tryz.f133 = true := by kernel_rfl
theorem ok109 (f : FuncId) (hf : fmOf fms env 109 = some f) : DefRel Tryz.prog (fmOf fms env) tree.get (.code f109) f := by
  have h : fmOf fms env 109 = some 133 := by kernel_rfl
  rw [h] at hf
  cases hf
  exact funcB_ok Tryz.func133 chk109

theorem chk110 : funcB Tryz.prog (fmOf fms env) (isPure tree.get) f110 Tryz.f212 = true := by kernel_rfl
theorem ok110 (f : FuncId) (hf : fmOf fms env 110 = some f) : DefRel Tryz.prog (fmOf fms env) tree.get (.code f110) f := by
  have h : fmOf fms env 110 = some 212 := by kernel_rfl
  rw [h] at hf
  cases hf
  exact funcB_ok Tryz.func212 chk110

theorem chk113 : funcB Tryz.prog (fmOf fms env) (isPure tree.get) f113 Tryz.f95 = true := by kernel_rfl
theorem ok113 (f : FuncId) (hf : fmOf fms env 113 = some f) : DefRel Tryz.prog (fmOf fms env) tree.get (.code f113) f := by
  have h : fmOf fms env 113 = some 95 := by kernel_rfl
  rw [h] at hf
  cases hf
  exact funcB_ok Tryz.func95 chk113

theorem chk114 : funcB Tryz.prog (fmOf fms env) (isPure tree.get) f114 Tryz.f67 = true := by kernel_rfl
theorem ok114 (f : FuncId) (hf : fmOf fms env 114 = some f) : DefRel Tryz.prog (fmOf fms env) tree.get (.code f114) f := by
  have h : fmOf fms env 114 = some 67 := by kernel_rfl
  rw [h] at hf
  cases hf
  exact funcB_ok Tryz.func67 chk114

theorem chk117 : funcB Tryz.prog (fmOf fms env) (isPure tree.get) f117 Tryz.f91 = true := by kernel_rfl
theorem ok117 (f : FuncId) (hf : fmOf fms env 117 = some f) : DefRel Tryz.prog (fmOf fms env) tree.get (.code f117) f := by
  have h : fmOf fms env 117 = some 91 := by kernel_rfl
  rw [h] at hf
  cases hf
  exact funcB_ok Tryz.func91 chk117

theorem chk118 : funcB Tryz.prog (fmOf fms env) (isPure tree.get) f118 Tryz.f92 = true := by kernel_rfl
theorem ok118 (f : FuncId) (hf : fmOf fms env 118 = some f) : DefRel Tryz.prog (fmOf fms env) tree.get (.code f118) f := by
  have h : fmOf fms env 118 = some 92 := by kernel_rfl
  rw [h] at hf
  cases hf
  exact funcB_ok Tryz.func92 chk118

theorem chk120 : funcB Tryz.prog (fmOf fms env) (isPure tree.get) f120 Tryz.f172 = true := by kernel_rfl
theorem ok120 (f : FuncId) (hf : fmOf fms env 120 = some f) : DefRel Tryz.prog (fmOf fms env) tree.get (.code f120) f := by
  have h : fmOf fms env 120 = some 172 := by kernel_rfl
  rw [h] at hf
  cases hf
  exact funcB_ok Tryz.func172 chk120

theorem chk121 : funcB Tryz.prog (fmOf fms env) (isPure tree.get) f121 Tryz.f98 = true := by kernel_rfl
theorem ok121 (f : FuncId) (hf : fmOf fms env 121 = some f) : DefRel Tryz.prog (fmOf fms env) tree.get (.code f121) f := by
  have h : fmOf fms env 121 = some 98 := by kernel_rfl
  rw [h] at hf
  cases hf
  exact funcB_ok Tryz.func98 chk121

theorem chk122 : funcB Tryz.prog (fmOf fms env) (isPure tree.get) f122 Tryz.f211 = true := by kernel_rfl
theorem ok122 (f : FuncId) (hf : fmOf fms env 122 = some f) : DefRel Tryz.prog (fmOf fms env) tree.get (.code f122) f := by
  have h : fmOf fms env 122 = some 211 := by kernel_rfl
  rw [h] at hf
  cases hf
  exact funcB_ok Tryz.func211 chk122

theorem chk123 : funcB Tryz.prog (fmOf fms env) (isPure tree.get) f123 Tryz.f99 = true := by kernel_rfl
theorem ok123 (f : FuncId) (hf : fmOf fms env 123 = some f) : DefRel Tryz.prog (fmOf fms env) tree.get (.code f123) f := by
  have h : fmOf fms env 123 = some 99 := by kernel_rfl
  rw [h] at hf
  cases hf
  exact funcB_ok Tryz.func99 chk123

theorem chk124 : funcB Tryz.prog (fmOf fms env) (isPure tree.get) f124 Tryz.f234 = true := by kernel_rfl
theorem ok124 (f : FuncId) (hf : fmOf fms env 124 = some f) : DefRel Tryz.prog (fmOf fms env) tree.get (.code f124) f := by
  have h : fmOf fms env 124 = some 234 := by kernel_rfl
  rw [h] at hf
  cases hf
  exact funcB_ok Tryz.func234 chk124

theorem chk126 : funcB Tryz.prog (fmOf fms env) (isPure tree.get) f126 Tryz.f90 = true := by kernel_rfl
theorem ok126 (f : FuncId) (hf : fmOf fms env 126 = some f) : DefRel Tryz.prog (fmOf fms env) tree.get (.code f126) f := by
  have h : fmOf fms env 126 = some 90 := by kernel_rfl
  rw [h] at hf
  cases hf
  exact funcB_ok Tryz.func90 chk126

theorem chk127 : funcB Tryz.prog (fmOf fms env) (isPure tree.get) f127 Tryz.f134 = true := by kernel_rfl
theorem ok127 (f : FuncId) (hf : fmOf fms env 127 = some f) : DefRel Tryz.prog (fmOf fms env) tree.get (.code f127) f := by
  have h : fmOf fms env 127 = some 134 := by kernel_rfl
  rw [h] at hf
  cases hf
  exact funcB_ok Tryz.func134 chk127

theorem chk128 : funcB Tryz.prog (fmOf fms env) (isPure tree.get) f128 Tryz.f135 = true := by kernel_rfl
theorem ok128 (f : FuncId) (hf : fmOf fms env 128 = some f) : DefRel Tryz.prog (fmOf fms env) tree.get (.code f128) f := by
  have h : fmOf fms env 128 = some 135 := by kernel_rfl
  rw [h] at hf
  cases hf
  exact funcB_ok Tryz.func135 chk128

theorem chk129 : funcB Tryz.prog (fmOf fms env) (isPure tree.get) f129 Tryz.f136 = true := by kernel_rfl
theorem ok129 (f : FuncId) (hf : fmOf fms env 129 = some f) : DefRel Tryz.prog (fmOf fms env) tree.get (.code f129) f := by
  have h : fmOf fms env 129 = some 136 := by kernel_rfl
  rw [h] at hf
  cases hf
  exact funcB_ok Tryz.func136 chk129

theorem chk130 : funcB Tryz.prog (fmOf fms env) (isPure tree.get) f130 Tryz.f137 = true := by kernel_rfl
theorem ok130 (f : FuncId) (hf : fmOf fms env 130 = some f) : DefRel Tryz.prog (fmOf fms env) tree.get (.code f130) f := by
  have h : fmOf fms env 130 = some 137 := by kernel_rfl
  rw [h] at hf
  cases hf
  exact funcB_ok Tryz.func137 chk130

theorem chk131 : funcB Tryz.prog (fmOf fms env) (isPure tree.get) f131 Tryz.f120 = true := by kernel_rfl
theorem ok131 (f : FuncId) (hf : fmOf fms env 131 = some f) : DefRel Tryz.prog (fmOf fms env) tree.get (.code f131) f := by
  have h : fmOf fms env 131 = some 120 := by kernel_rfl
  rw [h] at hf
  cases hf
  exact funcB_ok Tryz.func120 chk131

theorem chk132 : funcB Tryz.prog (fmOf fms env) (isPure tree.get) f132 Tryz.f121 = true := by kernel_rfl
theorem ok132 (f : FuncId) (hf : fmOf fms env 132 = some f) : DefRel Tryz.prog (fmOf fms env) tree.get (.code f132) f := by
  have h : fmOf fms env 132 = some 121 := by kernel_rfl
  rw [h] at hf
  cases hf
  exact funcB_ok Tryz.func121 chk132

theorem chk133 : funcB Tryz.prog (fmOf fms env) (isPure tree.get) f133 Tryz.f122 = true := by kernel_rfl
theorem ok133 (f : FuncId) (hf : fmOf fms env 133 = some f) : DefRel Tryz.prog (fmOf fms env) tree.get (.code f133) f := by
  have h : fmOf fms env 133 = some 122 := by kernel_rfl
  rw [h] at hf
  cases hf
  exact funcB_ok Tryz.func122 chk133

theorem chk134 : funcB Tryz.prog (fmOf fms env) (isPure tree.get) f134 Tryz.f123 = true := by kernel_rfl
theorem ok134 (f : FuncId) (hf : fmOf fms env 134 = some f) : DefRel Tryz.prog (fmOf fms env) tree.get (.code f134) f := by
  have h : fmOf fms env 134 = some 123 := by kernel_rfl
  rw [h] at hf
  cases hf
  exact funcB_ok Tryz.func123 chk134

theorem chk135 : funcB Tryz.prog (fmOf fms env) (isPure tree.get) f135 Tryz.f124 = true := by kernel_rfl
theorem ok135 (f : FuncId) (hf : fmOf fms env 135 = some f) : DefRel Tryz.prog (fmOf fms env) tree.get (.code f135) f := by
  have h : fmOf fms env 135 = some 124 := by kernel_rfl
  rw [h] at hf
  cases hf
  exact funcB_ok Tryz.func124 chk135

theorem chk136 : funcB Tryz.prog (fmOf fms env) (isPure tree.get) f136 Tryz.f125 = true := by kernel_rfl
theorem ok136 (f : FuncId) (hf : fmOf fms env 136 = some f) : DefRel Tryz.prog (fmOf fms env) tree.get (.code f136) f := by
  have h : fmOf fms env 136 = some 125 := by kernel_rfl
  rw [h] at hf
  cases hf
  exact funcB_ok Tryz.func125 chk136

theorem chk137 : funcB Tryz.prog (fmOf fms env) (isPure tree.get) f137 Tryz.f126 = true := by kernel_rfl
theorem ok137 (f : FuncId) (hf : fmOf fms env 137 = some f) : DefRel Tryz.prog (fmOf fms env) tree.get (.code f137) f := by
  have h : fmOf fms env 137 = some 126 := by kernel_rfl
  rw [h] at hf
  cases hf
  exact funcB_ok Tryz.func126 chk137

theorem chk138 : funcB Tryz.prog (fmOf fms env) (isPure tree.get) f138 Tryz.f127 = true := by kernel_rfl
theorem ok138 (f : FuncId) (hf : fmOf fms env 138 = some f) : DefRel Tryz.prog (fmOf fms env) tree.get (.code f138) f := by
  have h : fmOf fms env 138 = some 127 := by kernel_rfl
  rw [h] at hf
  cases hf
  exact funcB_ok Tryz.func127 chk138

theorem chk139 : funcB Tryz.prog (fmOf fms env) (isPure tree.get) f139 Tryz.f245 = true := by kernel_rfl
theorem ok139 (f : FuncId) (hf : fmOf fms env 139 = some f) : DefRel Tryz.prog (fmOf fms env) tree.get (.code f139) f := by
  have h : fmOf fms env 139 = some 245 := by kernel_rfl
  rw [h] at hf
  cases hf
  exact funcB_ok Tryz.func245 chk139

theorem chk140 : funcB Tryz.prog (fmOf fms env) (isPure tree.get) f140 Tryz.f118 = true := by kernel_rfl
theorem ok140 (f : FuncId) (hf : fmOf fms env 140 = some f) : DefRel Tryz.prog (fmOf fms env) tree.get (.code f140) f := by
  have h : fmOf fms env 140 = some 118 := by kernel_rfl
  rw [h] at hf
  cases hf
  exact funcB_ok Tryz.func118 chk140

theorem chk141 : funcB Tryz.prog (fmOf fms env) (isPure tree.get) f141 Tryz.f173 = true := by kernel_rfl
theorem ok141 (f : FuncId) (hf : fmOf fms env 141 = some f) : DefRel Tryz.prog (fmOf fms env) tree.get (.code f141) f := by
  have h : fmOf fms env 141 = some 173 := by kernel_rfl
  rw [h] at hf
  cases hf
  exact funcB_ok Tryz.func173 chk141

theorem chk142 : funcB Tryz.prog (fmOf fms env) (isPure tree.get) f142 Tryz.f174 = true := by kernel_rfl
theorem ok142 (f : FuncId) (hf : fmOf fms env 142 = some f) : DefRel Tryz.prog (fmOf fms env) tree.get (.code f142) f := by
  have h : fmOf fms env 142 = some 174 := by kernel_rfl
  rw [h] at hf
  cases hf
  exact funcB_ok Tryz.func174 chk142

theorem chk143 : funcB Tryz.prog (fmOf fms env) (isPure tree.get) f143 Tryz.f168 = true := by kernel_rfl
theorem ok143 (f : FuncId) (hf : fmOf fms env 143 = some f) : DefRel Tryz.prog (fmOf fms env) tree.get (.code f143) f := by
  have h : fmOf fms env 143 = some 168 := by kernel_rfl
  rw [h] at hf
  cases hf
  exact funcB_ok Tryz.func168 chk143

theorem chk144 : funcB Tryz.prog (fmOf fms env) (isPure tree.get) f144 Tryz.f169 = true := by kernel_rfl
theorem ok144 (f : FuncId) (hf : fmOf fms env 144 = some f) : DefRel Tryz.prog (fmOf fms env) tree.get (.code f144) f := by
  have h : fmOf fms env 144 = some 169 := by kernel_rfl
  rw [h] at hf
  cases hf
  exact funcB_ok Tryz.func169 chk144

theorem chk145 : funcB Tryz.prog (fmOf fms env) (isPure tree.get) f145 Tryz.f249 = true := by kernel_rfl
theorem ok145 (f : FuncId) (hf : fmOf fms env 145 = some f) : DefRel Tryz.prog (fmOf fms env) tree.get (.code f145) f := by
  have h : fmOf fms env 145 = some 249 := by kernel_rfl
  rw [h] at hf
  cases hf
  exact funcB_ok Tryz.func249 chk145

theorem chk146 : funcB Tryz.prog (fmOf fms env) (isPure tree.get) f146 Tryz.f250 = true := by kernel_rfl
theorem ok146 (f : FuncId) (hf : fmOf fms env 146 = some f) : DefRel Tryz.prog (fmOf fms env) tree.get (.code f146) f := by
  have h : fmOf fms env 146 = some 250 := by kernel_rfl
  rw [h] at hf
  cases hf
  exact funcB_ok Tryz.func250 chk146

theorem chk147 : funcB Tryz.prog (fmOf fms env) (isPure tree.get) f147 Tryz.f204 = true := by kernel_rfl
theorem ok147 (f : FuncId) (hf : fmOf fms env 147 = some f) : DefRel Tryz.prog (fmOf fms env) tree.get (.code f147) f := by
  have h : fmOf fms env 147 = some 204 := by kernel_rfl
  rw [h] at hf
  cases hf
  exact funcB_ok Tryz.func204 chk147

theorem chk148 : funcB Tryz.prog (fmOf fms env) (isPure tree.get) f148 Tryz.f205 = true := by kernel_rfl
theorem ok148 (f : FuncId) (hf : fmOf fms env 148 = some f) : DefRel Tryz.prog (fmOf fms env) tree.get (.code f148) f := by
  have h : fmOf fms env 148 = some 205 := by kernel_rfl
  rw [h] at hf
  cases hf
  exact funcB_ok Tryz.func205 chk148

theorem chk149 : funcB Tryz.prog (fmOf fms env) (isPure tree.get) f149 Tryz.f206 = true := by kernel_rfl
theorem ok149 (f : FuncId) (hf : fmOf fms env 149 = some f) : DefRel Tryz.prog (fmOf fms env) tree.get (.code f149) f := by
  have h : fmOf fms env 149 = some 206 := by kernel_rfl
  rw [h] at hf
  cases hf
  exact funcB_ok Tryz.func206 chk149

theorem chk150 : funcB Tryz.prog (fmOf fms env) (isPure tree.get) f150 Tryz.f207 = true := by kernel_rfl
theorem ok150 (f : FuncId) (hf : fmOf fms env 150 = some f) : DefRel Tryz.prog (fmOf fms env) tree.get (.code f150) f := by
  have h : fmOf fms env 150 = some 207 := by kernel_rfl
  rw [h] at hf
  cases hf
  exact funcB_ok Tryz.func207 chk150

theorem chk151 : funcB Tryz.prog (fmOf fms env) (isPure tree.get) f151 Tryz.f208 = true := by kernel_rfl
theorem ok151 (f : FuncId) (hf : fmOf fms env 151 = some f) : DefRel Tryz.prog (fmOf fms env) tree.get (.code f151) f := by
  have h : fmOf fms env 151 = some 208 := by kernel_rfl
  rw [h] at hf
  cases hf
  exact funcB_ok Tryz.func208 chk151

theorem chk152 : funcB Tryz.prog (fmOf fms env) (isPure tree.get) f152 Tryz.f209 = true := by kernel_rfl
theorem ok152 (f : FuncId) (hf : fmOf fms env 152 = some f) : DefRel Tryz.prog (fmOf fms env) tree.get (.code f152) f := by
  have h : fmOf fms env 152 = some 209 := by kernel_rfl
  rw [h] at hf
  cases hf
  exact funcB_ok Tryz.func209 chk152

theorem chk153 : funcB Tryz.prog (fmOf fms env) (isPure tree.get) f153 Tryz.f251 = true := by kernel_rfl
theorem ok153 (f : FuncId) (hf : fmOf fms env 153 = some f) : DefRel Tryz.prog (fmOf fms env) tree.get (.code f153) f := by
  have h : fmOf fms env 153 = some 251 := by kernel_rfl
  rw [h] at hf
  cases hf
  exact funcB_ok Tryz.func251 chk153

theorem chk154 : funcB Tryz.prog (fmOf fms env) (isPure tree.get) f154 Tryz.f252 = true := by kernel_rfl
theorem ok154 (f : FuncId) (hf : fmOf fms env 154 = some f) : DefRel Tryz.prog (fmOf fms env) tree.get (.code f154) f := by
  have h : fmOf fms env 154 = some 252 := by kernel_rfl
  rw [h] at hf
  cases hf
  exact funcB_ok Tryz.func252 chk154

theorem chk155 : funcB Tryz.prog (fmOf fms env) (isPure tree.get) f155 Tryz.f218 = true := by kernel_rfl
theorem ok155 (f : FuncId) (hf : fmOf fms env 155 = some f) : DefRel Tryz.prog (fmOf fms env) tree.get (.code f155) f := by
  have h : fmOf fms env 155 = some 218 := by kernel_rfl
  rw [h] at hf
  cases hf
  exact funcB_ok Tryz.func218 chk155

theorem chk156 : funcB Tryz.prog (fmOf fms env) (isPure tree.get) f156 Tryz.f228 = true := by kernel_rfl
theorem ok156 (f : FuncId) (hf : fmOf fms env 156 = some f) : DefRel Tryz.prog (fmOf fms env) tree.get (.code f156) f := by
  have h : fmOf fms env 156 = some 228 := by kernel_rfl
  rw [h] at hf
  cases hf
  exact funcB_ok Tryz.func228 chk156

theorem chk157 : funcB Tryz.prog (fmOf fms env) (isPure tree.get) f157 Tryz.f229 = true := by kernel_rfl
theorem ok157 (f : FuncId) (hf : fmOf fms env 157 = some f) : DefRel Tryz.prog (fmOf fms env) tree.get (.code f157) f := by
  have h : fmOf fms env 157 = some 229 := by kernel_rfl
  rw [h] at hf
  cases hf
  exact funcB_ok Tryz.func229 chk157

theorem chk158 : funcB Tryz.prog (fmOf fms env) (isPure tree.get) f158 Tryz.f230 = true := by kernel_rfl
theorem ok158 (f : FuncId) (hf : fmOf fms env 158 = some f) : DefRel Tryz.prog (fmOf fms env) tree.get (.code f158) f := by
  have h : fmOf fms env 158 = some 230 := by kernel_rfl
  rw [h] at hf
  cases hf
  exact funcB_ok Tryz.func230 chk158

theorem chk159 : funcB Tryz.prog (fmOf fms env) (isPure tree.get) f159 Tryz.f231 = true := by kernel_rfl
theorem ok159 (f : FuncId) (hf : fmOf fms env 159 = some f) : DefRel Tryz.prog (fmOf fms env) tree.get (.code f159) f := by
  have h : fmOf fms env 159 = some 231 := by kernel_rfl
  rw [h] at hf
  cases hf
  exact funcB_ok Tryz.func231 chk159

theorem chk160 : funcB Tryz.prog (fmOf fms env) (isPure tree.get) f160 Tryz.f232 = true := by kernel_rfl
theorem ok160 (f : FuncId) (hf : fmOf fms env 160 = some f) : DefRel Tryz.prog (fmOf fms env) tree.get (.code f160) f := by
  have h : fmOf fms env 160 = some 232 := by kernel_rfl
  rw [h] at hf
  cases hf
  exact funcB_ok Tryz.func232 chk160

theorem chk161 : funcB Tryz.prog (fmOf fms env) (isPure tree.get) f161 Tryz.f233 = true := by kernel_rfl
theorem ok161 (f : FuncId) (hf : fmOf fms env 161 = some f) : DefRel Tryz.prog (fmOf fms env) tree.get (.code f161) f := by
  have h : fmOf fms env 161 = some 233 := by kernel_rfl
  rw [h] at hf
  cases hf
  exact funcB_ok Tryz.func233 chk161

theorem chk162 : funcB Tryz.prog (fmOf fms env) (isPure tree.get) f162 Tryz.f188 = true := by kernel_rfl
theorem ok162 (f : FuncId) (hf : fmOf fms env 162 = some f) : DefRel Tryz.prog (fmOf fms env) tree.get (.code f162) f := by
  have h : fmOf fms env 162 = some 188 := by kernel_rfl
  rw [h] at hf
  cases hf
  exact funcB_ok Tryz.func188 chk162

theorem chk163 : funcB Tryz.prog (fmOf fms env) (isPure tree.get) f163 Tryz.f242 = true := by kernel_rfl
theorem ok163 (f : FuncId) (hf : fmOf fms env 163 = some f) : DefRel Tryz.prog (fmOf fms env) tree.get (.code f163) f := by
  have h : fmOf fms env 163 = some 242 := by kernel_rfl
  rw [h] at hf
  cases hf
  exact funcB_ok Tryz.func242 chk163

theorem chk164 : funcB Tryz.prog (fmOf fms env) (isPure tree.get) f164 Tryz.f243 = true := by kernel_rfl
theorem ok164 (f : FuncId) (hf : fmOf fms env 164 = some f) : DefRel Tryz.prog (fmOf fms env) tree.get (.code f164) f := by
  have h : fmOf fms env 164 = some 243 := by kernel_rfl
  rw [h] at hf
  cases hf
  exact funcB_ok Tryz.func243 chk164

theorem chk165 : funcB Tryz.prog (fmOf fms env) (isPure tree.get) f165 Tryz.f244 = true := by kernel_rfl
theorem ok165 (f : FuncId) (hf : fmOf fms env 165 = some f) : DefRel Tryz.prog (fmOf fms env) tree.get (.code f165) f := by
  have h : fmOf fms env 165 = some 244 := by kernel_rfl
  rw [h] at hf
  cases hf
  exact funcB_ok Tryz.func244 chk165

theorem chk166 : funcB Tryz.prog (fmOf fms env) (isPure tree.get) f166 Tryz.f247 = true := by kernel_rfl
theorem ok166 (f : FuncId) (hf : fmOf fms env 166 = some f) : DefRel Tryz.prog (fmOf fms env) tree.get (.code f166) f := by
  have h : fmOf fms env 166 = some 247 := by kernel_rfl
  rw [h] at hf
  cases hf
  exact funcB_ok Tryz.func247 chk166

theorem chk167 : funcB Tryz.prog (fmOf fms env) (isPure tree.get) f167 Tryz.f248 = true := by kernel_rfl
theorem ok167 (f : FuncId) (hf : fmOf fms env 167 = some f) : DefRel Tryz.prog (fmOf fms env) tree.get (.code f167) f := by
  have h : fmOf fms env 167 = some 248 := by kernel_rfl
  rw [h] at hf
  cases hf
  exact funcB_ok Tryz.func248 chk167

theorem chk211 : funcB Tryz.prog (fmOf fms env) (isPure tree.get) f211 Tryz.f128 = true := by kernel_rfl
theorem ok211 (f : FuncId) (hf : fmOf fms env 211 = some f) : DefRel Tryz.prog (fmOf fms env) tree.get (.code f211) f := by
  have h : fmOf fms env 211 = some 128 := by kernel_rfl
  rw [h] at hf
  cases hf
  exact funcB_ok Tryz.func128 chk211

theorem chk218 : funcB Tryz.prog (fmOf fms env) (isPure tree.get) f218 Tryz.f138 = true := by kernel_rfl
theorem ok218 (f : FuncId) (hf : fmOf fms env 218 = some f) : DefRel Tryz.prog (fmOf fms env) tree.get (.code f218) f := by
  have h : fmOf fms env 218 = some 138 := by kernel_rfl
  rw [h] at hf
  cases hf
  exact funcB_ok Tryz.func138 chk218

theorem chk234 : funcB Tryz.prog (fmOf fms env) (isPure tree.get) f234 Tryz.f171 = true := by kernel_rfl
theorem ok234 (f : FuncId) (hf : fmOf fms env 234 = some f) : DefRel Tryz.prog (fmOf fms env) tree.get (.code f234) f := by
  have h : fmOf fms env 234 = some 171 := by kernel_rfl
  rw [h] at hf
  cases hf
  exact funcB_ok Tryz.func171 chk234

theorem chk242 : funcB Tryz.prog (fmOf fms env) (isPure tree.get) f242 Tryz.f175 = true := by kernel_rfl
theorem ok242 (f : FuncId) (hf : fmOf fms env 242 = some f) : DefRel Tryz.prog (fmOf fms env) tree.get (.code f242) f := by
  have h : fmOf fms env 242 = some 175 := by kernel_rfl
  rw [h] at hf
  cases hf
  exact funcB_ok Tryz.func175 chk242

theorem chk243 : funcB Tryz.prog (fmOf fms env) (isPure tree.get) f243 Tryz.f176 = true := by kernel_rfl
theorem ok243 (f : FuncId) (hf : fmOf fms env 243 = some f) : DefRel Tryz.prog (fmOf fms env) tree.get (.code f243) f := by
  have h : fmOf fms env 243 = some 176 := by kernel_rfl
  rw [h] at hf
  cases hf
  exact funcB_ok Tryz.func176 chk243

theorem chk244 : funcB Tryz.prog (fmOf fms env) (isPure tree.get) f244 Tryz.f177 = true := by kernel_rfl
theorem ok244 (f : FuncId) (hf : fmOf fms env 244 = some f) : DefRel Tryz.prog (fmOf fms env) tree.get (.code f244) f := by
  have h : fmOf fms env 244 = some 177 := by kernel_rfl
  rw [h] at hf
  cases hf
  exact funcB_ok Tryz.func177 chk244

theorem chk245 : funcB Tryz.prog (fmOf fms env) (isPure tree.get) f245 Tryz.f178 = true := by kernel_rfl
theorem ok245 (f : FuncId) (hf : fmOf fms env 245 = some f) : DefRel Tryz.prog (fmOf fms env) tree.get (.code f245) f := by
  have h : fmOf fms env 245 = some 178 := by kernel_rfl
  rw [h] at hf
  cases hf
  exact funcB_ok Tryz.func178 chk245

theorem chk246 : funcB Tryz.prog (fmOf fms env) (isPure tree.get) f246 Tryz.f179 = true := by kernel_rfl
theorem ok246 (f : FuncId) (hf : fmOf fms env 246 = some f) : DefRel Tryz.prog (fmOf fms env) tree.get (.code f246) f := by
  have h : fmOf fms env 246 = some 179 := by kernel_rfl
  rw [h] at hf
  cases hf
  exact funcB_ok Tryz.func179 chk246

theorem chk247 : funcB Tryz.prog (fmOf fms env) (isPure tree.get) f247 Tryz.f180 = true := by kernel_rfl
theorem ok247 (f : FuncId) (hf : fmOf fms env 247 = some f) : DefRel Tryz.prog (fmOf fms env) tree.get (.code f247) f := by
  have h : fmOf fms env 247 = some 180 := by kernel_rfl
  rw [h] at hf
  cases hf
  exact funcB_ok Tryz.func180 chk247

theorem chk248 : funcB Tryz.prog (fmOf fms env) (isPure tree.get) f248 Tryz.f181 = true := by kernel_rfl
theorem ok248 (f : FuncId) (hf : fmOf fms env 248 = some f) : DefRel Tryz.prog (fmOf fms env) tree.get (.code f248) f := by
  have h : fmOf fms env 248 = some 181 := by kernel_rfl
  rw [h] at hf
  cases hf
  exact funcB_ok Tryz.func181 chk248

theorem chk249 : funcB Tryz.prog (fmOf fms env) (isPure tree.get) f249 Tryz.f182 = true := by kernel_rfl
theorem ok249 (f : FuncId) (hf : fmOf fms env 249 = some f) : DefRel Tryz.prog (fmOf fms env) tree.get (.code f249) f := by
  have h : fmOf fms env 249 = some 182 := by kernel_rfl
  rw [h] at hf
  cases hf
  exact funcB_ok Tryz.func182 chk249

theorem chk265 : funcB Tryz.prog (fmOf fms env) (isPure tree.get) f265 Tryz.f213 = true := by kernel_rfl
theorem ok265 (f : FuncId) (hf : fmOf fms env 265 = some f) : DefRel Tryz.prog (fmOf fms env) tree.get (.code f265) f := by
  have h : fmOf fms env 265 = some 213 := by kernel_rfl
  rw [h] at hf
  cases hf
  exact funcB_ok Tryz.func213 chk265

theorem chk266 : funcB Tryz.prog (fmOf fms env) (isPure tree.get) f266 Tryz.f214 = true := by kernel_rfl
theorem ok266 (f : FuncId) (hf : fmOf fms env 266 = some f) : DefRel Tryz.prog (fmOf fms env) tree.get (.code f266) f := by
  have h : fmOf fms env 266 = some 214 := by kernel_rfl
  rw [h] at hf
  cases hf
  exact funcB_ok Tryz.func214 chk266

theorem chk267 : funcB Tryz.prog (fmOf fms env) (isPure tree.get) f267 Tryz.f215 = true := by kernel_rfl
theorem ok267 (f : FuncId) (hf : fmOf fms env 267 = some f) : DefRel Tryz.prog (fmOf fms env) tree.get (.code f267) f := by
  have h : fmOf fms env 267 = some 215 := by kernel_rfl
  rw [h] at hf
  cases hf
  exact funcB_ok Tryz.func215 chk267

theorem chk268 : funcB Tryz.prog (fmOf fms env) (isPure tree.get) f268 Tryz.f216 = true := by kernel_rfl
theorem ok268 (f : FuncId) (hf : fmOf fms env 268 = some f) : DefRel Tryz.prog (fmOf fms env) tree.get (.code f268) f := by
  have h : fmOf fms env 268 = some 216 := by kernel_rfl
  rw [h] at hf
  cases hf
  exact funcB_ok Tryz.func216 chk268

theorem chk269 : funcB Tryz.prog (fmOf fms env) (isPure tree.get) f269 Tryz.f217 = true := by kernel_rfl
theorem ok269 (f : FuncId) (hf : fmOf fms env 269 = some f) : DefRel Tryz.prog (fmOf fms env) tree.get (.code f269) f := by
  have h : fmOf fms env 269 = some 217 := by kernel_rfl
  rw [h] at hf
  cases hf
  exact funcB_ok Tryz.func217 chk269

theorem chk270 : funcB Tryz.prog (fmOf fms env) (isPure tree.get) f270 Tryz.f219 = true := by kernel_rfl
theorem ok270 (f : FuncId) (hf : fmOf fms env 270 = some f) : DefRel Tryz.prog (fmOf fms env) tree.get (.code f270) f := by
  have h : fmOf fms env 270 = some 219 := by kernel_rfl
  rw [h] at hf
  cases hf
  exact funcB_ok Tryz.func219 chk270

theorem chk271 : funcB Tryz.prog (fmOf fms env) (isPure tree.get) f271 Tryz.f220 = true := by kernel_rfl
theorem ok271 (f : FuncId) (hf : fmOf fms env 271 = some f) : DefRel Tryz.prog (fmOf fms env) tree.get (.code f271) f := by
  have h : fmOf fms env 271 = some 220 := by kernel_rfl
  rw [h] at hf
  cases hf
  exact funcB_ok Tryz.func220 chk271

theorem chk272 : funcB Tryz.prog (fmOf fms env) (isPure tree.get) f272 Tryz.f70 = true := by kernel_rfl
theorem ok272 (f : FuncId) (hf : fmOf fms env 272 = some f) : DefRel Tryz.prog (fmOf fms env) tree.get (.code f272) f := by
  have h : fmOf fms env 272 = some 70 := by kernel_rfl
  rw [h] at hf
  cases hf
  exact funcB_ok Tryz.func70 chk272

theorem chk275 : funcB Tryz.prog (fmOf fms env) (isPure tree.get) f275 Tryz.f235 = true := by kernel_rfl
theorem ok275 (f : FuncId) (hf : fmOf fms env 275 = some f) : DefRel Tryz.prog (fmOf fms env) tree.get (.code f275) f := by
  have h : fmOf fms env 275 = some 235 := by kernel_rfl
  rw [h] at hf
  cases hf
  exact funcB_ok Tryz.func235 chk275

theorem chk276 : funcB Tryz.prog (fmOf fms env) (isPure tree.get) f276 Tryz.f236 = true := by kernel_rfl
theorem ok276 (f : FuncId) (hf : fmOf fms env 276 = some f) : DefRel Tryz.prog (fmOf fms env) tree.get (.code f276) f := by
  have h : fmOf fms env 276 = some 236 := by kernel_rfl
  rw [h] at hf
  cases hf
  exact funcB_ok Tryz.func236 chk276

theorem chk277 : funcB Tryz.prog (fmOf fms env) (isPure tree.get) f277 Tryz.f237 = true := by kernel_rfl
theorem ok277 (f : FuncId) (hf : fmOf fms env 277 = some f) : DefRel Tryz.prog (fmOf fms env) tree.get (.code f277) f := by
  have h : fmOf fms env 277 = some 237 := by kernel_rfl
  rw [h] at hf
  cases hf
  exact funcB_ok Tryz.func237 chk277

theorem chk278 : funcB Tryz.prog (fmOf fms env) (isPure tree.get) f278 Tryz.f238 = true := by kernel_rfl
theorem ok278 (f : FuncId) (hf : fmOf fms env 278 = some f) : DefRel Tryz.prog (fmOf fms env) tree.get (.code f278) f := by
  have h : fmOf fms env 278 = some 238 := by kernel_rfl
  rw [h] at hf
  cases hf
  exact funcB_ok Tryz.func238 chk278

theorem chk279 : funcB Tryz.prog (fmOf fms env) (isPure tree.get) f279 Tryz.f239 = true := by kernel_rfl
theorem ok279 (f : FuncId) (hf : fmOf fms env 279 = some f) : DefRel Tryz.prog (fmOf fms env) tree.get (.code f279) f := by
  have h : fmOf fms env 279 = some 239 := by kernel_rfl
  rw [h] at hf
  cases hf
  exact funcB_ok Tryz.func239 chk279

theorem chk280 : funcB Tryz.prog (fmOf fms env) (isPure tree.get) f280 Tryz.f101 = true := by kernel_rfl
theorem ok280 (f : FuncId) (hf : fmOf fms env 280 = some f) : DefRel Tryz.prog (fmOf fms env) tree.get (.code f280) f := by
  have h : fmOf fms env 280 = some 101 := by kernel_rfl
  rw [h] at hf
  cases hf
  exact funcB_ok Tryz.func101 chk280

theorem chk281 : funcB Tryz.prog (fmOf fms env) (isPure tree.get) f281 Tryz.f102 = true := by kernel_rfl
theorem ok281 (f : FuncId) (hf : fmOf fms env 281 = some f) : DefRel Tryz.prog (fmOf fms env) tree.get (.code f281) f := by
  have h : fmOf fms env 281 = some 102 := by kernel_rfl
  rw [h] at hf
  cases hf
  exact funcB_ok Tryz.func102 chk281

theorem chk282 : funcB Tryz.prog (fmOf fms env) (isPure tree.get) f282 Tryz.f246 = true := by kernel_rfl
theorem ok282 (f : FuncId) (hf : fmOf fms env 282 = some f) : DefRel Tryz.prog (fmOf fms env) tree.get (.code f282) f := by
  have h : fmOf fms env 282 = some 246 := by kernel_rfl
  rw [h] at hf
  cases hf
  exact funcB_ok Tryz.func246 chk282

theorem chk283 : funcB Tryz.prog (fmOf fms env) (isPure tree.get) f283 Tryz.f139 = true := by kernel_rfl
theorem ok283 (f : FuncId) (hf : fmOf fms env 283 = some f) : DefRel Tryz.prog (fmOf fms env) tree.get (.code f283) f := by
  have h : fmOf fms env 283 = some 139 := by kernel_rfl
  rw [h] at hf
  cases hf
  exact funcB_ok Tryz.func139 chk283

theorem chk284 : funcB Tryz.prog (fmOf fms env) (isPure tree.get) f284 Tryz.f140 = true := by kernel_rfl
theorem ok284 (f : FuncId) (hf : fmOf fms env 284 = some f) : DefRel Tryz.prog (fmOf fms env) tree.get (.code f284) f := by
  have h : fmOf fms env 284 = some 140 := by kernel_rfl
  rw [h] at hf
  cases hf
  exact funcB_ok Tryz.func140 chk284

theorem chk285 : funcB Tryz.prog (fmOf fms env) (isPure tree.get) f285 Tryz.f141 = true := by kernel_rfl
theorem ok285 (f : FuncId) (hf : fmOf fms env 285 = some f) : DefRel Tryz.prog (fmOf fms env) tree.get (.code f285) f := by
  have h : fmOf fms env 285 = some 141 := by kernel_rfl
  rw [h] at hf
  cases hf
  exact funcB_ok Tryz.func141 chk285

theorem chk286 : funcB Tryz.prog (fmOf fms env) (isPure tree.get) f286 Tryz.f142 = true := by kernel_rfl
theorem ok286 (f : FuncId) (hf : fmOf fms env 286 = some f) : DefRel Tryz.prog (fmOf fms env) tree.get (.code f286) f := by
  have h : fmOf fms env 286 = some 142 := by kernel_rfl
  rw [h] at hf
  cases hf
  exact funcB_ok Tryz.func142 chk286

theorem chk287 : funcB Tryz.prog (fmOf fms env) (isPure tree.get) f287 Tryz.f143 = true := by kernel_rfl
theorem ok287 (f : FuncId) (hf : fmOf fms env 287 = some f) : DefRel Tryz.prog (fmOf fms env) tree.get (.code f287) f := by
  have h : fmOf fms env 287 = some 143 := by kernel_rfl
  rw [h] at hf
  cases hf
  exact funcB_ok Tryz.func143 chk287

theorem chk288 : funcB Tryz.prog (fmOf fms env) (isPure tree.get) f288 Tryz.f144 = true := by kernel_rfl
theorem ok288 (f : FuncId) (hf : fmOf fms env 288 = some f) : DefRel Tryz.prog (fmOf fms env) tree.get (.code f288) f := by
  have h : fmOf fms env 288 = some 144 := by kernel_rfl
  rw [h] at hf
  cases hf
  exact funcB_ok Tryz.func144 chk288

theorem chk289 : funcB Tryz.prog (fmOf fms env) (isPure tree.get) f289 Tryz.f145 = true := by kernel_rfl
theorem ok289 (f : FuncId) (hf : fmOf fms env 289 = some f) : DefRel Tryz.prog (fmOf fms env) tree.get (.code f289) f := by
  have h : fmOf fms env 289 = some 145 := by kernel_rfl
  rw [h] at hf
  cases hf
  exact funcB_ok Tryz.func145 chk289

theorem chk290 : funcB Tryz.prog (fmOf fms env) (isPure tree.get) f290 Tryz.f146 = true := by kernel_rfl
theorem ok290 (f : FuncId) (hf : fmOf fms env 290 = some f) : DefRel Tryz.prog (fmOf fms env) tree.get (.code f290) f := by
  have h : fmOf fms env 290 = some 146 := by kernel_rfl
  rw [h] at hf
  cases hf
  exact funcB_ok Tryz.func146 chk290

theorem chk291 : funcB Tryz.prog (fmOf fms env) (isPure tree.get) f291 Tryz.f147 = true := by kernel_rfl
theorem ok291 (f : FuncId) (hf : fmOf fms env 291 = some f) : DefRel Tryz.prog (fmOf fms env) tree.get (.code f291) f := by
  have h : fmOf fms env 291 = some 147 := by kernel_rfl
  rw [h] at hf
  cases hf
  exact funcB_ok Tryz.func147 chk291

theorem chk292 : funcB Tryz.prog (fmOf fms env) (isPure tree.get) f292 Tryz.f148 = true := by kernel_rfl
theorem ok292 (f : FuncId) (hf : fmOf fms env 292 = some f) : DefRel Tryz.prog (fmOf fms env) tree.get (.code f292) f := by
  have h : fmOf fms env 292 = some 148 := by kernel_rfl
  rw [h] at hf
  cases hf
  exact funcB_ok Tryz.func148 chk292

theorem chk293 : funcB Tryz.prog (fmOf fms env) (isPure tree.get) f293 Tryz.f149 = true := by kernel_rfl
theorem ok293 (f : FuncId) (hf : fmOf fms env 293 = some f) : DefRel Tryz.prog (fmOf fms env) tree.get (.code f293) f := by
  have h : fmOf fms env 293 = some 149 := by kernel_rfl
  rw [h] at hf
  cases hf
  exact funcB_ok Tryz.func149 chk293

theorem chk294 : funcB Tryz.prog (fmOf fms env) (isPure tree.get) f294 Tryz.f183 = true := by kernel_rfl
theorem ok294 (f : FuncId) (hf : fmOf fms env 294 = some f) : DefRel Tryz.prog (fmOf fms env) tree.get (.code f294) f := by
  have h : fmOf fms env 294 = some 183 := by kernel_rfl
  rw [h] at hf
  cases hf
  exact funcB_ok Tryz.func183 chk294

theorem chk295 : funcB Tryz.prog (fmOf fms env) (isPure tree.get) f295 Tryz.f184 = true := by kernel_rfl
theorem ok295 (f : FuncId) (hf : fmOf fms env 295 = some f) : DefRel Tryz.prog (fmOf fms env) tree.get (.code f295) f := by
  have h : fmOf fms env 295 = some 184 := by kernel_rfl
  rw [h] at hf
  cases hf
  exact funcB_ok Tryz.func184 chk295

theorem chk296 : funcB Tryz.prog (fmOf fms env) (isPure tree.get) f296 Tryz.f185 = true := by kernel_rfl
theorem ok296 (f : FuncId) (hf : fmOf fms env 296 = some f) : DefRel Tryz.prog (fmOf fms env) tree.get (.code f296) f := by
  have h : fmOf fms env 296 = some 185 := by kernel_rfl
  rw [h] at hf
  cases hf
  exact funcB_ok Tryz.func185 chk296

theorem chk297 : funcB Tryz.prog (fmOf fms env) (isPure tree.get) f297 Tryz.f186 = true := by kernel_rfl
theorem ok297 (f : FuncId) (hf : fmOf fms env 297 = some f) : DefRel Tryz.prog (fmOf fms env) tree.get (.code f297) f := by
  have h : fmOf fms env 297 = some 186 := by kernel_rfl
  rw [h] at hf
  cases hf
  exact funcB_ok Tryz.func186 chk297

theorem chk298 : funcB Tryz.prog (fmOf fms env) (isPure tree.get) f298 Tryz.f187 = true := by kernel_rfl
theorem ok298 (f : FuncId) (hf : fmOf fms env 298 = some f) : DefRel Tryz.prog (fmOf fms env) tree.get (.code f298) f := by
  have h : fmOf fms env 298 = some 187 := by kernel_rfl
  rw [h] at hf
  cases hf
  exact funcB_ok Tryz.func187 chk298

theorem chk299 : funcB Tryz.prog (fmOf fms env) (isPure tree.get) f299 Tryz.f221 = true := by kernel_rfl
theorem ok299 (f : FuncId) (hf : fmOf fms env 299 = some f) : DefRel Tryz.prog (fmOf fms env) tree.get (.code f299) f := by
  have h : fmOf fms env 299 = some 221 := by kernel_rfl
  rw [h] at hf
  cases hf
  exact funcB_ok Tryz.func221 chk299

theorem chk307 : funcB Tryz.prog (fmOf fms env) (isPure tree.get) f307 Tryz.f33 = true := by kernel_rfl
theorem ok307 (f : FuncId) (hf : fmOf fms env 307 = some f) : DefRel Tryz.prog (fmOf fms env) tree.get (.code f307) f := by
  have h : fmOf fms env 307 = some 33 := by kernel_rfl
  rw [h] at hf
  cases hf
  exact funcB_ok Tryz.func33 chk307

theorem chk319 : funcB Tryz.prog (fmOf fms env) (isPure tree.get) f319 Tryz.f63 = true := by kernel_rfl
theorem ok319 (f : FuncId) (hf : fmOf fms env 319 = some f) : DefRel Tryz.prog (fmOf fms env) tree.get (.code f319) f := by
  have h : fmOf fms env 319 = some 63 := by kernel_rfl
  rw [h] at hf
  cases hf
  exact funcB_ok Tryz.func63 chk319

theorem chk320 : funcB Tryz.prog (fmOf fms env) (isPure tree.get) f320 Tryz.f65 = true := by kernel_rfl
theorem ok320 (f : FuncId) (hf : fmOf fms env 320 = some f) : DefRel Tryz.prog (fmOf fms env) tree.get (.code f320) f := by
  have h : fmOf fms env 320 = some 65 := by kernel_rfl
  rw [h] at hf
  cases hf
  exact funcB_ok Tryz.func65 chk320

theorem chk321 : funcB Tryz.prog (fmOf fms env) (isPure tree.get) f321 Tryz.f66 = true := by kernel_rfl
theorem ok321 (f : FuncId) (hf : fmOf fms env 321 = some f) : DefRel Tryz.prog (fmOf fms env) tree.get (.code f321) f := by
  have h : fmOf fms env 321 = some 66 := by kernel_rfl
  rw [h] at hf
  cases hf
  exact funcB_ok Tryz.func66 chk321

theorem chk322 : funcB Tryz.prog (fmOf fms env) (isPure tree.get) f322 Tryz.f68 = true := by kernel_rfl
theorem ok322 (f : FuncId) (hf : fmOf fms env 322 = some f) : DefRel Tryz.prog (fmOf fms env) tree.get (.code f322) f := by
  have h : fmOf fms env 322 = some 68 := by kernel_rfl
  rw [h] at hf
  cases hf
  exact funcB_ok Tryz.func68 chk322

theorem chk330 : funcB Tryz.prog (fmOf fms env) (isPure tree.get) f330 Tryz.f93 = true := by kernel_rfl
theorem ok330 (f : FuncId) (hf : fmOf fms env 330 = some f) : DefRel Tryz.prog (fmOf fms env) tree.get (.code f330) f := by
  have h : fmOf fms env 330 = some 93 := by kernel_rfl
  rw [h] at hf
  cases hf
  exact funcB_ok Tryz.func93 chk330

theorem chk331 : funcB Tryz.prog (fmOf fms env) (isPure tree.get) f331 Tryz.f94 = true := by kernel_rfl
theorem ok331 (f : FuncId) (hf : fmOf fms env 331 = some f) : DefRel Tryz.prog (fmOf fms env) tree.get (.code f331) f := by
  have h : fmOf fms env 331 = some 94 := by kernel_rfl
  rw [h] at hf
  cases hf
  exact funcB_ok Tryz.func94 chk331

theorem chk332 : funcB Tryz.prog (fmOf fms env) (isPure tree.get) f332 Tryz.f97 = true := by kernel_rfl
theorem ok332 (f : FuncId) (hf : fmOf fms env 332 = some f) : DefRel Tryz.prog (fmOf fms env) tree.get (.code f332) f := by
  have h : fmOf fms env 332 = some 97 := by kernel_rfl
  rw [h] at hf
  cases hf
  exact funcB_ok Tryz.func97 chk332

theorem chk343 : funcB Tryz.prog (fmOf fms env) (isPure tree.get) f343 Tryz.f129 = true := by kernel_rfl
theorem ok343 (f : FuncId) (hf : fmOf fms env 343 = some f) : DefRel Tryz.prog (fmOf fms env) tree.get (.code f343) f := by
  have h : fmOf fms env 343 = some 129 := by kernel_rfl
  rw [h] at hf
  cases hf
  exact funcB_ok Tryz.func129 chk343

theorem chk344 : funcB Tryz.prog (fmOf fms env) (isPure tree.get) f344 Tryz.f130 = true := by kernel_rfl
theorem ok344 (f : FuncId) (hf : fmOf fms env 344 = some f) : DefRel Tryz.prog (fmOf fms env) tree.get (.code f344) f := by
  have h : fmOf fms env 344 = some 130 := by kernel_rfl
  rw [h] at hf
  cases hf
  exact funcB_ok Tryz.func130 chk344

theorem chk345 : funcB Tryz.prog (fmOf fms env) (isPure tree.get) f345 Tryz.f131 = true := by kernel_rfl
theorem ok345 (f : FuncId) (hf : fmOf fms env 345 = some f) : DefRel Tryz.prog (fmOf fms env) tree.get (.code f345) f := by
  have h : fmOf fms env 345 = some 131 := by kernel_rfl
  rw [h] at hf
  cases hf
  exact funcB_ok Tryz.func131 chk345

theorem chk346 : funcB Tryz.prog (fmOf fms env) (isPure tree.get) f346 Tryz.f132 = true := by kernel_rfl
theorem ok346 (f : FuncId) (hf : fmOf fms env 346 = some f) : DefRel Tryz.prog (fmOf fms env) tree.get (.code f346) f := by
  have h : fmOf fms env 346 = some 132 := by kernel_rfl
  rw [h] at hf
  cases hf
  exact funcB_ok Tryz.func132 chk346

theorem chk374 : funcB Tryz.prog (fmOf fms env) (isPure tree.get) f374 Tryz.f84 = true := by kernel_rfl
theorem ok374 (f : FuncId) (hf : fmOf fms env 374 = some f) : DefRel Tryz.prog (fmOf fms env) tree.get (.code f374) f := by
  have h : fmOf fms env 374 = some 84 := by kernel_rfl
  rw [h] at hf
  cases hf
  exact funcB_ok Tryz.func84 chk374

theorem chk377 : funcB Tryz.prog (fmOf fms env) (isPure tree.get) f377 Tryz.f109 = true := by kernel_rfl
theorem ok377 (f : FuncId) (hf : fmOf fms env 377 = some f) : DefRel Tryz.prog (fmOf fms env) tree.get (.code f377) f := by
  have h : fmOf fms env 377 = some 109 := by kernel_rfl
  rw [h] at hf
  cases hf
  exact funcB_ok Tryz.func109 chk377

theorem chk378 : funcB Tryz.prog (fmOf fms env) (isPure tree.get) f378 Tryz.f157 = true := by kernel_rfl
theorem ok378 (f : FuncId) (hf : fmOf fms env 378 = some f) : DefRel Tryz.prog (fmOf fms env) tree.get (.code f378) f := by
  have h : fmOf fms env 378 = some 157 := by kernel_rfl
  rw [h] at hf
  cases hf
  exact funcB_ok Tryz.func157 chk378

theorem chk379 : funcB Tryz.prog (fmOf fms env) (isPure tree.get) f379 Tryz.f193 = true := by kernel_rfl
theorem ok379 (f : FuncId) (hf : fmOf fms env 379 = some f) : DefRel Tryz.prog (fmOf fms env) tree.get (.code f379) f := by
  have h : fmOf fms env 379 = some 193 := by kernel_rfl
  rw [h] at hf
  cases hf
  exact funcB_ok Tryz.func193 chk379

theorem chk380 : funcB Tryz.prog (fmOf fms env) (isPure tree.get) f380 Tryz.f194 = true := by kernel_rfl
theorem ok380 (f : FuncId) (hf : fmOf fms env 380 = some f) : DefRel Tryz.prog (fmOf fms env) tree.get (.code f380) f := by
  have h : fmOf fms env 380 = some 194 := by kernel_rfl
  rw [h] at hf
  cases hf
  exact funcB_ok Tryz.func194 chk380

theorem chk381 : funcB Tryz.prog (fmOf fms env) (isPure tree.get) f381 Tryz.f195 = true := by kernel_rfl
theorem ok381 (f : FuncId) (hf : fmOf fms env 381 = some f) : DefRel Tryz.prog (fmOf fms env) tree.get (.code f381) f := by
  have h : fmOf fms env 381 = some 195 := by kernel_rfl
  rw [h] at hf
  cases hf
  exact funcB_ok Tryz.func195 chk381

theorem chk382 : funcB Tryz.prog (fmOf fms env) (isPure tree.get) f382 Tryz.f196 = true := by kernel_rfl
theorem ok382 (f : FuncId) (hf : fmOf fms env 382 = some f) : DefRel Tryz.prog (fmOf fms env) tree.get (.code f382) f := by
  have h : fmOf fms env 382 = some 196 := by kernel_rfl
  rw [h] at hf
  cases hf
  exact funcB_ok Tryz.func196 chk382

theorem chk383 : funcB Tryz.prog (fmOf fms env) (isPure tree.get) f383 Tryz.f223 = true := by kernel_rfl
theorem ok383 (f : FuncId) (hf : fmOf fms env 383 = some f) : DefRel Tryz.prog (fmOf fms env) tree.get (.code f383) f := by
  have h : fmOf fms env 383 = some 223 := by kernel_rfl
  rw [h] at hf
  cases hf
  exact funcB_ok Tryz.func223 chk383

theorem chk384 : funcB Tryz.prog (fmOf fms env) (isPure tree.get) f384 Tryz.f224 = true := by kernel_rfl
theorem ok384 (f : FuncId) (hf : fmOf fms env 384 = some f) : DefRel Tryz.prog (fmOf fms env) tree.get (.code f384) f := by
  have h : fmOf fms env 384 = some 224 := by kernel_rfl
  rw [h] at hf
  cases hf
  exact funcB_ok Tryz.func224 chk384

theorem chk385 : funcB Tryz.prog (fmOf fms env) (isPure tree.get) f385 Tryz.f225 = true := by kernel_rfl
theorem ok385 (f : FuncId) (hf : fmOf fms env 385 = some f) : DefRel Tryz.prog (fmOf fms env) tree.get (.code f385) f := by
  have h : fmOf fms env 385 = some 225 := by kernel_rfl
  rw [h] at hf
  cases hf
  exact funcB_ok Tryz.func225 chk385

theorem chk386 : funcB Tryz.prog (fmOf fms env) (isPure tree.get) f386 Tryz.f226 = true := by kernel_rfl
theorem ok386 (f : FuncId) (hf : fmOf fms env 386 = some f) : DefRel Tryz.prog (fmOf fms env) tree.get (.code f386) f := by
  have h : fmOf fms env 386 = some 226 := by kernel_rfl
  rw [h] at hf
  cases hf
  exact funcB_ok Tryz.func226 chk386

theorem chk387 : funcB Tryz.prog (fmOf fms env) (isPure tree.get) f387 Tryz.f240 = true := by kernel_rfl
theorem ok387 (f : FuncId) (hf : fmOf fms env 387 = some f) : DefRel Tryz.prog (fmOf fms env) tree.get (.code f387) f := by
  have h : fmOf fms env 387 = some 240 := by kernel_rfl
  rw [h] at hf
  cases hf
  exact funcB_ok Tryz.func240 chk387

theorem chk388 : funcB Tryz.prog (fmOf fms env) (isPure tree.get) f388 Tryz.f241 = true := by kernel_rfl
theorem ok388 (f : FuncId) (hf : fmOf fms env 388 = some f) : DefRel Tryz.prog (fmOf fms env) tree.get (.code f388) f := by
  have h : fmOf fms env 388 = some 241 := by kernel_rfl
  rw [h] at hf
  cases hf
  exact funcB_ok Tryz.func241 chk388

theorem chk395 : funcB Tryz.prog (fmOf fms env) (isPure tree.get) f395 Tryz.f6 = true := by kernel_rfl
theorem ok395 (f : FuncId) (hf : fmOf fms env 395 = some f) : DefRel Tryz.prog (fmOf fms env) tree.get (.code f395) f := by
  have h : fmOf fms env 395 = some 6 := by kernel_rfl
  rw [h] at hf
  cases hf
  exact funcB_ok Tryz.func6 chk395

theorem chk413 : funcB Tryz.prog (fmOf fms env) (isPure tree.get) f413 Tryz.f25 = true := by kernel_rfl
theorem ok413 (f : FuncId) (hf : fmOf fms env 413 = some f) : DefRel Tryz.prog (fmOf fms env) tree.get (.code f413) f := by
  have h : fmOf fms env 413 = some 25 := by kernel_rfl
  rw [h] at hf
  cases hf
  exact funcB_ok Tryz.func25 chk413

theorem chk414 : funcB Tryz.prog (fmOf fms env) (isPure tree.get) f414 Tryz.f26 = true := by kernel_rfl
theorem ok414 (f : FuncId) (hf : fmOf fms env 414 = some f) : DefRel Tryz.prog (fmOf fms env) tree.get (.code f414) f := by
  have h : fmOf fms env 414 = some 26 := by kernel_rfl
  rw [h] at hf
  cases hf
  exact funcB_ok Tryz.func26 chk414

theorem chk415 : funcB Tryz.prog (fmOf fms env) (isPure tree.get) f415 Tryz.f27 = true := by kernel_rfl
theorem ok415 (f : FuncId) (hf : fmOf fms env 415 = some f) : DefRel Tryz.prog (fmOf fms env) tree.get (.code f415) f := by
  have h : fmOf fms env 415 = some 27 := by kernel_rfl
  rw [h] at hf
  cases hf
  exact funcB_ok Tryz.func27 chk415

theorem chk416 : funcB Tryz.prog (fmOf fms env) (isPure tree.get) f416 Tryz.f28 = true := by kernel_rfl
theorem ok416 (f : FuncId) (hf : fmOf fms env 416 = some f) : DefRel Tryz.prog (fmOf fms env) tree.get (.code f416) f := by
  have h : fmOf fms env 416 = some 28 := by kernel_rfl
  rw [h] at hf
  cases hf
  exact funcB_ok Tryz.func28 chk416

theorem chk417 : funcB Tryz.prog (fmOf fms env) (isPure tree.get) f417 Tryz.f29 = true := by kernel_rfl
theorem ok417 (f : FuncId) (hf : fmOf fms env 417 = some f) : DefRel Tryz.prog (fmOf fms env) tree.get (.code f417) f := by
  have h : fmOf fms env 417 = some 29 := by kernel_rfl
  rw [h] at hf
  cases hf
  exact funcB_ok Tryz.func29 chk417

theorem chk438 : funcB Tryz.prog (fmOf fms env) (isPure tree.get) f438 Tryz.f51 = true := by kernel_rfl
theorem ok438 (f : FuncId) (hf : fmOf fms env 438 = some f) : DefRel Tryz.prog (fmOf fms env) tree.get (.code f438) f := by
  have h : fmOf fms env 438 = some 51 := by kernel_rfl
  rw [h] at hf
  cases hf
  exact funcB_ok Tryz.func51 chk438

theorem chk439 : funcB Tryz.prog (fmOf fms env) (isPure tree.get) f439 Tryz.f52 = true := by kernel_rfl
theorem ok439 (f : FuncId) (hf : fmOf fms env 439 = some f) : DefRel Tryz.prog (fmOf fms env) tree.get (.code f439) f := by
  have h : fmOf fms env 439 = some 52 := by kernel_rfl
  rw [h] at hf
  cases hf
  exact funcB_ok Tryz.func52 chk439

theorem chk440 : funcB Tryz.prog (fmOf fms env) (isPure tree.get) f440 Tryz.f53 = true := by kernel_rfl
theorem ok440 (f : FuncId) (hf : fmOf fms env 440 = some f) : DefRel Tryz.prog (fmOf fms env) tree.get (.code f440) f := by
  have h : fmOf fms env 440 = some 53 := by kernel_rfl
  rw [h] at hf
  cases hf
  exact funcB_ok Tryz.func53 chk440

theorem chk441 : funcB Tryz.prog (fmOf fms env) (isPure tree.get) f441 Tryz.f54 = true := by kernel_rfl
theorem ok441 (f : FuncId) (hf : fmOf fms env 441 = some f) : DefRel Tryz.prog (fmOf fms env) tree.get (.code f441) f := by
  have h : fmOf fms env 441 = some 54 := by kernel_rfl
  rw [h] at hf
  cases hf
  exact funcB_ok Tryz.func54 chk441

theorem chk442 : funcB Tryz.prog (fmOf fms env) (isPure tree.get) f442 Tryz.f55 = true := by kernel_rfl
theorem ok442 (f : FuncId) (hf : fmOf fms env 442 = some f) : DefRel Tryz.prog (fmOf fms env) tree.get (.code f442) f := by
  have h : fmOf fms env 442 = some 55 := by kernel_rfl
  rw [h] at hf
  cases hf
  exact funcB_ok Tryz.func55 chk442

theorem chk443 : funcB Tryz.prog (fmOf fms env) (isPure tree.get) f443 Tryz.f56 = true := by kernel_rfl
theorem ok443 (f : FuncId) (hf : fmOf fms env 443 = some f) : DefRel Tryz.prog (fmOf fms env) tree.get (.code f443) f := by
  have h : fmOf fms env 443 = some 56 := by kernel_rfl
  rw [h] at hf
  cases hf
  exact funcB_ok Tryz.func56 chk443

theorem chk444 : funcB Tryz.prog (fmOf fms env) (isPure tree.get) f444 Tryz.f57 = true := by kernel_rfl
theorem ok444 (f : FuncId) (hf : fmOf fms env 444 = some f) : DefRel Tryz.prog (fmOf fms env) tree.get (.code f444) f := by
  have h : fmOf fms env 444 = some 57 := by kernel_rfl
  rw [h] at hf
  cases hf
  exact funcB_ok Tryz.func57 chk444

theorem chk445 : funcB Tryz.prog (fmOf fms env) (isPure tree.get) f445 Tryz.f58 = true := by kernel_rfl
theorem ok445 (f : FuncId) (hf : fmOf fms env 445 = some f) : DefRel Tryz.prog (fmOf fms env) tree.get (.code f445) f := by
  have h : fmOf fms env 445 = some 58 := by kernel_rfl
  rw [h] at hf
  cases hf
  exact funcB_ok Tryz.func58 chk445

theorem chk446 : funcB Tryz.prog (fmOf fms env) (isPure tree.get) f446 Tryz.f59 = true := by kernel_rfl
theorem ok446 (f : FuncId) (hf : fmOf fms env 446 = some f) : DefRel Tryz.prog (fmOf fms env) tree.get (.code f446) f := by
  have h : fmOf fms env 446 = some 59 := by kernel_rfl
  rw [h] at hf
  cases hf
  exact funcB_ok Tryz.func59 chk446

theorem chk463 : funcB Tryz.prog (fmOf fms env) (isPure tree.get) f463 Tryz.f83 = true := by kernel_rfl
theorem ok463 (f : FuncId) (hf : fmOf fms env 463 = some f) : DefRel Tryz.prog (fmOf fms env) tree.get (.code f463) f := by
  have h : fmOf fms env 463 = some 83 := by kernel_rfl
  rw [h] at hf
  cases hf
  exact funcB_ok Tryz.func83 chk463

theorem chk464 : funcB Tryz.prog (fmOf fms env) (isPure tree.get) f464 Tryz.f85 = true := by kernel_rfl
theorem ok464 (f : FuncId) (hf : fmOf fms env 464 = some f) : DefRel Tryz.prog (fmOf fms env) tree.get (.code f464) f := by
  have h : fmOf fms env 464 = some 85 := by kernel_rfl
  rw [h] at hf
  cases hf
  exact funcB_ok Tryz.func85 chk464

theorem chk465 : funcB Tryz.prog (fmOf fms env) (isPure tree.get) f465 Tryz.f86 = true := by kernel_rfl
theorem ok465 (f : FuncId) (hf : fmOf fms env 465 = some f) : DefRel Tryz.prog (fmOf fms env) tree.get (.code f465) f := by
  have h : fmOf fms env 465 = some 86 := by kernel_rfl
  rw [h] at hf
  cases hf
  exact funcB_ok Tryz.func86 chk465

theorem chk466 : funcB Tryz.prog (fmOf fms env) (isPure tree.get) f466 Tryz.f87 = true := by kernel_rfl
theorem ok466 (f : FuncId) (hf : fmOf fms env 466 = some f) : DefRel Tryz.prog (fmOf fms env) tree.get (.code f466) f := by
  have h : fmOf fms env 466 = some 87 := by kernel_rfl
  rw [h] at hf
  cases hf
  exact funcB_ok Tryz.func87 chk466

theorem chk467 : funcB Tryz.prog (fmOf fms env) (isPure tree.get) f467 Tryz.f88 = true := by kernel_rfl
theorem ok467 (f : FuncId) (hf : fmOf fms env 467 = some f) : DefRel Tryz.prog (fmOf fms env) tree.get (.code f467) f := by
  have h : fmOf fms env 467 = some 88 := by kernel_rfl
  rw [h] at hf
  cases hf
  exact funcB_ok Tryz.func88 chk467

theorem chk472 : funcB Tryz.prog (fmOf fms env) (isPure tree.get) f472 Tryz.f108 = true := by kernel_rfl
theorem ok472 (f : FuncId) (hf : fmOf fms env 472 = some f) : DefRel Tryz.prog (fmOf fms env) tree.get (.code f472) f := by
  have h : fmOf fms env 472 = some 108 := by kernel_rfl
  rw [h] at hf
  cases hf
  exact funcB_ok Tryz.func108 chk472

theorem chk473 : funcB Tryz.prog (fmOf fms env) (isPure tree.get) f473 Tryz.f110 = true := by kernel_rfl
theorem ok473 (f : FuncId) (hf : fmOf fms env 473 = some f) : DefRel Tryz.prog (fmOf fms env) tree.get (.code f473) f := by
  have h : fmOf fms env 473 = some 110 := by kernel_rfl
  rw [h] at hf
  cases hf
  exact funcB_ok Tryz.func110 chk473

theorem chk474 : funcB Tryz.prog (fmOf fms env) (isPure tree.get) f474 Tryz.f111 = true := by kernel_rfl
theorem ok474 (f : FuncId) (hf : fmOf fms env 474 = some f) : DefRel Tryz.prog (fmOf fms env) tree.get (.code f474) f := by
  have h : fmOf fms env 474 = some 111 := by kernel_rfl
  rw [h] at hf
  cases hf
  exact funcB_ok Tryz.func111 chk474

theorem chk475 : funcB Tryz.prog (fmOf fms env) (isPure tree.get) f475 Tryz.f112 = true := by kernel_rfl
theorem ok475 (f : FuncId) (hf : fmOf fms env 475 = some f) : DefRel Tryz.prog (fmOf fms env) tree.get (.code f475) f := by
  have h : fmOf fms env 475 = some 112 := by kernel_rfl
  rw [h] at hf
  cases hf
  exact funcB_ok Tryz.func112 chk475

theorem chk479 : funcB Tryz.prog (fmOf fms env) (isPure tree.get) f479 Tryz.f158 = true := by kernel_rfl
theorem ok479 (f : FuncId) (hf : fmOf fms env 479 = some f) : DefRel Tryz.prog (fmOf fms env) tree.get (.code f479) f := by
  have h : fmOf fms env 479 = some 158 := by kernel_rfl
  rw [h] at hf
  cases hf
  exact funcB_ok Tryz.func158 chk479

theorem chk480 : funcB Tryz.prog (fmOf fms env) (isPure tree.get) f480 Tryz.f159 = true := by kernel_rfl
theorem ok480 (f : FuncId) (hf : fmOf fms env 480 = some f) : DefRel Tryz.prog (fmOf fms env) tree.get (.code f480) f := by
  have h : fmOf fms env 480 = some 159 := by kernel_rfl
  rw [h] at hf
  cases hf
  exact funcB_ok Tryz.func159 chk480

theorem ok478 (f : FuncId) (hf : fmOf fms env 478 = some f) : DefRel Tryz.prog (fmOf fms env) tree.get (.prim noEscapeD) f := by
  have h : fmOf fms env 478 = some 156 := by kernel_rfl
  rw [h] at hf
  cases hf
  exact prim_noEscape Tryz.func156 (by kernel_rfl) (by kernel_rfl) (by kernel_rfl) (by kernel_rfl)

theorem ok72 (f : FuncId) (hf : fmOf fms env 72 = some f) : DefRel Tryz.prog (fmOf fms env) tree.get (.prim indexByteD) f := by
  have h : fmOf fms env 72 = some 200 := by kernel_rfl
  rw [h] at hf
  cases hf
  exact prim_indexByte Tryz.func200 (by kernel_rfl) (by kernel_rfl) (by kernel_rfl) (by kernel_rfl)

theorem ok64 (f : FuncId) (hf : fmOf fms env 64 = some f) : DefRel Tryz.prog (fmOf fms env) tree.get (.prim countByteD) f := by
  have h : fmOf fms env 64 = some 154 := by kernel_rfl
  rw [h] at hf
  cases hf
  exact prim_countByte Tryz.func154 (by kernel_rfl) (by kernel_rfl) (by kernel_rfl) (by kernel_rfl)

theorem tabOk : TabRel Tryz.prog (fmOf fms env) tree.get := tabRel_tree (t := tree) ⟨⟨⟨⟨⟨⟨⟨ok10, ok13⟩, ⟨ok17, ⟨ok21, ok23⟩⟩⟩, ⟨⟨ok27, ⟨ok29, ok30⟩⟩, ⟨ok31, ⟨ok32, ok40⟩⟩⟩⟩, ⟨⟨⟨ok41, ⟨ok42, ok43⟩⟩, ⟨ok44, ⟨ok51, ok54⟩⟩⟩, ⟨⟨ok55, ⟨ok56, ok57⟩⟩, ⟨ok61, ⟨ok62, ok63⟩⟩⟩⟩⟩, ⟨⟨⟨⟨ok64, ok65⟩, ⟨ok68, ⟨ok69, ok70⟩⟩⟩, ⟨⟨ok72, ⟨ok73, ok74⟩⟩, ⟨ok76, ⟨ok77, ok78⟩⟩⟩⟩, ⟨⟨⟨ok106, ⟨ok108, ok109⟩⟩, ⟨ok110, ⟨ok113, ok114⟩⟩⟩, ⟨⟨ok117, ⟨ok118, ok120⟩⟩, ⟨ok121, ⟨ok122, ok123⟩⟩⟩⟩⟩⟩, ⟨⟨⟨⟨⟨ok124, ok126⟩, ⟨ok127, ⟨ok128, ok129⟩⟩⟩, ⟨⟨ok130, ⟨ok131, ok132⟩⟩, ⟨ok133, ⟨ok134, ok135⟩⟩⟩⟩, ⟨⟨⟨ok136, ⟨ok137, ok138⟩⟩, ⟨ok139, ⟨ok140, ok141⟩⟩⟩, ⟨⟨ok142, ⟨ok143, ok144⟩⟩, ⟨ok145, ⟨ok146, ok147⟩⟩⟩⟩⟩, ⟨⟨⟨⟨ok148, ok149⟩, ⟨ok150, ⟨ok151, ok152⟩⟩⟩, ⟨⟨ok153, ⟨ok154, ok155⟩⟩, ⟨ok156, ⟨ok157, ok158⟩⟩⟩⟩, ⟨⟨⟨ok159, ⟨ok160, ok161⟩⟩, ⟨ok162, ⟨ok163, ok164⟩⟩⟩, ⟨⟨ok165, ⟨ok166, ok167⟩⟩, ⟨ok211, ⟨ok218, ok234⟩⟩⟩⟩⟩⟩⟩, ⟨⟨⟨⟨⟨⟨ok242, ok243⟩, ⟨ok244, ⟨ok245, ok246⟩⟩⟩, ⟨⟨ok247, ⟨ok248, ok249⟩⟩, ⟨ok265, ⟨ok266, ok267⟩⟩⟩⟩, ⟨⟨⟨ok268, ⟨ok269, ok270⟩⟩, ⟨ok271, ⟨ok272, ok275⟩⟩⟩, ⟨⟨ok276, ⟨ok277, ok278⟩⟩, ⟨ok279, ⟨ok280, ok281⟩⟩⟩⟩⟩, ⟨⟨⟨⟨ok282, ok283⟩, ⟨ok284, ⟨ok285, ok286⟩⟩⟩, ⟨⟨ok287, ⟨ok288, ok289⟩⟩, ⟨ok290, ⟨ok291, ok292⟩⟩⟩⟩, ⟨⟨⟨ok293, ⟨ok294, ok295⟩⟩, ⟨ok296, ⟨ok297, ok298⟩⟩⟩, ⟨⟨ok299, ⟨ok307, ok319⟩⟩, ⟨ok320, ⟨ok321, ok322⟩⟩⟩⟩⟩⟩, ⟨⟨⟨⟨⟨ok330, ok331⟩, ⟨ok332, ⟨ok343, ok344⟩⟩⟩, ⟨⟨ok345, ⟨ok346, ok374⟩⟩, ⟨ok377, ⟨ok378, ok379⟩⟩⟩⟩, ⟨⟨⟨ok380, ⟨ok381, ok382⟩⟩, ⟨ok383, ⟨ok384, ok385⟩⟩⟩, ⟨⟨ok386, ⟨ok387, ok388⟩⟩, ⟨ok395, ⟨ok413, ok414⟩⟩⟩⟩⟩, ⟨⟨⟨⟨ok415, ⟨ok416, ok417⟩⟩, ⟨ok438, ⟨ok439, ok440⟩⟩⟩, ⟨⟨ok441, ⟨ok442, ok443⟩⟩, ⟨ok444, ⟨ok445, ok446⟩⟩⟩⟩, ⟨⟨⟨ok463, ⟨ok464, ok465⟩⟩, ⟨ok466, ⟨ok467, ok472⟩⟩⟩, ⟨⟨ok473, ⟨ok474, ok475⟩⟩, ⟨ok478, ⟨ok479, ok480⟩⟩⟩⟩⟩⟩⟩⟩

end Go.D.Tab
