/-
The table is the program's code. Printed by wip/gen.
-/
import Derived.Test.YtkddchgeiiahdaaGreatDoorChecked
import Derived.Test.YtkddchgeiiahdaaGreatDoorTab
import Derived.KernelRfl
namespace Go.D.Tab
open Go.Proofs

theorem chk10 : funcB Tryz.prog (fmOf fms env) (isPure tree.get) f10 Tryz.f83 = true := by kernel_rfl
theorem ok10 (f : FuncId) (hf : fmOf fms env 10 = some f) : DefRel Tryz.prog (fmOf fms env) tree.get (.code f10) f := by
  have h : fmOf fms env 10 = some 83 := by kernel_rfl
  rw [h] at hf
  cases hf
  exact funcB_ok Tryz.func83 chk10

theorem chk13 : funcB Tryz.prog (fmOf fms env) (isPure tree.get) f13 Tryz.f46 = true := by kernel_rfl
theorem ok13 (f : FuncId) (hf : fmOf fms env 13 = some f) : DefRel Tryz.prog (fmOf fms env) tree.get (.code f13) f := by
  have h : fmOf fms env 13 = some 46 := by kernel_rfl
  rw [h] at hf
  cases hf
  exact funcB_ok Tryz.func46 chk13

theorem chk17 : funcB Tryz.prog (fmOf fms env) (isPure tree.get) f17 Tryz.f140 = true := by kernel_rfl
theorem ok17 (f : FuncId) (hf : fmOf fms env 17 = some f) : DefRel Tryz.prog (fmOf fms env) tree.get (.code f17) f := by
  have h : fmOf fms env 17 = some 140 := by kernel_rfl
  rw [h] at hf
  cases hf
  exact funcB_ok Tryz.func140 chk17

theorem chk21 : funcB Tryz.prog (fmOf fms env) (isPure tree.get) f21 Tryz.f182 = true := by kernel_rfl
theorem ok21 (f : FuncId) (hf : fmOf fms env 21 = some f) : DefRel Tryz.prog (fmOf fms env) tree.get (.code f21) f := by
  have h : fmOf fms env 21 = some 182 := by kernel_rfl
  rw [h] at hf
  cases hf
  exact funcB_ok Tryz.func182 chk21

theorem chk23 : funcB Tryz.prog (fmOf fms env) (isPure tree.get) f23 Tryz.f139 = true := by kernel_rfl
theorem ok23 (f : FuncId) (hf : fmOf fms env 23 = some f) : DefRel Tryz.prog (fmOf fms env) tree.get (.code f23) f := by
  have h : fmOf fms env 23 = some 139 := by kernel_rfl
  rw [h] at hf
  cases hf
  exact funcB_ok Tryz.func139 chk23

theorem chk27 : funcB Tryz.prog (fmOf fms env) (isPure tree.get) f27 Tryz.f76 = true := by kernel_rfl
theorem ok27 (f : FuncId) (hf : fmOf fms env 27 = some f) : DefRel Tryz.prog (fmOf fms env) tree.get (.code f27) f := by
  have h : fmOf fms env 27 = some 76 := by kernel_rfl
  rw [h] at hf
  cases hf
  exact funcB_ok Tryz.func76 chk27

theorem chk29 : funcB Tryz.prog (fmOf fms env) (isPure tree.get) f29 Tryz.f133 = true := by kernel_rfl
theorem ok29 (f : FuncId) (hf : fmOf fms env 29 = some f) : DefRel Tryz.prog (fmOf fms env) tree.get (.code f29) f := by
  have h : fmOf fms env 29 = some 133 := by kernel_rfl
  rw [h] at hf
  cases hf
  exact funcB_ok Tryz.func133 chk29

theorem chk30 : funcB Tryz.prog (fmOf fms env) (isPure tree.get) f30 Tryz.f134 = true := by kernel_rfl
theorem ok30 (f : FuncId) (hf : fmOf fms env 30 = some f) : DefRel Tryz.prog (fmOf fms env) tree.get (.code f30) f := by
  have h : fmOf fms env 30 = some 134 := by kernel_rfl
  rw [h] at hf
  cases hf
  exact funcB_ok Tryz.func134 chk30

theorem chk31 : funcB Tryz.prog (fmOf fms env) (isPure tree.get) f31 Tryz.f135 = true := by kernel_rfl
theorem ok31 (f : FuncId) (hf : fmOf fms env 31 = some f) : DefRel Tryz.prog (fmOf fms env) tree.get (.code f31) f := by
  have h : fmOf fms env 31 = some 135 := by kernel_rfl
  rw [h] at hf
  cases hf
  exact funcB_ok Tryz.func135 chk31

theorem chk32 : funcB Tryz.prog (fmOf fms env) (isPure tree.get) f32 Tryz.f136 = true := by kernel_rfl
theorem ok32 (f : FuncId) (hf : fmOf fms env 32 = some f) : DefRel Tryz.prog (fmOf fms env) tree.get (.code f32) f := by
  have h : fmOf fms env 32 = some 136 := by kernel_rfl
  rw [h] at hf
  cases hf
  exact funcB_ok Tryz.func136 chk32

theorem chk40 : funcB Tryz.prog (fmOf fms env) (isPure tree.get) f40 Tryz.f77 = true := by kernel_rfl
theorem ok40 (f : FuncId) (hf : fmOf fms env 40 = some f) : DefRel Tryz.prog (fmOf fms env) tree.get (.code f40) f := by
  have h : fmOf fms env 40 = some 77 := by kernel_rfl
  rw [h] at hf
  cases hf
  exact funcB_ok Tryz.func77 chk40

theorem chk41 : funcB Tryz.prog (fmOf fms env) (isPure tree.get) f41 Tryz.f78 = true := by kernel_rfl
theorem ok41 (f : FuncId) (hf : fmOf fms env 41 = some f) : DefRel Tryz.prog (fmOf fms env) tree.get (.code f41) f := by
  have h : fmOf fms env 41 = some 78 := by kernel_rfl
  rw [h] at hf
  cases hf
  exact funcB_ok Tryz.func78 chk41

theorem chk42 : funcB Tryz.prog (fmOf fms env) (isPure tree.get) f42 Tryz.f79 = true := by kernel_rfl
theorem ok42 (f : FuncId) (hf : fmOf fms env 42 = some f) : DefRel Tryz.prog (fmOf fms env) tree.get (.code f42) f := by
  have h : fmOf fms env 42 = some 79 := by kernel_rfl
  rw [h] at hf
  cases hf
  exact funcB_ok Tryz.func79 chk42

theorem chk43 : funcB Tryz.prog (fmOf fms env) (isPure tree.get) f43 Tryz.f80 = true := by kernel_rfl
theorem ok43 (f : FuncId) (hf : fmOf fms env 43 = some f) : DefRel Tryz.prog (fmOf fms env) tree.get (.code f43) f := by
  have h : fmOf fms env 43 = some 80 := by kernel_rfl
  rw [h] at hf
  cases hf
  exact funcB_ok Tryz.func80 chk43

theorem chk44 : funcB Tryz.prog (fmOf fms env) (isPure tree.get) f44 Tryz.f81 = true := by kernel_rfl
theorem ok44 (f : FuncId) (hf : fmOf fms env 44 = some f) : DefRel Tryz.prog (fmOf fms env) tree.get (.code f44) f := by
  have h : fmOf fms env 44 = some 81 := by kernel_rfl
  rw [h] at hf
  cases hf
  exact funcB_ok Tryz.func81 chk44

theorem chk51 : funcB Tryz.prog (fmOf fms env) (isPure tree.get) f51 Tryz.f190 = true := by kernel_rfl
theorem ok51 (f : FuncId) (hf : fmOf fms env 51 = some f) : DefRel Tryz.prog (fmOf fms env) tree.get (.code f51) f := by
  have h : fmOf fms env 51 = some 190 := by kernel_rfl
  rw [h] at hf
  cases hf
  exact funcB_ok Tryz.func190 chk51

theorem chk54 : funcB Tryz.prog (fmOf fms env) (isPure tree.get) f54 Tryz.f126 = true := by kernel_rfl
theorem ok54 (f : FuncId) (hf : fmOf fms env 54 = some f) : DefRel Tryz.prog (fmOf fms env) tree.get (.code f54) f := by
  have h : fmOf fms env 54 = some 126 := by kernel_rfl
  rw [h] at hf
  cases hf
  exact funcB_ok Tryz.func126 chk54

theorem chk55 : funcB Tryz.prog (fmOf fms env) (isPure tree.get) f55 Tryz.f127 = true := by kernel_rfl
theorem ok55 (f : FuncId) (hf : fmOf fms env 55 = some f) : DefRel Tryz.prog (fmOf fms env) tree.get (.code f55) f := by
  have h : fmOf fms env 55 = some 127 := by kernel_rfl
  rw [h] at hf
  cases hf
  exact funcB_ok Tryz.func127 chk55

theorem chk56 : funcB Tryz.prog (fmOf fms env) (isPure tree.get) f56 Tryz.f181 = true := by kernel_rfl
theorem ok56 (f : FuncId) (hf : fmOf fms env 56 = some f) : DefRel Tryz.prog (fmOf fms env) tree.get (.code f56) f := by
  have h : fmOf fms env 56 = some 181 := by kernel_rfl
  rw [h] at hf
  cases hf
  exact funcB_ok Tryz.func181 chk56

theorem chk57 : funcB Tryz.prog (fmOf fms env) (isPure tree.get) f57 Tryz.f183 = true := by kernel_rfl
theorem ok57 (f : FuncId) (hf : fmOf fms env 57 = some f) : DefRel Tryz.prog (fmOf fms env) tree.get (.code f57) f := by
  have h : fmOf fms env 57 = some 183 := by kernel_rfl
  rw [h] at hf
  cases hf
  exact funcB_ok Tryz.func183 chk57

theorem chk61 : funcB Tryz.prog (fmOf fms env) (isPure tree.get) f61 Tryz.f128 = true := by kernel_rfl
theorem ok61 (f : FuncId) (hf : fmOf fms env 61 = some f) : DefRel Tryz.prog (fmOf fms env) tree.get (.code f61) f := by
  have h : fmOf fms env 61 = some 128 := by kernel_rfl
  rw [h] at hf
  cases hf
  exact funcB_ok Tryz.func128 chk61

theorem chk62 : funcB Tryz.prog (fmOf fms env) (isPure tree.get) f62 Tryz.f129 = true := by kernel_rfl
theorem ok62 (f : FuncId) (hf : fmOf fms env 62 = some f) : DefRel Tryz.prog (fmOf fms env) tree.get (.code f62) f := by
  have h : fmOf fms env 62 = some 129 := by kernel_rfl
  rw [h] at hf
  cases hf
  exact funcB_ok Tryz.func129 chk62

theorem chk63 : funcB Tryz.prog (fmOf fms env) (isPure tree.get) f63 Tryz.f130 = true := by kernel_rfl
theorem ok63 (f : FuncId) (hf : fmOf fms env 63 = some f) : DefRel Tryz.prog (fmOf fms env) tree.get (.code f63) f := by
  have h : fmOf fms env 63 = some 130 := by kernel_rfl
  rw [h] at hf
  cases hf
  exact funcB_ok Tryz.func130 chk63

theorem chk65 : funcB Tryz.prog (fmOf fms env) (isPure tree.get) f65 Tryz.f132 = true := by kernel_rfl
theorem ok65 (f : FuncId) (hf : fmOf fms env 65 = some f) : DefRel Tryz.prog (fmOf fms env) tree.get (.code f65) f := by
  have h : fmOf fms env 65 = some 132 := by kernel_rfl
  rw [h] at hf
  cases hf
  exact funcB_ok Tryz.func132 chk65

theorem chk68 : funcB Tryz.prog (fmOf fms env) (isPure tree.get) f68 Tryz.f176 = true := by kernel_rfl
theorem ok68 (f : FuncId) (hf : fmOf fms env 68 = some f) : DefRel Tryz.prog (fmOf fms env) tree.get (.code f68) f := by
  have h : fmOf fms env 68 = some 176 := by kernel_rfl
  rw [h] at hf
  cases hf
  exact funcB_ok Tryz.func176 chk68

theorem chk69 : funcB Tryz.prog (fmOf fms env) (isPure tree.get) f69 Tryz.f177 = true := by kernel_rfl
theorem ok69 (f : FuncId) (hf : fmOf fms env 69 = some f) : DefRel Tryz.prog (fmOf fms env) tree.get (.code f69) f := by
  have h : fmOf fms env 69 = some 177 := by kernel_rfl
  rw [h] at hf
  cases hf
  exact funcB_ok Tryz.func177 chk69

theorem chk70 : funcB Tryz.prog (fmOf fms env) (isPure tree.get) f70 Tryz.f178 = true := by kernel_rfl
theorem ok70 (f : FuncId) (hf : fmOf fms env 70 = some f) : DefRel Tryz.prog (fmOf fms env) tree.get (.code f70) f := by
  have h : fmOf fms env 70 = some 178 := by kernel_rfl
  rw [h] at hf
  cases hf
  exact funcB_ok Tryz.func178 chk70

theorem chk73 : funcB Tryz.prog (fmOf fms env) (isPure tree.get) f73 Tryz.f180 = true := by kernel_rfl
theorem ok73 (f : FuncId) (hf : fmOf fms env 73 = some f) : DefRel Tryz.prog (fmOf fms env) tree.get (.code f73) f := by
  have h : fmOf fms env 73 = some 180 := by kernel_rfl
  rw [h] at hf
  cases hf
  exact funcB_ok Tryz.func180 chk73

theorem chk74 : funcB Tryz.prog (fmOf fms env) (isPure tree.get) f74 Tryz.f212 = true := by kernel_rfl
theorem ok74 (f : FuncId) (hf : fmOf fms env 74 = some f) : DefRel Tryz.prog (fmOf fms env) tree.get (.code f74) f := by
  have h : fmOf fms env 74 = some 212 := by kernel_rfl
  rw [h] at hf
  cases hf
  exact funcB_ok Tryz.func212 chk74

theorem chk76 : funcB Tryz.prog (fmOf fms env) (isPure tree.get) f76 Tryz.f214 = true := by kernel_rfl
theorem ok76 (f : FuncId) (hf : fmOf fms env 76 = some f) : DefRel Tryz.prog (fmOf fms env) tree.get (.code f76) f := by
  have h : fmOf fms env 76 = some 214 := by kernel_rfl
  rw [h] at hf
  cases hf
  exact funcB_ok Tryz.func214 chk76

theorem chk77 : funcB Tryz.prog (fmOf fms env) (isPure tree.get) f77 Tryz.f215 = true := by kernel_rfl
theorem ok77 (f : FuncId) (hf : fmOf fms env 77 = some f) : DefRel Tryz.prog (fmOf fms env) tree.get (.code f77) f := by
  have h : fmOf fms env 77 = some 215 := by kernel_rfl
  rw [h] at hf
  cases hf
  exact funcB_ok Tryz.func215 chk77

theorem chk78 : funcB Tryz.prog (fmOf fms env) (isPure tree.get) f78 Tryz.f231 = true := by kernel_rfl
theorem ok78 (f : FuncId) (hf : fmOf fms env 78 = some f) : DefRel Tryz.prog (fmOf fms env) tree.get (.code f78) f := by
  have h : fmOf fms env 78 = some 231 := by kernel_rfl
  rw [h] at hf
  cases hf
  exact funcB_ok Tryz.func231 chk78

theorem chk106 : funcB Tryz.prog (fmOf fms env) (isPure tree.get) f106 Tryz.f32 = true := by kernel_rfl
theorem ok106 (f : FuncId) (hf : fmOf fms env 106 = some f) : DefRel Tryz.prog (fmOf fms env) tree.get (.code f106) f := by
  have h : fmOf fms env 106 = some 32 := by kernel_rfl
  rw [h] at hf
  cases hf
  exact funcB_ok Tryz.func32 chk106

theorem chk108 : funcB Tryz.prog (fmOf fms env) (isPure tree.get) f108 Tryz.f53 = true := by kernel_rfl
theorem ok108 (f : FuncId) (hf : fmOf fms env 108 = some f) : DefRel Tryz.prog (fmOf fms env) tree.get (.code f108) f := by
  have h : fmOf fms env 108 = some 53 := by kernel_rfl
  rw [h] at hf
  cases hf
  exact funcB_ok Tryz.func53 chk108

theorem chk109 : funcB Tryz.prog (fmOf fms env) (isPure tree.get) f109 Tryz.f97 = true := by kernel_rfl
theorem ok109 (f : FuncId) (hf : fmOf fms env 109 = some f) : DefRel Tryz.prog (fmOf fms env) tree.get (.code f109) f := by
  have h : fmOf fms env 109 = some 97 := by kernel_rfl
  rw [h] at hf
  cases hf
  exact funcB_ok Tryz.func97 chk109

theorem chk110 : funcB Tryz.prog (fmOf fms env) (isPure tree.get) f110 Tryz.f192 = true := by kernel_rfl
theorem ok110 (f : FuncId) (hf : fmOf fms env 110 = some f) : DefRel Tryz.prog (fmOf fms env) tree.get (.code f110) f := by
  have h : fmOf fms env 110 = some 192 := by kernel_rfl
  rw [h] at hf
  cases hf
  exact funcB_ok Tryz.func192 chk110

theorem chk113 : funcB Tryz.prog (fmOf fms env) (isPure tree.get) f113 Tryz.f52 = true := by kernel_rfl
theorem ok113 (f : FuncId) (hf : fmOf fms env 113 = some f) : DefRel Tryz.prog (fmOf fms env) tree.get (.code f113) f := by
  have h : fmOf fms env 113 = some 52 := by kernel_rfl
  rw [h] at hf
  cases hf
  exact funcB_ok Tryz.func52 chk113

theorem chk114 : funcB Tryz.prog (fmOf fms env) (isPure tree.get) f114 Tryz.f35 = true := by kernel_rfl
theorem ok114 (f : FuncId) (hf : fmOf fms env 114 = some f) : DefRel Tryz.prog (fmOf fms env) tree.get (.code f114) f := by
  have h : fmOf fms env 114 = some 35 := by kernel_rfl
  rw [h] at hf
  cases hf
  exact funcB_ok Tryz.func35 chk114

theorem chk117 : funcB Tryz.prog (fmOf fms env) (isPure tree.get) f117 Tryz.f48 = true := by kernel_rfl
theorem ok117 (f : FuncId) (hf : fmOf fms env 117 = some f) : DefRel Tryz.prog (fmOf fms env) tree.get (.code f117) f := by
  have h : fmOf fms env 117 = some 48 := by kernel_rfl
  rw [h] at hf
  cases hf
  exact funcB_ok Tryz.func48 chk117

theorem chk118 : funcB Tryz.prog (fmOf fms env) (isPure tree.get) f118 Tryz.f49 = true := by kernel_rfl
theorem ok118 (f : FuncId) (hf : fmOf fms env 118 = some f) : DefRel Tryz.prog (fmOf fms env) tree.get (.code f118) f := by
  have h : fmOf fms env 118 = some 49 := by kernel_rfl
  rw [h] at hf
  cases hf
  exact funcB_ok Tryz.func49 chk118

theorem chk120 : funcB Tryz.prog (fmOf fms env) (isPure tree.get) f120 Tryz.f142 = true := by kernel_rfl
theorem ok120 (f : FuncId) (hf : fmOf fms env 120 = some f) : DefRel Tryz.prog (fmOf fms env) tree.get (.code f120) f := by
  have h : fmOf fms env 120 = some 142 := by kernel_rfl
  rw [h] at hf
  cases hf
  exact funcB_ok Tryz.func142 chk120

theorem chk121 : funcB Tryz.prog (fmOf fms env) (isPure tree.get) f121 Tryz.f55 = true := by kernel_rfl
theorem ok121 (f : FuncId) (hf : fmOf fms env 121 = some f) : DefRel Tryz.prog (fmOf fms env) tree.get (.code f121) f := by
  have h : fmOf fms env 121 = some 55 := by kernel_rfl
  rw [h] at hf
  cases hf
  exact funcB_ok Tryz.func55 chk121

theorem chk122 : funcB Tryz.prog (fmOf fms env) (isPure tree.get) f122 Tryz.f191 = true := by kernel_rfl
theorem ok122 (f : FuncId) (hf : fmOf fms env 122 = some f) : DefRel Tryz.prog (fmOf fms env) tree.get (.code f122) f := by
  have h : fmOf fms env 122 = some 191 := by kernel_rfl
  rw [h] at hf
  cases hf
  exact funcB_ok Tryz.func191 chk122

theorem chk123 : funcB Tryz.prog (fmOf fms env) (isPure tree.get) f123 Tryz.f56 = true := by kernel_rfl
theorem ok123 (f : FuncId) (hf : fmOf fms env 123 = some f) : DefRel Tryz.prog (fmOf fms env) tree.get (.code f123) f := by
  have h : fmOf fms env 123 = some 56 := by kernel_rfl
  rw [h] at hf
  cases hf
  exact funcB_ok Tryz.func56 chk123

theorem chk124 : funcB Tryz.prog (fmOf fms env) (isPure tree.get) f124 Tryz.f222 = true := by kernel_rfl
theorem ok124 (f : FuncId) (hf : fmOf fms env 124 = some f) : DefRel Tryz.prog (fmOf fms env) tree.get (.code f124) f := by
  have h : fmOf fms env 124 = some 222 := by kernel_rfl
  rw [h] at hf
  cases hf
  exact funcB_ok Tryz.func222 chk124

theorem chk126 : funcB Tryz.prog (fmOf fms env) (isPure tree.get) f126 Tryz.f47 = true := by kernel_rfl
theorem ok126 (f : FuncId) (hf : fmOf fms env 126 = some f) : DefRel Tryz.prog (fmOf fms env) tree.get (.code f126) f := by
  have h : fmOf fms env 126 = some 47 := by kernel_rfl
  rw [h] at hf
  cases hf
  exact funcB_ok Tryz.func47 chk126

theorem chk127 : funcB Tryz.prog (fmOf fms env) (isPure tree.get) f127 Tryz.f98 = true := by kernel_rfl
theorem ok127 (f : FuncId) (hf : fmOf fms env 127 = some f) : DefRel Tryz.prog (fmOf fms env) tree.get (.code f127) f := by
  have h : fmOf fms env 127 = some 98 := by kernel_rfl
  rw [h] at hf
  cases hf
  exact funcB_ok Tryz.func98 chk127

theorem chk128 : funcB Tryz.prog (fmOf fms env) (isPure tree.get) f128 Tryz.f99 = true := by kernel_rfl
theorem ok128 (f : FuncId) (hf : fmOf fms env 128 = some f) : DefRel Tryz.prog (fmOf fms env) tree.get (.code f128) f := by
  have h : fmOf fms env 128 = some 99 := by kernel_rfl
  rw [h] at hf
  cases hf
  exact funcB_ok Tryz.func99 chk128

theorem chk129 : funcB Tryz.prog (fmOf fms env) (isPure tree.get) f129 Tryz.f100 = true := by kernel_rfl
theorem ok129 (f : FuncId) (hf : fmOf fms env 129 = some f) : DefRel Tryz.prog (fmOf fms env) tree.get (.code f129) f := by
  have h : fmOf fms env 129 = some 100 := by kernel_rfl
  rw [h] at hf
  cases hf
  exact funcB_ok Tryz.func100 chk129

theorem chk130 : funcB Tryz.prog (fmOf fms env) (isPure tree.get) f130 Tryz.f101 = true := by kernel_rfl
theorem ok130 (f : FuncId) (hf : fmOf fms env 130 = some f) : DefRel Tryz.prog (fmOf fms env) tree.get (.code f130) f := by
  have h : fmOf fms env 130 = some 101 := by kernel_rfl
  rw [h] at hf
  cases hf
  exact funcB_ok Tryz.func101 chk130

theorem chk131 : funcB Tryz.prog (fmOf fms env) (isPure tree.get) f131 Tryz.f84 = true := by kernel_rfl
theorem ok131 (f : FuncId) (hf : fmOf fms env 131 = some f) : DefRel Tryz.prog (fmOf fms env) tree.get (.code f131) f := by
  have h : fmOf fms env 131 = some 84 := by kernel_rfl
  rw [h] at hf
  cases hf
  exact funcB_ok Tryz.func84 chk131

theorem chk132 : funcB Tryz.prog (fmOf fms env) (isPure tree.get) f132 Tryz.f85 = true := by kernel_rfl
theorem ok132 (f : FuncId) (hf : fmOf fms env 132 = some f) : DefRel Tryz.prog (fmOf fms env) tree.get (.code f132) f := by
  have h : fmOf fms env 132 = some 85 := by kernel_rfl
  rw [h] at hf
  cases hf
  exact funcB_ok Tryz.func85 chk132

theorem chk133 : funcB Tryz.prog (fmOf fms env) (isPure tree.get) f133 Tryz.f86 = true := by kernel_rfl
theorem ok133 (f : FuncId) (hf : fmOf fms env 133 = some f) : DefRel Tryz.prog (fmOf fms env) tree.get (.code f133) f := by
  have h : fmOf fms env 133 = some 86 := by kernel_rfl
  rw [h] at hf
  cases hf
  exact funcB_ok Tryz.func86 chk133

theorem chk134 : funcB Tryz.prog (fmOf fms env) (isPure tree.get) f134 Tryz.f87 = true := by kernel_rfl
theorem ok134 (f : FuncId) (hf : fmOf fms env 134 = some f) : DefRel Tryz.prog (fmOf fms env) tree.get (.code f134) f := by
  have h : fmOf fms env 134 = some 87 := by kernel_rfl
  rw [h] at hf
  cases hf
  exact funcB_ok Tryz.func87 chk134

theorem chk135 : funcB Tryz.prog (fmOf fms env) (isPure tree.get) f135 Tryz.f88 = true := by kernel_rfl
theorem ok135 (f : FuncId) (hf : fmOf fms env 135 = some f) : DefRel Tryz.prog (fmOf fms env) tree.get (.code f135) f := by
  have h : fmOf fms env 135 = some 88 := by kernel_rfl
  rw [h] at hf
  cases hf
  exact funcB_ok Tryz.func88 chk135

theorem chk136 : funcB Tryz.prog (fmOf fms env) (isPure tree.get) f136 Tryz.f89 = true := by kernel_rfl
theorem ok136 (f : FuncId) (hf : fmOf fms env 136 = some f) : DefRel Tryz.prog (fmOf fms env) tree.get (.code f136) f := by
  have h : fmOf fms env 136 = some 89 := by kernel_rfl
  rw [h] at hf
  cases hf
  exact funcB_ok Tryz.func89 chk136

theorem chk137 : funcB Tryz.prog (fmOf fms env) (isPure tree.get) f137 Tryz.f90 = true := by kernel_rfl
theorem ok137 (f : FuncId) (hf : fmOf fms env 137 = some f) : DefRel Tryz.prog (fmOf fms env) tree.get (.code f137) f := by
  have h : fmOf fms env 137 = some 90 := by kernel_rfl
  rw [h] at hf
  cases hf
  exact funcB_ok Tryz.func90 chk137

theorem chk138 : funcB Tryz.prog (fmOf fms env) (isPure tree.get) f138 Tryz.f91 = true := by kernel_rfl
theorem ok138 (f : FuncId) (hf : fmOf fms env 138 = some f) : DefRel Tryz.prog (fmOf fms env) tree.get (.code f138) f := by
  have h : fmOf fms env 138 = some 91 := by kernel_rfl
  rw [h] at hf
  cases hf
  exact funcB_ok Tryz.func91 chk138

theorem chk139 : funcB Tryz.prog (fmOf fms env) (isPure tree.get) f139 Tryz.f235 = true := by kernel_rfl
theorem ok139 (f : FuncId) (hf : fmOf fms env 139 = some f) : DefRel Tryz.prog (fmOf fms env) tree.get (.code f139) f := by
  have h : fmOf fms env 139 = some 235 := by kernel_rfl
  rw [h] at hf
  cases hf
  exact funcB_ok Tryz.func235 chk139

theorem chk140 : funcB Tryz.prog (fmOf fms env) (isPure tree.get) f140 Tryz.f82 = true := by kernel_rfl
theorem ok140 (f : FuncId) (hf : fmOf fms env 140 = some f) : DefRel Tryz.prog (fmOf fms env) tree.get (.code f140) f := by
  have h : fmOf fms env 140 = some 82 := by kernel_rfl
  rw [h] at hf
  cases hf
  exact funcB_ok Tryz.func82 chk140

theorem chk141 : funcB Tryz.prog (fmOf fms env) (isPure tree.get) f141 Tryz.f143 = true := by kernel_rfl
theorem ok141 (f : FuncId) (hf : fmOf fms env 141 = some f) : DefRel Tryz.prog (fmOf fms env) tree.get (.code f141) f := by
  have h : fmOf fms env 141 = some 143 := by kernel_rfl
  rw [h] at hf
  cases hf
  exact funcB_ok Tryz.func143 chk141

theorem chk142 : funcB Tryz.prog (fmOf fms env) (isPure tree.get) f142 Tryz.f144 = true := by kernel_rfl
theorem ok142 (f : FuncId) (hf : fmOf fms env 142 = some f) : DefRel Tryz.prog (fmOf fms env) tree.get (.code f142) f := by
  have h : fmOf fms env 142 = some 144 := by kernel_rfl
  rw [h] at hf
  cases hf
  exact funcB_ok Tryz.func144 chk142

theorem chk143 : funcB Tryz.prog (fmOf fms env) (isPure tree.get) f143 Tryz.f137 = true := by kernel_rfl
theorem ok143 (f : FuncId) (hf : fmOf fms env 143 = some f) : DefRel Tryz.prog (fmOf fms env) tree.get (.code f143) f := by
  have h : fmOf fms env 143 = some 137 := by kernel_rfl
  rw [h] at hf
  cases hf
  exact funcB_ok Tryz.func137 chk143

theorem chk144 : funcB Tryz.prog (fmOf fms env) (isPure tree.get) f144 Tryz.f138 = true := by kernel_rfl
theorem ok144 (f : FuncId) (hf : fmOf fms env 144 = some f) : DefRel Tryz.prog (fmOf fms env) tree.get (.code f144) f := by
  have h : fmOf fms env 144 = some 138 := by kernel_rfl
  rw [h] at hf
  cases hf
  exact funcB_ok Tryz.func138 chk144

theorem chk145 : funcB Tryz.prog (fmOf fms env) (isPure tree.get) f145 Tryz.f249 = true := by kernel_rfl
theorem ok145 (f : FuncId) (hf : fmOf fms env 145 = some f) : DefRel Tryz.prog (fmOf fms env) tree.get (.code f145) f := by
  have h : fmOf fms env 145 = some 249 := by kernel_rfl
  rw [h] at hf
  cases hf
  exact funcB_ok Tryz.func249 chk145

theorem chk146 : funcB Tryz.prog (fmOf fms env) (isPure tree.get) f146 Tryz.f250 = true := by kernel_rfl
theorem ok146 (f : FuncId) (hf : fmOf fms env 146 = some f) : DefRel Tryz.prog (fmOf fms env) tree.get (.code f146) f := by
  have h : fmOf fms env 146 = some 250 := by kernel_rfl
  rw [h] at hf
  cases hf
  exact funcB_ok Tryz.func250 chk146

theorem chk147 : funcB Tryz.prog (fmOf fms env) (isPure tree.get) f147 Tryz.f184 = true := by kernel_rfl
theorem ok147 (f : FuncId) (hf : fmOf fms env 147 = some f) : DefRel Tryz.prog (fmOf fms env) tree.get (.code f147) f := by
  have h : fmOf fms env 147 = some 184 := by kernel_rfl
  rw [h] at hf
  cases hf
  exact funcB_ok Tryz.func184 chk147

theorem chk148 : funcB Tryz.prog (fmOf fms env) (isPure tree.get) f148 Tryz.f185 = true := by kernel_rfl
theorem ok148 (f : FuncId) (hf : fmOf fms env 148 = some f) : DefRel Tryz.prog (fmOf fms env) tree.get (.code f148) f := by
  have h : fmOf fms env 148 = some 185 := by kernel_rfl
  rw [h] at hf
  cases hf
  exact funcB_ok Tryz.func185 chk148

theorem chk149 : funcB Tryz.prog (fmOf fms env) (isPure tree.get) f149 Tryz.f186 = true := by kernel_rfl
theorem ok149 (f : FuncId) (hf : fmOf fms env 149 = some f) : DefRel Tryz.prog (fmOf fms env) tree.get (.code f149) f := by
  have h : fmOf fms env 149 = some 186 := by kernel_rfl
  rw [h] at hf
  cases hf
  exact funcB_ok Tryz.func186 chk149

theorem chk150 : funcB Tryz.prog (fmOf fms env) (isPure tree.get) f150 Tryz.f187 = true := by kernel_rfl
theorem ok150 (f : FuncId) (hf : fmOf fms env 150 = some f) : DefRel Tryz.prog (fmOf fms env) tree.get (.code f150) f := by
  have h : fmOf fms env 150 = some 187 := by kernel_rfl
  rw [h] at hf
  cases hf
  exact funcB_ok Tryz.func187 chk150

theorem chk151 : funcB Tryz.prog (fmOf fms env) (isPure tree.get) f151 Tryz.f188 = true := by kernel_rfl
theorem ok151 (f : FuncId) (hf : fmOf fms env 151 = some f) : DefRel Tryz.prog (fmOf fms env) tree.get (.code f151) f := by
  have h : fmOf fms env 151 = some 188 := by kernel_rfl
  rw [h] at hf
  cases hf
  exact funcB_ok Tryz.func188 chk151

theorem chk152 : funcB Tryz.prog (fmOf fms env) (isPure tree.get) f152 Tryz.f189 = true := by kernel_rfl
theorem ok152 (f : FuncId) (hf : fmOf fms env 152 = some f) : DefRel Tryz.prog (fmOf fms env) tree.get (.code f152) f := by
  have h : fmOf fms env 152 = some 189 := by kernel_rfl
  rw [h] at hf
  cases hf
  exact funcB_ok Tryz.func189 chk152

theorem chk153 : funcB Tryz.prog (fmOf fms env) (isPure tree.get) f153 Tryz.f256 = true := by kernel_rfl
theorem ok153 (f : FuncId) (hf : fmOf fms env 153 = some f) : DefRel Tryz.prog (fmOf fms env) tree.get (.code f153) f := by
  have h : fmOf fms env 153 = some 256 := by kernel_rfl
  rw [h] at hf
  cases hf
  exact funcB_ok Tryz.func256 chk153

theorem chk154 : funcB Tryz.prog (fmOf fms env) (isPure tree.get) f154 Tryz.f257 = true := by kernel_rfl
theorem ok154 (f : FuncId) (hf : fmOf fms env 154 = some f) : DefRel Tryz.prog (fmOf fms env) tree.get (.code f154) f := by
  have h : fmOf fms env 154 = some 257 := by kernel_rfl
  rw [h] at hf
  cases hf
  exact funcB_ok Tryz.func257 chk154

theorem chk155 : funcB Tryz.prog (fmOf fms env) (isPure tree.get) f155 Tryz.f198 = true := by kernel_rfl
theorem ok155 (f : FuncId) (hf : fmOf fms env 155 = some f) : DefRel Tryz.prog (fmOf fms env) tree.get (.code f155) f := by
  have h : fmOf fms env 155 = some 198 := by kernel_rfl
  rw [h] at hf
  cases hf
  exact funcB_ok Tryz.func198 chk155

theorem chk156 : funcB Tryz.prog (fmOf fms env) (isPure tree.get) f156 Tryz.f216 = true := by kernel_rfl
theorem ok156 (f : FuncId) (hf : fmOf fms env 156 = some f) : DefRel Tryz.prog (fmOf fms env) tree.get (.code f156) f := by
  have h : fmOf fms env 156 = some 216 := by kernel_rfl
  rw [h] at hf
  cases hf
  exact funcB_ok Tryz.func216 chk156

theorem chk157 : funcB Tryz.prog (fmOf fms env) (isPure tree.get) f157 Tryz.f217 = true := by kernel_rfl
theorem ok157 (f : FuncId) (hf : fmOf fms env 157 = some f) : DefRel Tryz.prog (fmOf fms env) tree.get (.code f157) f := by
  have h : fmOf fms env 157 = some 217 := by kernel_rfl
  rw [h] at hf
  cases hf
  exact funcB_ok Tryz.func217 chk157

theorem chk158 : funcB Tryz.prog (fmOf fms env) (isPure tree.get) f158 Tryz.f218 = true := by kernel_rfl
theorem ok158 (f : FuncId) (hf : fmOf fms env 158 = some f) : DefRel Tryz.prog (fmOf fms env) tree.get (.code f158) f := by
  have h : fmOf fms env 158 = some 218 := by kernel_rfl
  rw [h] at hf
  cases hf
  exact funcB_ok Tryz.func218 chk158

theorem chk159 : funcB Tryz.prog (fmOf fms env) (isPure tree.get) f159 Tryz.f219 = true := by kernel_rfl
theorem ok159 (f : FuncId) (hf : fmOf fms env 159 = some f) : DefRel Tryz.prog (fmOf fms env) tree.get (.code f159) f := by
  have h : fmOf fms env 159 = some 219 := by kernel_rfl
  rw [h] at hf
  cases hf
  exact funcB_ok Tryz.func219 chk159

theorem chk160 : funcB Tryz.prog (fmOf fms env) (isPure tree.get) f160 Tryz.f220 = true := by kernel_rfl
theorem ok160 (f : FuncId) (hf : fmOf fms env 160 = some f) : DefRel Tryz.prog (fmOf fms env) tree.get (.code f160) f := by
  have h : fmOf fms env 160 = some 220 := by kernel_rfl
  rw [h] at hf
  cases hf
  exact funcB_ok Tryz.func220 chk160

theorem chk161 : funcB Tryz.prog (fmOf fms env) (isPure tree.get) f161 Tryz.f221 = true := by kernel_rfl
theorem ok161 (f : FuncId) (hf : fmOf fms env 161 = some f) : DefRel Tryz.prog (fmOf fms env) tree.get (.code f161) f := by
  have h : fmOf fms env 161 = some 221 := by kernel_rfl
  rw [h] at hf
  cases hf
  exact funcB_ok Tryz.func221 chk161

theorem chk162 : funcB Tryz.prog (fmOf fms env) (isPure tree.get) f162 Tryz.f227 = true := by kernel_rfl
theorem ok162 (f : FuncId) (hf : fmOf fms env 162 = some f) : DefRel Tryz.prog (fmOf fms env) tree.get (.code f162) f := by
  have h : fmOf fms env 162 = some 227 := by kernel_rfl
  rw [h] at hf
  cases hf
  exact funcB_ok Tryz.func227 chk162

theorem chk163 : funcB Tryz.prog (fmOf fms env) (isPure tree.get) f163 Tryz.f232 = true := by kernel_rfl
theorem ok163 (f : FuncId) (hf : fmOf fms env 163 = some f) : DefRel Tryz.prog (fmOf fms env) tree.get (.code f163) f := by
  have h : fmOf fms env 163 = some 232 := by kernel_rfl
  rw [h] at hf
  cases hf
  exact funcB_ok Tryz.func232 chk163

theorem chk164 : funcB Tryz.prog (fmOf fms env) (isPure tree.get) f164 Tryz.f233 = true := by kernel_rfl
theorem ok164 (f : FuncId) (hf : fmOf fms env 164 = some f) : DefRel Tryz.prog (fmOf fms env) tree.get (.code f164) f := by
  have h : fmOf fms env 164 = some 233 := by kernel_rfl
  rw [h] at hf
  cases hf
  exact funcB_ok Tryz.func233 chk164

theorem chk165 : funcB Tryz.prog (fmOf fms env) (isPure tree.get) f165 Tryz.f234 = true := by kernel_rfl
theorem ok165 (f : FuncId) (hf : fmOf fms env 165 = some f) : DefRel Tryz.prog (fmOf fms env) tree.get (.code f165) f := by
  have h : fmOf fms env 165 = some 234 := by kernel_rfl
  rw [h] at hf
  cases hf
  exact funcB_ok Tryz.func234 chk165

theorem chk166 : funcB Tryz.prog (fmOf fms env) (isPure tree.get) f166 Tryz.f247 = true := by kernel_rfl
theorem ok166 (f : FuncId) (hf : fmOf fms env 166 = some f) : DefRel Tryz.prog (fmOf fms env) tree.get (.code f166) f := by
  have h : fmOf fms env 166 = some 247 := by kernel_rfl
  rw [h] at hf
  cases hf
  exact funcB_ok Tryz.func247 chk166

theorem chk167 : funcB Tryz.prog (fmOf fms env) (isPure tree.get) f167 Tryz.f248 = true := by kernel_rfl
theorem ok167 (f : FuncId) (hf : fmOf fms env 167 = some f) : DefRel Tryz.prog (fmOf fms env) tree.get (.code f167) f := by
  have h : fmOf fms env 167 = some 248 := by kernel_rfl
  rw [h] at hf
  cases hf
  exact funcB_ok Tryz.func248 chk167

theorem chk211 : funcB Tryz.prog (fmOf fms env) (isPure tree.get) f211 Tryz.f92 = true := by kernel_rfl
theorem ok211 (f : FuncId) (hf : fmOf fms env 211 = some f) : DefRel Tryz.prog (fmOf fms env) tree.get (.code f211) f := by
  have h : fmOf fms env 211 = some 92 := by kernel_rfl
  rw [h] at hf
  cases hf
  exact funcB_ok Tryz.func92 chk211

theorem chk218 : funcB Tryz.prog (fmOf fms env) (isPure tree.get) f218 Tryz.f102 = true := by kernel_rfl
theorem ok218 (f : FuncId) (hf : fmOf fms env 218 = some f) : DefRel Tryz.prog (fmOf fms env) tree.get (.code f218) f := by
  have h : fmOf fms env 218 = some 102 := by kernel_rfl
  rw [h] at hf
  cases hf
  exact funcB_ok Tryz.func102 chk218

theorem chk234 : funcB Tryz.prog (fmOf fms env) (isPure tree.get) f234 Tryz.f141 = true := by kernel_rfl
theorem ok234 (f : FuncId) (hf : fmOf fms env 234 = some f) : DefRel Tryz.prog (fmOf fms env) tree.get (.code f234) f := by
  have h : fmOf fms env 234 = some 141 := by kernel_rfl
  rw [h] at hf
  cases hf
  exact funcB_ok Tryz.func141 chk234

theorem chk242 : funcB Tryz.prog (fmOf fms env) (isPure tree.get) f242 Tryz.f145 = true := by kernel_rfl
theorem ok242 (f : FuncId) (hf : fmOf fms env 242 = some f) : DefRel Tryz.prog (fmOf fms env) tree.get (.code f242) f := by
  have h : fmOf fms env 242 = some 145 := by kernel_rfl
  rw [h] at hf
  cases hf
  exact funcB_ok Tryz.func145 chk242

theorem chk243 : funcB Tryz.prog (fmOf fms env) (isPure tree.get) f243 Tryz.f146 = true := by kernel_rfl
theorem ok243 (f : FuncId) (hf : fmOf fms env 243 = some f) : DefRel Tryz.prog (fmOf fms env) tree.get (.code f243) f := by
  have h : fmOf fms env 243 = some 146 := by kernel_rfl
  rw [h] at hf
  cases hf
  exact funcB_ok Tryz.func146 chk243

theorem chk244 : funcB Tryz.prog (fmOf fms env) (isPure tree.get) f244 Tryz.f147 = true := by kernel_rfl
theorem ok244 (f : FuncId) (hf : fmOf fms env 244 = some f) : DefRel Tryz.prog (fmOf fms env) tree.get (.code f244) f := by
  have h : fmOf fms env 244 = some 147 := by kernel_rfl
  rw [h] at hf
  cases hf
  exact funcB_ok Tryz.func147 chk244

theorem chk245 : funcB Tryz.prog (fmOf fms env) (isPure tree.get) f245 Tryz.f148 = true := by kernel_rfl
theorem ok245 (f : FuncId) (hf : fmOf fms env 245 = some f) : DefRel Tryz.prog (fmOf fms env) tree.get (.code f245) f := by
  have h : fmOf fms env 245 = some 148 := by kernel_rfl
  rw [h] at hf
  cases hf
  exact funcB_ok Tryz.func148 chk245

theorem chk246 : funcB Tryz.prog (fmOf fms env) (isPure tree.get) f246 Tryz.f149 = true := by kernel_rfl
theorem ok246 (f : FuncId) (hf : fmOf fms env 246 = some f) : DefRel Tryz.prog (fmOf fms env) tree.get (.code f246) f := by
  have h : fmOf fms env 246 = some 149 := by kernel_rfl
  rw [h] at hf
  cases hf
  exact funcB_ok Tryz.func149 chk246

theorem chk247 : funcB Tryz.prog (fmOf fms env) (isPure tree.get) f247 Tryz.f150 = true := by kernel_rfl
theorem ok247 (f : FuncId) (hf : fmOf fms env 247 = some f) : DefRel Tryz.prog (fmOf fms env) tree.get (.code f247) f := by
  have h : fmOf fms env 247 = some 150 := by kernel_rfl
  rw [h] at hf
  cases hf
  exact funcB_ok Tryz.func150 chk247

theorem chk248 : funcB Tryz.prog (fmOf fms env) (isPure tree.get) f248 Tryz.f151 = true := by kernel_rfl
theorem ok248 (f : FuncId) (hf : fmOf fms env 248 = some f) : DefRel Tryz.prog (fmOf fms env) tree.get (.code f248) f := by
  have h : fmOf fms env 248 = some 151 := by kernel_rfl
  rw [h] at hf
  cases hf
  exact funcB_ok Tryz.func151 chk248

theorem chk249 : funcB Tryz.prog (fmOf fms env) (isPure tree.get) f249 Tryz.f152 = true := by kernel_rfl
theorem ok249 (f : FuncId) (hf : fmOf fms env 249 = some f) : DefRel Tryz.prog (fmOf fms env) tree.get (.code f249) f := by
  have h : fmOf fms env 249 = some 152 := by kernel_rfl
  rw [h] at hf
  cases hf
  exact funcB_ok Tryz.func152 chk249

theorem chk265 : funcB Tryz.prog (fmOf fms env) (isPure tree.get) f265 Tryz.f193 = true := by kernel_rfl
theorem ok265 (f : FuncId) (hf : fmOf fms env 265 = some f) : DefRel Tryz.prog (fmOf fms env) tree.get (.code f265) f := by
  have h : fmOf fms env 265 = some 193 := by kernel_rfl
  rw [h] at hf
  cases hf
  exact funcB_ok Tryz.func193 chk265

theorem chk266 : funcB Tryz.prog (fmOf fms env) (isPure tree.get) f266 Tryz.f194 = true := by kernel_rfl
theorem ok266 (f : FuncId) (hf : fmOf fms env 266 = some f) : DefRel Tryz.prog (fmOf fms env) tree.get (.code f266) f := by
  have h : fmOf fms env 266 = some 194 := by kernel_rfl
  rw [h] at hf
  cases hf
  exact funcB_ok Tryz.func194 chk266

theorem chk267 : funcB Tryz.prog (fmOf fms env) (isPure tree.get) f267 Tryz.f195 = true := by kernel_rfl
theorem ok267 (f : FuncId) (hf : fmOf fms env 267 = some f) : DefRel Tryz.prog (fmOf fms env) tree.get (.code f267) f := by
  have h : fmOf fms env 267 = some 195 := by kernel_rfl
  rw [h] at hf
  cases hf
  exact funcB_ok Tryz.func195 chk267

theorem chk268 : funcB Tryz.prog (fmOf fms env) (isPure tree.get) f268 Tryz.f196 = true := by kernel_rfl
theorem ok268 (f : FuncId) (hf : fmOf fms env 268 = some f) : DefRel Tryz.prog (fmOf fms env) tree.get (.code f268) f := by
  have h : fmOf fms env 268 = some 196 := by kernel_rfl
  rw [h] at hf
  cases hf
  exact funcB_ok Tryz.func196 chk268

theorem chk269 : funcB Tryz.prog (fmOf fms env) (isPure tree.get) f269 Tryz.f197 = true := by kernel_rfl
theorem ok269 (f : FuncId) (hf : fmOf fms env 269 = some f) : DefRel Tryz.prog (fmOf fms env) tree.get (.code f269) f := by
  have h : fmOf fms env 269 = some 197 := by kernel_rfl
  rw [h] at hf
  cases hf
  exact funcB_ok Tryz.func197 chk269

theorem chk270 : funcB Tryz.prog (fmOf fms env) (isPure tree.get) f270 Tryz.f199 = true := by kernel_rfl
theorem ok270 (f : FuncId) (hf : fmOf fms env 270 = some f) : DefRel Tryz.prog (fmOf fms env) tree.get (.code f270) f := by
  have h : fmOf fms env 270 = some 199 := by kernel_rfl
  rw [h] at hf
  cases hf
  exact funcB_ok Tryz.func199 chk270

theorem chk271 : funcB Tryz.prog (fmOf fms env) (isPure tree.get) f271 Tryz.f200 = true := by kernel_rfl
theorem ok271 (f : FuncId) (hf : fmOf fms env 271 = some f) : DefRel Tryz.prog (fmOf fms env) tree.get (.code f271) f := by
  have h : fmOf fms env 271 = some 200 := by kernel_rfl
  rw [h] at hf
  cases hf
  exact funcB_ok Tryz.func200 chk271

theorem chk272 : funcB Tryz.prog (fmOf fms env) (isPure tree.get) f272 Tryz.f201 = true := by kernel_rfl
theorem ok272 (f : FuncId) (hf : fmOf fms env 272 = some f) : DefRel Tryz.prog (fmOf fms env) tree.get (.code f272) f := by
  have h : fmOf fms env 272 = some 201 := by kernel_rfl
  rw [h] at hf
  cases hf
  exact funcB_ok Tryz.func201 chk272

theorem chk275 : funcB Tryz.prog (fmOf fms env) (isPure tree.get) f275 Tryz.f223 = true := by kernel_rfl
theorem ok275 (f : FuncId) (hf : fmOf fms env 275 = some f) : DefRel Tryz.prog (fmOf fms env) tree.get (.code f275) f := by
  have h : fmOf fms env 275 = some 223 := by kernel_rfl
  rw [h] at hf
  cases hf
  exact funcB_ok Tryz.func223 chk275

theorem chk276 : funcB Tryz.prog (fmOf fms env) (isPure tree.get) f276 Tryz.f224 = true := by kernel_rfl
theorem ok276 (f : FuncId) (hf : fmOf fms env 276 = some f) : DefRel Tryz.prog (fmOf fms env) tree.get (.code f276) f := by
  have h : fmOf fms env 276 = some 224 := by kernel_rfl
  rw [h] at hf
  cases hf
  exact funcB_ok Tryz.func224 chk276

theorem chk277 : funcB Tryz.prog (fmOf fms env) (isPure tree.get) f277 Tryz.f225 = true := by kernel_rfl
theorem ok277 (f : FuncId) (hf : fmOf fms env 277 = some f) : DefRel Tryz.prog (fmOf fms env) tree.get (.code f277) f := by
  have h : fmOf fms env 277 = some 225 := by kernel_rfl
  rw [h] at hf
  cases hf
  exact funcB_ok Tryz.func225 chk277

theorem chk278 : funcB Tryz.prog (fmOf fms env) (isPure tree.get) f278 Tryz.f226 = true := by kernel_rfl
theorem ok278 (f : FuncId) (hf : fmOf fms env 278 = some f) : DefRel Tryz.prog (fmOf fms env) tree.get (.code f278) f := by
  have h : fmOf fms env 278 = some 226 := by kernel_rfl
  rw [h] at hf
  cases hf
  exact funcB_ok Tryz.func226 chk278

theorem chk279 : funcB Tryz.prog (fmOf fms env) (isPure tree.get) f279 Tryz.f228 = true := by kernel_rfl
theorem ok279 (f : FuncId) (hf : fmOf fms env 279 = some f) : DefRel Tryz.prog (fmOf fms env) tree.get (.code f279) f := by
  have h : fmOf fms env 279 = some 228 := by kernel_rfl
  rw [h] at hf
  cases hf
  exact funcB_ok Tryz.func228 chk279

theorem chk280 : funcB Tryz.prog (fmOf fms env) (isPure tree.get) f280 Tryz.f229 = true := by kernel_rfl
theorem ok280 (f : FuncId) (hf : fmOf fms env 280 = some f) : DefRel Tryz.prog (fmOf fms env) tree.get (.code f280) f := by
  have h : fmOf fms env 280 = some 229 := by kernel_rfl
  rw [h] at hf
  cases hf
  exact funcB_ok Tryz.func229 chk280

theorem chk281 : funcB Tryz.prog (fmOf fms env) (isPure tree.get) f281 Tryz.f230 = true := by kernel_rfl
theorem ok281 (f : FuncId) (hf : fmOf fms env 281 = some f) : DefRel Tryz.prog (fmOf fms env) tree.get (.code f281) f := by
  have h : fmOf fms env 281 = some 230 := by kernel_rfl
  rw [h] at hf
  cases hf
  exact funcB_ok Tryz.func230 chk281

theorem chk282 : funcB Tryz.prog (fmOf fms env) (isPure tree.get) f282 Tryz.f236 = true := by kernel_rfl
theorem ok282 (f : FuncId) (hf : fmOf fms env 282 = some f) : DefRel Tryz.prog (fmOf fms env) tree.get (.code f282) f := by
  have h : fmOf fms env 282 = some 236 := by kernel_rfl
  rw [h] at hf
  cases hf
  exact funcB_ok Tryz.func236 chk282

theorem chk283 : funcB Tryz.prog (fmOf fms env) (isPure tree.get) f283 Tryz.f237 = true := by kernel_rfl
theorem ok283 (f : FuncId) (hf : fmOf fms env 283 = some f) : DefRel Tryz.prog (fmOf fms env) tree.get (.code f283) f := by
  have h : fmOf fms env 283 = some 237 := by kernel_rfl
  rw [h] at hf
  cases hf
  exact funcB_ok Tryz.func237 chk283

theorem chk284 : funcB Tryz.prog (fmOf fms env) (isPure tree.get) f284 Tryz.f238 = true := by kernel_rfl
theorem ok284 (f : FuncId) (hf : fmOf fms env 284 = some f) : DefRel Tryz.prog (fmOf fms env) tree.get (.code f284) f := by
  have h : fmOf fms env 284 = some 238 := by kernel_rfl
  rw [h] at hf
  cases hf
  exact funcB_ok Tryz.func238 chk284

theorem chk285 : funcB Tryz.prog (fmOf fms env) (isPure tree.get) f285 Tryz.f239 = true := by kernel_rfl
theorem ok285 (f : FuncId) (hf : fmOf fms env 285 = some f) : DefRel Tryz.prog (fmOf fms env) tree.get (.code f285) f := by
  have h : fmOf fms env 285 = some 239 := by kernel_rfl
  rw [h] at hf
  cases hf
  exact funcB_ok Tryz.func239 chk285

theorem chk286 : funcB Tryz.prog (fmOf fms env) (isPure tree.get) f286 Tryz.f240 = true := by kernel_rfl
theorem ok286 (f : FuncId) (hf : fmOf fms env 286 = some f) : DefRel Tryz.prog (fmOf fms env) tree.get (.code f286) f := by
  have h : fmOf fms env 286 = some 240 := by kernel_rfl
  rw [h] at hf
  cases hf
  exact funcB_ok Tryz.func240 chk286

theorem chk287 : funcB Tryz.prog (fmOf fms env) (isPure tree.get) f287 Tryz.f241 = true := by kernel_rfl
theorem ok287 (f : FuncId) (hf : fmOf fms env 287 = some f) : DefRel Tryz.prog (fmOf fms env) tree.get (.code f287) f := by
  have h : fmOf fms env 287 = some 241 := by kernel_rfl
  rw [h] at hf
  cases hf
  exact funcB_ok Tryz.func241 chk287

theorem chk288 : funcB Tryz.prog (fmOf fms env) (isPure tree.get) f288 Tryz.f242 = true := by kernel_rfl
theorem ok288 (f : FuncId) (hf : fmOf fms env 288 = some f) : DefRel Tryz.prog (fmOf fms env) tree.get (.code f288) f := by
  have h : fmOf fms env 288 = some 242 := by kernel_rfl
  rw [h] at hf
  cases hf
  exact funcB_ok Tryz.func242 chk288

theorem chk289 : funcB Tryz.prog (fmOf fms env) (isPure tree.get) f289 Tryz.f243 = true := by kernel_rfl
theorem ok289 (f : FuncId) (hf : fmOf fms env 289 = some f) : DefRel Tryz.prog (fmOf fms env) tree.get (.code f289) f := by
  have h : fmOf fms env 289 = some 243 := by kernel_rfl
  rw [h] at hf
  cases hf
  exact funcB_ok Tryz.func243 chk289

theorem chk290 : funcB Tryz.prog (fmOf fms env) (isPure tree.get) f290 Tryz.f244 = true := by kernel_rfl
theorem ok290 (f : FuncId) (hf : fmOf fms env 290 = some f) : DefRel Tryz.prog (fmOf fms env) tree.get (.code f290) f := by
  have h : fmOf fms env 290 = some 244 := by kernel_rfl
  rw [h] at hf
  cases hf
  exact funcB_ok Tryz.func244 chk290

theorem chk291 : funcB Tryz.prog (fmOf fms env) (isPure tree.get) f291 Tryz.f245 = true := by kernel_rfl
theorem ok291 (f : FuncId) (hf : fmOf fms env 291 = some f) : DefRel Tryz.prog (fmOf fms env) tree.get (.code f291) f := by
  have h : fmOf fms env 291 = some 245 := by kernel_rfl
  rw [h] at hf
  cases hf
  exact funcB_ok Tryz.func245 chk291

theorem chk292 : funcB Tryz.prog (fmOf fms env) (isPure tree.get) f292 Tryz.f246 = true := by kernel_rfl
theorem ok292 (f : FuncId) (hf : fmOf fms env 292 = some f) : DefRel Tryz.prog (fmOf fms env) tree.get (.code f292) f := by
  have h : fmOf fms env 292 = some 246 := by kernel_rfl
  rw [h] at hf
  cases hf
  exact funcB_ok Tryz.func246 chk292

theorem chk293 : funcB Tryz.prog (fmOf fms env) (isPure tree.get) f293 Tryz.f172 = true := by kernel_rfl
theorem ok293 (f : FuncId) (hf : fmOf fms env 293 = some f) : DefRel Tryz.prog (fmOf fms env) tree.get (.code f293) f := by
  have h : fmOf fms env 293 = some 172 := by kernel_rfl
  rw [h] at hf
  cases hf
  exact funcB_ok Tryz.func172 chk293

theorem chk294 : funcB Tryz.prog (fmOf fms env) (isPure tree.get) f294 Tryz.f251 = true := by kernel_rfl
theorem ok294 (f : FuncId) (hf : fmOf fms env 294 = some f) : DefRel Tryz.prog (fmOf fms env) tree.get (.code f294) f := by
  have h : fmOf fms env 294 = some 251 := by kernel_rfl
  rw [h] at hf
  cases hf
  exact funcB_ok Tryz.func251 chk294

theorem chk295 : funcB Tryz.prog (fmOf fms env) (isPure tree.get) f295 Tryz.f252 = true := by kernel_rfl
theorem ok295 (f : FuncId) (hf : fmOf fms env 295 = some f) : DefRel Tryz.prog (fmOf fms env) tree.get (.code f295) f := by
  have h : fmOf fms env 295 = some 252 := by kernel_rfl
  rw [h] at hf
  cases hf
  exact funcB_ok Tryz.func252 chk295

theorem chk296 : funcB Tryz.prog (fmOf fms env) (isPure tree.get) f296 Tryz.f253 = true := by kernel_rfl
theorem ok296 (f : FuncId) (hf : fmOf fms env 296 = some f) : DefRel Tryz.prog (fmOf fms env) tree.get (.code f296) f := by
  have h : fmOf fms env 296 = some 253 := by kernel_rfl
  rw [h] at hf
  cases hf
  exact funcB_ok Tryz.func253 chk296

theorem chk297 : funcB Tryz.prog (fmOf fms env) (isPure tree.get) f297 Tryz.f254 = true := by kernel_rfl
theorem ok297 (f : FuncId) (hf : fmOf fms env 297 = some f) : DefRel Tryz.prog (fmOf fms env) tree.get (.code f297) f := by
  have h : fmOf fms env 297 = some 254 := by kernel_rfl
  rw [h] at hf
  cases hf
  exact funcB_ok Tryz.func254 chk297

theorem chk298 : funcB Tryz.prog (fmOf fms env) (isPure tree.get) f298 Tryz.f255 = true := by kernel_rfl
theorem ok298 (f : FuncId) (hf : fmOf fms env 298 = some f) : DefRel Tryz.prog (fmOf fms env) tree.get (.code f298) f := by
  have h : fmOf fms env 298 = some 255 := by kernel_rfl
  rw [h] at hf
  cases hf
  exact funcB_ok Tryz.func255 chk298

theorem chk299 : funcB Tryz.prog (fmOf fms env) (isPure tree.get) f299 Tryz.f258 = true := by kernel_rfl
theorem ok299 (f : FuncId) (hf : fmOf fms env 299 = some f) : DefRel Tryz.prog (fmOf fms env) tree.get (.code f299) f := by
  have h : fmOf fms env 299 = some 258 := by kernel_rfl
  rw [h] at hf
  cases hf
  exact funcB_ok Tryz.func258 chk299

theorem chk307 : funcB Tryz.prog (fmOf fms env) (isPure tree.get) f307 Tryz.f24 = true := by kernel_rfl
theorem ok307 (f : FuncId) (hf : fmOf fms env 307 = some f) : DefRel Tryz.prog (fmOf fms env) tree.get (.code f307) f := by
  have h : fmOf fms env 307 = some 24 := by kernel_rfl
  rw [h] at hf
  cases hf
  exact funcB_ok Tryz.func24 chk307

theorem chk309 : funcB Tryz.prog (fmOf fms env) (isPure tree.get) f309 Tryz.f9 = true := by kernel_rfl
theorem ok309 (f : FuncId) (hf : fmOf fms env 309 = some f) : DefRel Tryz.prog (fmOf fms env) tree.get (.code f309) f := by
  have h : fmOf fms env 309 = some 9 := by kernel_rfl
  rw [h] at hf
  cases hf
  exact funcB_ok Tryz.func9 chk309

theorem chk317 : funcB Tryz.prog (fmOf fms env) (isPure tree.get) f317 Tryz.f12 = true := by kernel_rfl
theorem ok317 (f : FuncId) (hf : fmOf fms env 317 = some f) : DefRel Tryz.prog (fmOf fms env) tree.get (.code f317) f := by
  have h : fmOf fms env 317 = some 12 := by kernel_rfl
  rw [h] at hf
  cases hf
  exact funcB_ok Tryz.func12 chk317

theorem chk319 : funcB Tryz.prog (fmOf fms env) (isPure tree.get) f319 Tryz.f31 = true := by kernel_rfl
theorem ok319 (f : FuncId) (hf : fmOf fms env 319 = some f) : DefRel Tryz.prog (fmOf fms env) tree.get (.code f319) f := by
  have h : fmOf fms env 319 = some 31 := by kernel_rfl
  rw [h] at hf
  cases hf
  exact funcB_ok Tryz.func31 chk319

theorem chk320 : funcB Tryz.prog (fmOf fms env) (isPure tree.get) f320 Tryz.f33 = true := by kernel_rfl
theorem ok320 (f : FuncId) (hf : fmOf fms env 320 = some f) : DefRel Tryz.prog (fmOf fms env) tree.get (.code f320) f := by
  have h : fmOf fms env 320 = some 33 := by kernel_rfl
  rw [h] at hf
  cases hf
  exact funcB_ok Tryz.func33 chk320

theorem chk321 : funcB Tryz.prog (fmOf fms env) (isPure tree.get) f321 Tryz.f34 = true := by kernel_rfl
theorem ok321 (f : FuncId) (hf : fmOf fms env 321 = some f) : DefRel Tryz.prog (fmOf fms env) tree.get (.code f321) f := by
  have h : fmOf fms env 321 = some 34 := by kernel_rfl
  rw [h] at hf
  cases hf
  exact funcB_ok Tryz.func34 chk321

theorem chk322 : funcB Tryz.prog (fmOf fms env) (isPure tree.get) f322 Tryz.f36 = true := by kernel_rfl
theorem ok322 (f : FuncId) (hf : fmOf fms env 322 = some f) : DefRel Tryz.prog (fmOf fms env) tree.get (.code f322) f := by
  have h : fmOf fms env 322 = some 36 := by kernel_rfl
  rw [h] at hf
  cases hf
  exact funcB_ok Tryz.func36 chk322

theorem chk330 : funcB Tryz.prog (fmOf fms env) (isPure tree.get) f330 Tryz.f50 = true := by kernel_rfl
theorem ok330 (f : FuncId) (hf : fmOf fms env 330 = some f) : DefRel Tryz.prog (fmOf fms env) tree.get (.code f330) f := by
  have h : fmOf fms env 330 = some 50 := by kernel_rfl
  rw [h] at hf
  cases hf
  exact funcB_ok Tryz.func50 chk330

theorem chk331 : funcB Tryz.prog (fmOf fms env) (isPure tree.get) f331 Tryz.f51 = true := by kernel_rfl
theorem ok331 (f : FuncId) (hf : fmOf fms env 331 = some f) : DefRel Tryz.prog (fmOf fms env) tree.get (.code f331) f := by
  have h : fmOf fms env 331 = some 51 := by kernel_rfl
  rw [h] at hf
  cases hf
  exact funcB_ok Tryz.func51 chk331

theorem chk332 : funcB Tryz.prog (fmOf fms env) (isPure tree.get) f332 Tryz.f54 = true := by kernel_rfl
theorem ok332 (f : FuncId) (hf : fmOf fms env 332 = some f) : DefRel Tryz.prog (fmOf fms env) tree.get (.code f332) f := by
  have h : fmOf fms env 332 = some 54 := by kernel_rfl
  rw [h] at hf
  cases hf
  exact funcB_ok Tryz.func54 chk332

theorem chk343 : funcB Tryz.prog (fmOf fms env) (isPure tree.get) f343 Tryz.f93 = true := by kernel_rfl
theorem ok343 (f : FuncId) (hf : fmOf fms env 343 = some f) : DefRel Tryz.prog (fmOf fms env) tree.get (.code f343) f := by
  have h : fmOf fms env 343 = some 93 := by kernel_rfl
  rw [h] at hf
  cases hf
  exact funcB_ok Tryz.func93 chk343

theorem chk344 : funcB Tryz.prog (fmOf fms env) (isPure tree.get) f344 Tryz.f94 = true := by kernel_rfl
theorem ok344 (f : FuncId) (hf : fmOf fms env 344 = some f) : DefRel Tryz.prog (fmOf fms env) tree.get (.code f344) f := by
  have h : fmOf fms env 344 = some 94 := by kernel_rfl
  rw [h] at hf
  cases hf
  exact funcB_ok Tryz.func94 chk344

theorem chk345 : funcB Tryz.prog (fmOf fms env) (isPure tree.get) f345 Tryz.f95 = true := by kernel_rfl
theorem ok345 (f : FuncId) (hf : fmOf fms env 345 = some f) : DefRel Tryz.prog (fmOf fms env) tree.get (.code f345) f := by
  have h : fmOf fms env 345 = some 95 := by kernel_rfl
  rw [h] at hf
  cases hf
  exact funcB_ok Tryz.func95 chk345

theorem chk346 : funcB Tryz.prog (fmOf fms env) (isPure tree.get) f346 Tryz.f96 = true := by kernel_rfl
theorem ok346 (f : FuncId) (hf : fmOf fms env 346 = some f) : DefRel Tryz.prog (fmOf fms env) tree.get (.code f346) f := by
  have h : fmOf fms env 346 = some 96 := by kernel_rfl
  rw [h] at hf
  cases hf
  exact funcB_ok Tryz.func96 chk346

theorem chk357 : funcB Tryz.prog (fmOf fms env) (isPure tree.get) f357 Tryz.f3 = true := by kernel_rfl
theorem ok357 (f : FuncId) (hf : fmOf fms env 357 = some f) : DefRel Tryz.prog (fmOf fms env) tree.get (.code f357) f := by
  have h : fmOf fms env 357 = some 3 := by kernel_rfl
  rw [h] at hf
  cases hf
  exact funcB_ok Tryz.func3 chk357

theorem chk361 : funcB Tryz.prog (fmOf fms env) (isPure tree.get) f361 Tryz.f7 = true := by kernel_rfl
theorem ok361 (f : FuncId) (hf : fmOf fms env 361 = some f) : DefRel Tryz.prog (fmOf fms env) tree.get (.code f361) f := by
  have h : fmOf fms env 361 = some 7 := by kernel_rfl
  rw [h] at hf
  cases hf
  exact funcB_ok Tryz.func7 chk361

theorem chk362 : funcB Tryz.prog (fmOf fms env) (isPure tree.get) f362 Tryz.f8 = true := by kernel_rfl
theorem ok362 (f : FuncId) (hf : fmOf fms env 362 = some f) : DefRel Tryz.prog (fmOf fms env) tree.get (.code f362) f := by
  have h : fmOf fms env 362 = some 8 := by kernel_rfl
  rw [h] at hf
  cases hf
  exact funcB_ok Tryz.func8 chk362

theorem chk363 : funcB Tryz.prog (fmOf fms env) (isPure tree.get) f363 Tryz.f10 = true := by kernel_rfl
theorem ok363 (f : FuncId) (hf : fmOf fms env 363 = some f) : DefRel Tryz.prog (fmOf fms env) tree.get (.code f363) f := by
  have h : fmOf fms env 363 = some 10 := by kernel_rfl
  rw [h] at hf
  cases hf
  exact funcB_ok Tryz.func10 chk363

theorem chk364 : funcB Tryz.prog (fmOf fms env) (isPure tree.get) f364 Tryz.f11 = true := by kernel_rfl
theorem ok364 (f : FuncId) (hf : fmOf fms env 364 = some f) : DefRel Tryz.prog (fmOf fms env) tree.get (.code f364) f := by
  have h : fmOf fms env 364 = some 11 := by kernel_rfl
  rw [h] at hf
  cases hf
  exact funcB_ok Tryz.func11 chk364

theorem chk365 : funcB Tryz.prog (fmOf fms env) (isPure tree.get) f365 Tryz.f13 = true := by kernel_rfl
theorem ok365 (f : FuncId) (hf : fmOf fms env 365 = some f) : DefRel Tryz.prog (fmOf fms env) tree.get (.code f365) f := by
  have h : fmOf fms env 365 = some 13 := by kernel_rfl
  rw [h] at hf
  cases hf
  exact funcB_ok Tryz.func13 chk365

theorem chk367 : funcB Tryz.prog (fmOf fms env) (isPure tree.get) f367 Tryz.f15 = true := by kernel_rfl
theorem ok367 (f : FuncId) (hf : fmOf fms env 367 = some f) : DefRel Tryz.prog (fmOf fms env) tree.get (.code f367) f := by
  have h : fmOf fms env 367 = some 15 := by kernel_rfl
  rw [h] at hf
  cases hf
  exact funcB_ok Tryz.func15 chk367

theorem chk371 : funcB Tryz.prog (fmOf fms env) (isPure tree.get) f371 Tryz.f20 = true := by kernel_rfl
theorem ok371 (f : FuncId) (hf : fmOf fms env 371 = some f) : DefRel Tryz.prog (fmOf fms env) tree.get (.code f371) f := by
  have h : fmOf fms env 371 = some 20 := by kernel_rfl
  rw [h] at hf
  cases hf
  exact funcB_ok Tryz.func20 chk371

theorem chk376 : funcB Tryz.prog (fmOf fms env) (isPure tree.get) f376 Tryz.f30 = true := by kernel_rfl
theorem ok376 (f : FuncId) (hf : fmOf fms env 376 = some f) : DefRel Tryz.prog (fmOf fms env) tree.get (.code f376) f := by
  have h : fmOf fms env 376 = some 30 := by kernel_rfl
  rw [h] at hf
  cases hf
  exact funcB_ok Tryz.func30 chk376

theorem ok72 (f : FuncId) (hf : fmOf fms env 72 = some f) : DefRel Tryz.prog (fmOf fms env) tree.get (.prim indexByteD) f := by
  have h : fmOf fms env 72 = some 179 := by kernel_rfl
  rw [h] at hf
  cases hf
  exact prim_indexByte Tryz.func179 (by kernel_rfl) (by kernel_rfl) (by kernel_rfl) (by kernel_rfl)

theorem ok64 (f : FuncId) (hf : fmOf fms env 64 = some f) : DefRel Tryz.prog (fmOf fms env) tree.get (.prim countByteD) f := by
  have h : fmOf fms env 64 = some 131 := by kernel_rfl
  rw [h] at hf
  cases hf
  exact prim_countByte Tryz.func131 (by kernel_rfl) (by kernel_rfl) (by kernel_rfl) (by kernel_rfl)

theorem tabOk : TabRel Tryz.prog (fmOf fms env) tree.get := tabRel_tree (t := tree) ⟨⟨⟨⟨⟨⟨⟨ok10, ok13⟩, ⟨ok17, ok21⟩⟩, ⟨⟨ok23, ok27⟩, ⟨ok29, ⟨ok30, ok31⟩⟩⟩⟩, ⟨⟨⟨ok32, ok40⟩, ⟨ok41, ⟨ok42, ok43⟩⟩⟩, ⟨⟨ok44, ok51⟩, ⟨ok54, ⟨ok55, ok56⟩⟩⟩⟩⟩, ⟨⟨⟨⟨ok57, ok61⟩, ⟨ok62, ⟨ok63, ok64⟩⟩⟩, ⟨⟨ok65, ok68⟩, ⟨ok69, ⟨ok70, ok72⟩⟩⟩⟩, ⟨⟨⟨ok73, ok74⟩, ⟨ok76, ⟨ok77, ok78⟩⟩⟩, ⟨⟨ok106, ok108⟩, ⟨ok109, ⟨ok110, ok113⟩⟩⟩⟩⟩⟩, ⟨⟨⟨⟨⟨ok114, ok117⟩, ⟨ok118, ok120⟩⟩, ⟨⟨ok121, ok122⟩, ⟨ok123, ⟨ok124, ok126⟩⟩⟩⟩, ⟨⟨⟨ok127, ok128⟩, ⟨ok129, ⟨ok130, ok131⟩⟩⟩, ⟨⟨ok132, ok133⟩, ⟨ok134, ⟨ok135, ok136⟩⟩⟩⟩⟩, ⟨⟨⟨⟨ok137, ok138⟩, ⟨ok139, ⟨ok140, ok141⟩⟩⟩, ⟨⟨ok142, ok143⟩, ⟨ok144, ⟨ok145, ok146⟩⟩⟩⟩, ⟨⟨⟨ok147, ok148⟩, ⟨ok149, ⟨ok150, ok151⟩⟩⟩, ⟨⟨ok152, ok153⟩, ⟨ok154, ⟨ok155, ok156⟩⟩⟩⟩⟩⟩⟩, ⟨⟨⟨⟨⟨⟨ok157, ok158⟩, ⟨ok159, ok160⟩⟩, ⟨⟨ok161, ok162⟩, ⟨ok163, ⟨ok164, ok165⟩⟩⟩⟩, ⟨⟨⟨ok166, ok167⟩, ⟨ok211, ⟨ok218, ok234⟩⟩⟩, ⟨⟨ok242, ok243⟩, ⟨ok244, ⟨ok245, ok246⟩⟩⟩⟩⟩, ⟨⟨⟨⟨ok247, ok248⟩, ⟨ok249, ⟨ok265, ok266⟩⟩⟩, ⟨⟨ok267, ok268⟩, ⟨ok269, ⟨ok270, ok271⟩⟩⟩⟩, ⟨⟨⟨ok272, ok275⟩, ⟨ok276, ⟨ok277, ok278⟩⟩⟩, ⟨⟨ok279, ok280⟩, ⟨ok281, ⟨ok282, ok283⟩⟩⟩⟩⟩⟩, ⟨⟨⟨⟨⟨ok284, ok285⟩, ⟨ok286, ok287⟩⟩, ⟨⟨ok288, ok289⟩, ⟨ok290, ⟨ok291, ok292⟩⟩⟩⟩, ⟨⟨⟨ok293, ok294⟩, ⟨ok295, ⟨ok296, ok297⟩⟩⟩, ⟨⟨ok298, ok299⟩, ⟨ok307, ⟨ok309, ok317⟩⟩⟩⟩⟩, ⟨⟨⟨⟨ok319, ok320⟩, ⟨ok321, ⟨ok322, ok330⟩⟩⟩, ⟨⟨ok331, ok332⟩, ⟨ok343, ⟨ok344, ok345⟩⟩⟩⟩, ⟨⟨⟨ok346, ok357⟩, ⟨ok361, ⟨ok362, ok363⟩⟩⟩, ⟨⟨ok364, ok365⟩, ⟨ok367, ⟨ok371, ok376⟩⟩⟩⟩⟩⟩⟩⟩

end Go.D.Tab
