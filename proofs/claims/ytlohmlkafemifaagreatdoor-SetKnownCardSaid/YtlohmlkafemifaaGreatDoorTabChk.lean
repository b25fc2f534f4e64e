/-
The table is the program's code. Printed by wip/gen.
-/
import Derived.Test.YtlohmlkafemifaaGreatDoorChecked
import Derived.Test.YtlohmlkafemifaaGreatDoorTab
import Derived.KernelRfl
namespace Go.D.Tab
open Go.Proofs

theorem chk10 : funcB Tryz.prog (fmOf fms env) (isPure tree.get) f10 Tryz.f14 = true := by kernel_rfl
theorem ok10 (f : FuncId) (hf : fmOf fms env 10 = some f) : DefRel Tryz.prog (fmOf fms env) tree.get (.code f10) f := by
  have h : fmOf fms env 10 = some 14 := by kernel_rfl
  rw [h] at hf
  cases hf
  exact funcB_ok Tryz.func14 chk10

theorem chk13 : funcB Tryz.prog (fmOf fms env) (isPure tree.get) f13 Tryz.f29 = true := by kernel_rfl
theorem ok13 (f : FuncId) (hf : fmOf fms env 13 = some f) : DefRel Tryz.prog (fmOf fms env) tree.get (.code f13) f := by
  have h : fmOf fms env 13 = some 29 := by kernel_rfl
  rw [h] at hf
  cases hf
  exact funcB_ok Tryz.func29 chk13

theorem chk17 : funcB Tryz.prog (fmOf fms env) (isPure tree.get) f17 Tryz.f80 = true := by kernel_rfl
theorem ok17 (f : FuncId) (hf : fmOf fms env 17 = some f) : DefRel Tryz.prog (fmOf fms env) tree.get (.code f17) f := by
  have h : fmOf fms env 17 = some 80 := by kernel_rfl
  rw [h] at hf
  cases hf
  exact funcB_ok Tryz.func80 chk17

theorem chk21 : funcB Tryz.prog (fmOf fms env) (isPure tree.get) f21 Tryz.f87 = true := by kernel_rfl
theorem ok21 (f : FuncId) (hf : fmOf fms env 21 = some f) : DefRel Tryz.prog (fmOf fms env) tree.get (.code f21) f := by
  have h : fmOf fms env 21 = some 87 := by kernel_rfl
  rw [h] at hf
  cases hf
  exact funcB_ok Tryz.func87 chk21

theorem chk23 : funcB Tryz.prog (fmOf fms env) (isPure tree.get) f23 Tryz.f161 = true := by kernel_rfl
theorem ok23 (f : FuncId) (hf : fmOf fms env 23 = some f) : DefRel Tryz.prog (fmOf fms env) tree.get (.code f23) f := by
  have h : fmOf fms env 23 = some 161 := by kernel_rfl
  rw [h] at hf
  cases hf
  exact funcB_ok Tryz.func161 chk23

theorem chk26 : funcB Tryz.prog (fmOf fms env) (isPure tree.get) f26 Tryz.f28 = true := by kernel_rfl
theorem ok26 (f : FuncId) (hf : fmOf fms env 26 = some f) : DefRel Tryz.prog (fmOf fms env) tree.get (.code f26) f := by
  have h : fmOf fms env 26 = some 28 := by kernel_rfl
  rw [h] at hf
  cases hf
  exact funcB_ok Tryz.func28 chk26

theorem chk27 : funcB Tryz.prog (fmOf fms env) (isPure tree.get) f27 Tryz.f43 = true := by kernel_rfl
theorem ok27 (f : FuncId) (hf : fmOf fms env 27 = some f) : DefRel Tryz.prog (fmOf fms env) tree.get (.code f27) f := by
  have h : fmOf fms env 27 = some 43 := by kernel_rfl
  rw [h] at hf
  cases hf
  exact funcB_ok Tryz.func43 chk27

theorem chk29 : funcB Tryz.prog (fmOf fms env) (isPure tree.get) f29 Tryz.f44 = true := by kernel_rfl
theorem ok29 (f : FuncId) (hf : fmOf fms env 29 = some f) : DefRel Tryz.prog (fmOf fms env) tree.get (.code f29) f := by
  have h : fmOf fms env 29 = some 44 := by kernel_rfl
  rw [h] at hf
  cases hf
  exact funcB_ok Tryz.func44 chk29

theorem chk30 : funcB Tryz.prog (fmOf fms env) (isPure tree.get) f30 Tryz.f45 = true := by kernel_rfl
theorem ok30 (f : FuncId) (hf : fmOf fms env 30 = some f) : DefRel Tryz.prog (fmOf fms env) tree.get (.code f30) f := by
  have h : fmOf fms env 30 = some 45 := by kernel_rfl
  rw [h] at hf
  cases hf
  exact funcB_ok Tryz.func45 chk30

theorem chk31 : funcB Tryz.prog (fmOf fms env) (isPure tree.get) f31 Tryz.f46 = true := by kernel_rfl
theorem ok31 (f : FuncId) (hf : fmOf fms env 31 = some f) : DefRel Tryz.prog (fmOf fms env) tree.get (.code f31) f := by
  have h : fmOf fms env 31 = some 46 := by kernel_rfl
  rw [h] at hf
  cases hf
  exact funcB_ok Tryz.func46 chk31

theorem chk32 : funcB Tryz.prog (fmOf fms env) (isPure tree.get) f32 Tryz.f47 = true := by kernel_rfl
theorem ok32 (f : FuncId) (hf : fmOf fms env 32 = some f) : DefRel Tryz.prog (fmOf fms env) tree.get (.code f32) f := by
  have h : fmOf fms env 32 = some 47 := by kernel_rfl
  rw [h] at hf
  cases hf
  exact funcB_ok Tryz.func47 chk32

theorem chk40 : funcB Tryz.prog (fmOf fms env) (isPure tree.get) f40 Tryz.f73 = true := by kernel_rfl
theorem ok40 (f : FuncId) (hf : fmOf fms env 40 = some f) : DefRel Tryz.prog (fmOf fms env) tree.get (.code f40) f := by
  have h : fmOf fms env 40 = some 73 := by kernel_rfl
  rw [h] at hf
  cases hf
  exact funcB_ok Tryz.func73 chk40

theorem chk41 : funcB Tryz.prog (fmOf fms env) (isPure tree.get) f41 Tryz.f74 = true := by kernel_rfl
theorem ok41 (f : FuncId) (hf : fmOf fms env 41 = some f) : DefRel Tryz.prog (fmOf fms env) tree.get (.code f41) f := by
  have h : fmOf fms env 41 = some 74 := by kernel_rfl
  rw [h] at hf
  cases hf
  exact funcB_ok Tryz.func74 chk41

theorem chk42 : funcB Tryz.prog (fmOf fms env) (isPure tree.get) f42 Tryz.f75 = true := by kernel_rfl
theorem ok42 (f : FuncId) (hf : fmOf fms env 42 = some f) : DefRel Tryz.prog (fmOf fms env) tree.get (.code f42) f := by
  have h : fmOf fms env 42 = some 75 := by kernel_rfl
  rw [h] at hf
  cases hf
  exact funcB_ok Tryz.func75 chk42

theorem chk43 : funcB Tryz.prog (fmOf fms env) (isPure tree.get) f43 Tryz.f76 = true := by kernel_rfl
theorem ok43 (f : FuncId) (hf : fmOf fms env 43 = some f) : DefRel Tryz.prog (fmOf fms env) tree.get (.code f43) f := by
  have h : fmOf fms env 43 = some 76 := by kernel_rfl
  rw [h] at hf
  cases hf
  exact funcB_ok Tryz.func76 chk43

theorem chk44 : funcB Tryz.prog (fmOf fms env) (isPure tree.get) f44 Tryz.f77 = true := by kernel_rfl
theorem ok44 (f : FuncId) (hf : fmOf fms env 44 = some f) : DefRel Tryz.prog (fmOf fms env) tree.get (.code f44) f := by
  have h : fmOf fms env 44 = some 77 := by kernel_rfl
  rw [h] at hf
  cases hf
  exact funcB_ok Tryz.func77 chk44

theorem chk51 : funcB Tryz.prog (fmOf fms env) (isPure tree.get) f51 Tryz.f131 = true := by kernel_rfl
theorem ok51 (f : FuncId) (hf : fmOf fms env 51 = some f) : DefRel Tryz.prog (fmOf fms env) tree.get (.code f51) f := by
  have h : fmOf fms env 51 = some 131 := by kernel_rfl
  rw [h] at hf
  cases hf
  exact funcB_ok Tryz.func131 chk51

theorem chk54 : funcB Tryz.prog (fmOf fms env) (isPure tree.get) f54 Tryz.f85 = true := by kernel_rfl
theorem ok54 (f : FuncId) (hf : fmOf fms env 54 = some f) : DefRel Tryz.prog (fmOf fms env) tree.get (.code f54) f := by
  have h : fmOf fms env 54 = some 85 := by kernel_rfl
  rw [h] at hf
  cases hf
  exact funcB_ok Tryz.func85 chk54

theorem chk55 : funcB Tryz.prog (fmOf fms env) (isPure tree.get) f55 Tryz.f49 = true := by kernel_rfl
theorem ok55 (f : FuncId) (hf : fmOf fms env 55 = some f) : DefRel Tryz.prog (fmOf fms env) tree.get (.code f55) f := by
  have h : fmOf fms env 55 = some 49 := by kernel_rfl
  rw [h] at hf
  cases hf
  exact funcB_ok Tryz.func49 chk55

theorem chk56 : funcB Tryz.prog (fmOf fms env) (isPure tree.get) f56 Tryz.f86 = true := by kernel_rfl
theorem ok56 (f : FuncId) (hf : fmOf fms env 56 = some f) : DefRel Tryz.prog (fmOf fms env) tree.get (.code f56) f := by
  have h : fmOf fms env 56 = some 86 := by kernel_rfl
  rw [h] at hf
  cases hf
  exact funcB_ok Tryz.func86 chk56

theorem chk57 : funcB Tryz.prog (fmOf fms env) (isPure tree.get) f57 Tryz.f88 = true := by kernel_rfl
theorem ok57 (f : FuncId) (hf : fmOf fms env 57 = some f) : DefRel Tryz.prog (fmOf fms env) tree.get (.code f57) f := by
  have h : fmOf fms env 57 = some 88 := by kernel_rfl
  rw [h] at hf
  cases hf
  exact funcB_ok Tryz.func88 chk57

theorem chk61 : funcB Tryz.prog (fmOf fms env) (isPure tree.get) f61 Tryz.f126 = true := by kernel_rfl
theorem ok61 (f : FuncId) (hf : fmOf fms env 61 = some f) : DefRel Tryz.prog (fmOf fms env) tree.get (.code f61) f := by
  have h : fmOf fms env 61 = some 126 := by kernel_rfl
  rw [h] at hf
  cases hf
  exact funcB_ok Tryz.func126 chk61

theorem chk62 : funcB Tryz.prog (fmOf fms env) (isPure tree.get) f62 Tryz.f127 = true := by kernel_rfl
theorem ok62 (f : FuncId) (hf : fmOf fms env 62 = some f) : DefRel Tryz.prog (fmOf fms env) tree.get (.code f62) f := by
  have h : fmOf fms env 62 = some 127 := by kernel_rfl
  rw [h] at hf
  cases hf
  exact funcB_ok Tryz.func127 chk62

theorem chk65 : funcB Tryz.prog (fmOf fms env) (isPure tree.get) f65 Tryz.f130 = true := by kernel_rfl
theorem ok65 (f : FuncId) (hf : fmOf fms env 65 = some f) : DefRel Tryz.prog (fmOf fms env) tree.get (.code f65) f := by
  have h : fmOf fms env 65 = some 130 := by kernel_rfl
  rw [h] at hf
  cases hf
  exact funcB_ok Tryz.func130 chk65

theorem chk68 : funcB Tryz.prog (fmOf fms env) (isPure tree.get) f68 Tryz.f90 = true := by kernel_rfl
theorem ok68 (f : FuncId) (hf : fmOf fms env 68 = some f) : DefRel Tryz.prog (fmOf fms env) tree.get (.code f68) f := by
  have h : fmOf fms env 68 = some 90 := by kernel_rfl
  rw [h] at hf
  cases hf
  exact funcB_ok Tryz.func90 chk68

theorem chk69 : funcB Tryz.prog (fmOf fms env) (isPure tree.get) f69 Tryz.f89 = true := by kernel_rfl
theorem ok69 (f : FuncId) (hf : fmOf fms env 69 = some f) : DefRel Tryz.prog (fmOf fms env) tree.get (.code f69) f := by
  have h : fmOf fms env 69 = some 89 := by kernel_rfl
  rw [h] at hf
  cases hf
  exact funcB_ok Tryz.func89 chk69

theorem chk70 : funcB Tryz.prog (fmOf fms env) (isPure tree.get) f70 Tryz.f91 = true := by kernel_rfl
theorem ok70 (f : FuncId) (hf : fmOf fms env 70 = some f) : DefRel Tryz.prog (fmOf fms env) tree.get (.code f70) f := by
  have h : fmOf fms env 70 = some 91 := by kernel_rfl
  rw [h] at hf
  cases hf
  exact funcB_ok Tryz.func91 chk70

theorem chk74 : funcB Tryz.prog (fmOf fms env) (isPure tree.get) f74 Tryz.f133 = true := by kernel_rfl
theorem ok74 (f : FuncId) (hf : fmOf fms env 74 = some f) : DefRel Tryz.prog (fmOf fms env) tree.get (.code f74) f := by
  have h : fmOf fms env 74 = some 133 := by kernel_rfl
  rw [h] at hf
  cases hf
  exact funcB_ok Tryz.func133 chk74

theorem chk105 : funcB Tryz.prog (fmOf fms env) (isPure tree.get) f105 Tryz.f11 = true := by kernel_rfl
theorem ok105 (f : FuncId) (hf : fmOf fms env 105 = some f) : DefRel Tryz.prog (fmOf fms env) tree.get (.code f105) f := by
  have h : fmOf fms env 105 = some 11 := by kernel_rfl
  rw [h] at hf
  cases hf
  exact funcB_ok Tryz.func11 chk105

theorem chk106 : funcB Tryz.prog (fmOf fms env) (isPure tree.get) f106 Tryz.f25 = true := by kernel_rfl
theorem ok106 (f : FuncId) (hf : fmOf fms env 106 = some f) : DefRel Tryz.prog (fmOf fms env) tree.get (.code f106) f := by
  have h : fmOf fms env 106 = some 25 := by kernel_rfl
  rw [h] at hf
  cases hf
  exact funcB_ok Tryz.func25 chk106

theorem chk117 : funcB Tryz.prog (fmOf fms env) (isPure tree.get) f117 Tryz.f69 = true := by kernel_rfl
theorem ok117 (f : FuncId) (hf : fmOf fms env 117 = some f) : DefRel Tryz.prog (fmOf fms env) tree.get (.code f117) f := by
  have h : fmOf fms env 117 = some 69 := by kernel_rfl
  rw [h] at hf
  cases hf
  exact funcB_ok Tryz.func69 chk117

theorem chk118 : funcB Tryz.prog (fmOf fms env) (isPure tree.get) f118 Tryz.f70 = true := by kernel_rfl
theorem ok118 (f : FuncId) (hf : fmOf fms env 118 = some f) : DefRel Tryz.prog (fmOf fms env) tree.get (.code f118) f := by
  have h : fmOf fms env 118 = some 70 := by kernel_rfl
  rw [h] at hf
  cases hf
  exact funcB_ok Tryz.func70 chk118

theorem chk131 : funcB Tryz.prog (fmOf fms env) (isPure tree.get) f131 Tryz.f118 = true := by kernel_rfl
theorem ok131 (f : FuncId) (hf : fmOf fms env 131 = some f) : DefRel Tryz.prog (fmOf fms env) tree.get (.code f131) f := by
  have h : fmOf fms env 131 = some 118 := by kernel_rfl
  rw [h] at hf
  cases hf
  exact funcB_ok Tryz.func118 chk131

theorem chk132 : funcB Tryz.prog (fmOf fms env) (isPure tree.get) f132 Tryz.f119 = true := by kernel_rfl
theorem ok132 (f : FuncId) (hf : fmOf fms env 132 = some f) : DefRel Tryz.prog (fmOf fms env) tree.get (.code f132) f := by
  have h : fmOf fms env 132 = some 119 := by kernel_rfl
  rw [h] at hf
  cases hf
  exact funcB_ok Tryz.func119 chk132

theorem chk133 : funcB Tryz.prog (fmOf fms env) (isPure tree.get) f133 Tryz.f120 = true := by kernel_rfl
theorem ok133 (f : FuncId) (hf : fmOf fms env 133 = some f) : DefRel Tryz.prog (fmOf fms env) tree.get (.code f133) f := by
  have h : fmOf fms env 133 = some 120 := by kernel_rfl
  rw [h] at hf
  cases hf
  exact funcB_ok Tryz.func120 chk133

theorem chk134 : funcB Tryz.prog (fmOf fms env) (isPure tree.get) f134 Tryz.f121 = true := by kernel_rfl
theorem ok134 (f : FuncId) (hf : fmOf fms env 134 = some f) : DefRel Tryz.prog (fmOf fms env) tree.get (.code f134) f := by
  have h : fmOf fms env 134 = some 121 := by kernel_rfl
  rw [h] at hf
  cases hf
  exact funcB_ok Tryz.func121 chk134

theorem chk135 : funcB Tryz.prog (fmOf fms env) (isPure tree.get) f135 Tryz.f122 = true := by kernel_rfl
theorem ok135 (f : FuncId) (hf : fmOf fms env 135 = some f) : DefRel Tryz.prog (fmOf fms env) tree.get (.code f135) f := by
  have h : fmOf fms env 135 = some 122 := by kernel_rfl
  rw [h] at hf
  cases hf
  exact funcB_ok Tryz.func122 chk135

theorem chk136 : funcB Tryz.prog (fmOf fms env) (isPure tree.get) f136 Tryz.f123 = true := by kernel_rfl
theorem ok136 (f : FuncId) (hf : fmOf fms env 136 = some f) : DefRel Tryz.prog (fmOf fms env) tree.get (.code f136) f := by
  have h : fmOf fms env 136 = some 123 := by kernel_rfl
  rw [h] at hf
  cases hf
  exact funcB_ok Tryz.func123 chk136

theorem chk137 : funcB Tryz.prog (fmOf fms env) (isPure tree.get) f137 Tryz.f124 = true := by kernel_rfl
theorem ok137 (f : FuncId) (hf : fmOf fms env 137 = some f) : DefRel Tryz.prog (fmOf fms env) tree.get (.code f137) f := by
  have h : fmOf fms env 137 = some 124 := by kernel_rfl
  rw [h] at hf
  cases hf
  exact funcB_ok Tryz.func124 chk137

theorem chk138 : funcB Tryz.prog (fmOf fms env) (isPure tree.get) f138 Tryz.f125 = true := by kernel_rfl
theorem ok138 (f : FuncId) (hf : fmOf fms env 138 = some f) : DefRel Tryz.prog (fmOf fms env) tree.get (.code f138) f := by
  have h : fmOf fms env 138 = some 125 := by kernel_rfl
  rw [h] at hf
  cases hf
  exact funcB_ok Tryz.func125 chk138

theorem chk139 : funcB Tryz.prog (fmOf fms env) (isPure tree.get) f139 Tryz.f132 = true := by kernel_rfl
theorem ok139 (f : FuncId) (hf : fmOf fms env 139 = some f) : DefRel Tryz.prog (fmOf fms env) tree.get (.code f139) f := by
  have h : fmOf fms env 139 = some 132 := by kernel_rfl
  rw [h] at hf
  cases hf
  exact funcB_ok Tryz.func132 chk139

theorem chk143 : funcB Tryz.prog (fmOf fms env) (isPure tree.get) f143 Tryz.f159 = true := by kernel_rfl
theorem ok143 (f : FuncId) (hf : fmOf fms env 143 = some f) : DefRel Tryz.prog (fmOf fms env) tree.get (.code f143) f := by
  have h : fmOf fms env 143 = some 159 := by kernel_rfl
  rw [h] at hf
  cases hf
  exact funcB_ok Tryz.func159 chk143

theorem chk144 : funcB Tryz.prog (fmOf fms env) (isPure tree.get) f144 Tryz.f160 = true := by kernel_rfl
theorem ok144 (f : FuncId) (hf : fmOf fms env 144 = some f) : DefRel Tryz.prog (fmOf fms env) tree.get (.code f144) f := by
  have h : fmOf fms env 144 = some 160 := by kernel_rfl
  rw [h] at hf
  cases hf
  exact funcB_ok Tryz.func160 chk144

theorem chk145 : funcB Tryz.prog (fmOf fms env) (isPure tree.get) f145 Tryz.f164 = true := by kernel_rfl
theorem ok145 (f : FuncId) (hf : fmOf fms env 145 = some f) : DefRel Tryz.prog (fmOf fms env) tree.get (.code f145) f := by
  have h : fmOf fms env 145 = some 164 := by kernel_rfl
  rw [h] at hf
  cases hf
  exact funcB_ok Tryz.func164 chk145

theorem chk146 : funcB Tryz.prog (fmOf fms env) (isPure tree.get) f146 Tryz.f165 = true := by kernel_rfl
theorem ok146 (f : FuncId) (hf : fmOf fms env 146 = some f) : DefRel Tryz.prog (fmOf fms env) tree.get (.code f146) f := by
  have h : fmOf fms env 146 = some 165 := by kernel_rfl
  rw [h] at hf
  cases hf
  exact funcB_ok Tryz.func165 chk146

theorem chk147 : funcB Tryz.prog (fmOf fms env) (isPure tree.get) f147 Tryz.f186 = true := by kernel_rfl
theorem ok147 (f : FuncId) (hf : fmOf fms env 147 = some f) : DefRel Tryz.prog (fmOf fms env) tree.get (.code f147) f := by
  have h : fmOf fms env 147 = some 186 := by kernel_rfl
  rw [h] at hf
  cases hf
  exact funcB_ok Tryz.func186 chk147

theorem chk148 : funcB Tryz.prog (fmOf fms env) (isPure tree.get) f148 Tryz.f187 = true := by kernel_rfl
theorem ok148 (f : FuncId) (hf : fmOf fms env 148 = some f) : DefRel Tryz.prog (fmOf fms env) tree.get (.code f148) f := by
  have h : fmOf fms env 148 = some 187 := by kernel_rfl
  rw [h] at hf
  cases hf
  exact funcB_ok Tryz.func187 chk148

theorem chk149 : funcB Tryz.prog (fmOf fms env) (isPure tree.get) f149 Tryz.f188 = true := by kernel_rfl
theorem ok149 (f : FuncId) (hf : fmOf fms env 149 = some f) : DefRel Tryz.prog (fmOf fms env) tree.get (.code f149) f := by
  have h : fmOf fms env 149 = some 188 := by kernel_rfl
  rw [h] at hf
  cases hf
  exact funcB_ok Tryz.func188 chk149

theorem chk150 : funcB Tryz.prog (fmOf fms env) (isPure tree.get) f150 Tryz.f189 = true := by kernel_rfl
theorem ok150 (f : FuncId) (hf : fmOf fms env 150 = some f) : DefRel Tryz.prog (fmOf fms env) tree.get (.code f150) f := by
  have h : fmOf fms env 150 = some 189 := by kernel_rfl
  rw [h] at hf
  cases hf
  exact funcB_ok Tryz.func189 chk150

theorem chk151 : funcB Tryz.prog (fmOf fms env) (isPure tree.get) f151 Tryz.f190 = true := by kernel_rfl
theorem ok151 (f : FuncId) (hf : fmOf fms env 151 = some f) : DefRel Tryz.prog (fmOf fms env) tree.get (.code f151) f := by
  have h : fmOf fms env 151 = some 190 := by kernel_rfl
  rw [h] at hf
  cases hf
  exact funcB_ok Tryz.func190 chk151

theorem chk152 : funcB Tryz.prog (fmOf fms env) (isPure tree.get) f152 Tryz.f191 = true := by kernel_rfl
theorem ok152 (f : FuncId) (hf : fmOf fms env 152 = some f) : DefRel Tryz.prog (fmOf fms env) tree.get (.code f152) f := by
  have h : fmOf fms env 152 = some 191 := by kernel_rfl
  rw [h] at hf
  cases hf
  exact funcB_ok Tryz.func191 chk152

theorem chk153 : funcB Tryz.prog (fmOf fms env) (isPure tree.get) f153 Tryz.f195 = true := by kernel_rfl
theorem ok153 (f : FuncId) (hf : fmOf fms env 153 = some f) : DefRel Tryz.prog (fmOf fms env) tree.get (.code f153) f := by
  have h : fmOf fms env 153 = some 195 := by kernel_rfl
  rw [h] at hf
  cases hf
  exact funcB_ok Tryz.func195 chk153

theorem chk154 : funcB Tryz.prog (fmOf fms env) (isPure tree.get) f154 Tryz.f196 = true := by kernel_rfl
theorem ok154 (f : FuncId) (hf : fmOf fms env 154 = some f) : DefRel Tryz.prog (fmOf fms env) tree.get (.code f154) f := by
  have h : fmOf fms env 154 = some 196 := by kernel_rfl
  rw [h] at hf
  cases hf
  exact funcB_ok Tryz.func196 chk154

theorem chk155 : funcB Tryz.prog (fmOf fms env) (isPure tree.get) f155 Tryz.f114 = true := by kernel_rfl
theorem ok155 (f : FuncId) (hf : fmOf fms env 155 = some f) : DefRel Tryz.prog (fmOf fms env) tree.get (.code f155) f := by
  have h : fmOf fms env 155 = some 114 := by kernel_rfl
  rw [h] at hf
  cases hf
  exact funcB_ok Tryz.func114 chk155

theorem chk156 : funcB Tryz.prog (fmOf fms env) (isPure tree.get) f156 Tryz.f207 = true := by kernel_rfl
theorem ok156 (f : FuncId) (hf : fmOf fms env 156 = some f) : DefRel Tryz.prog (fmOf fms env) tree.get (.code f156) f := by
  have h : fmOf fms env 156 = some 207 := by kernel_rfl
  rw [h] at hf
  cases hf
  exact funcB_ok Tryz.func207 chk156

theorem chk157 : funcB Tryz.prog (fmOf fms env) (isPure tree.get) f157 Tryz.f208 = true := by kernel_rfl
theorem ok157 (f : FuncId) (hf : fmOf fms env 157 = some f) : DefRel Tryz.prog (fmOf fms env) tree.get (.code f157) f := by
  have h : fmOf fms env 157 = some 208 := by kernel_rfl
  rw [h] at hf
  cases hf
  exact funcB_ok Tryz.func208 chk157

theorem chk158 : funcB Tryz.prog (fmOf fms env) (isPure tree.get) f158 Tryz.f209 = true := by kernel_rfl
theorem ok158 (f : FuncId) (hf : fmOf fms env 158 = some f) : DefRel Tryz.prog (fmOf fms env) tree.get (.code f158) f := by
  have h : fmOf fms env 158 = some 209 := by kernel_rfl
  rw [h] at hf
  cases hf
  exact funcB_ok Tryz.func209 chk158

theorem chk159 : funcB Tryz.prog (fmOf fms env) (isPure tree.get) f159 Tryz.f210 = true := by kernel_rfl
theorem ok159 (f : FuncId) (hf : fmOf fms env 159 = some f) : DefRel Tryz.prog (fmOf fms env) tree.get (.code f159) f := by
  have h : fmOf fms env 159 = some 210 := by kernel_rfl
  rw [h] at hf
  cases hf
  exact funcB_ok Tryz.func210 chk159

theorem chk160 : funcB Tryz.prog (fmOf fms env) (isPure tree.get) f160 Tryz.f211 = true := by kernel_rfl
theorem ok160 (f : FuncId) (hf : fmOf fms env 160 = some f) : DefRel Tryz.prog (fmOf fms env) tree.get (.code f160) f := by
  have h : fmOf fms env 160 = some 211 := by kernel_rfl
  rw [h] at hf
  cases hf
  exact funcB_ok Tryz.func211 chk160

theorem chk161 : funcB Tryz.prog (fmOf fms env) (isPure tree.get) f161 Tryz.f212 = true := by kernel_rfl
theorem ok161 (f : FuncId) (hf : fmOf fms env 161 = some f) : DefRel Tryz.prog (fmOf fms env) tree.get (.code f161) f := by
  have h : fmOf fms env 161 = some 212 := by kernel_rfl
  rw [h] at hf
  cases hf
  exact funcB_ok Tryz.func212 chk161

theorem chk162 : funcB Tryz.prog (fmOf fms env) (isPure tree.get) f162 Tryz.f155 = true := by kernel_rfl
theorem ok162 (f : FuncId) (hf : fmOf fms env 162 = some f) : DefRel Tryz.prog (fmOf fms env) tree.get (.code f162) f := by
  have h : fmOf fms env 162 = some 155 := by kernel_rfl
  rw [h] at hf
  cases hf
  exact funcB_ok Tryz.func155 chk162

theorem chk163 : funcB Tryz.prog (fmOf fms env) (isPure tree.get) f163 Tryz.f215 = true := by kernel_rfl
theorem ok163 (f : FuncId) (hf : fmOf fms env 163 = some f) : DefRel Tryz.prog (fmOf fms env) tree.get (.code f163) f := by
  have h : fmOf fms env 163 = some 215 := by kernel_rfl
  rw [h] at hf
  cases hf
  exact funcB_ok Tryz.func215 chk163

theorem chk164 : funcB Tryz.prog (fmOf fms env) (isPure tree.get) f164 Tryz.f216 = true := by kernel_rfl
theorem ok164 (f : FuncId) (hf : fmOf fms env 164 = some f) : DefRel Tryz.prog (fmOf fms env) tree.get (.code f164) f := by
  have h : fmOf fms env 164 = some 216 := by kernel_rfl
  rw [h] at hf
  cases hf
  exact funcB_ok Tryz.func216 chk164

theorem chk165 : funcB Tryz.prog (fmOf fms env) (isPure tree.get) f165 Tryz.f217 = true := by kernel_rfl
theorem ok165 (f : FuncId) (hf : fmOf fms env 165 = some f) : DefRel Tryz.prog (fmOf fms env) tree.get (.code f165) f := by
  have h : fmOf fms env 165 = some 217 := by kernel_rfl
  rw [h] at hf
  cases hf
  exact funcB_ok Tryz.func217 chk165

theorem chk166 : funcB Tryz.prog (fmOf fms env) (isPure tree.get) f166 Tryz.f218 = true := by kernel_rfl
theorem ok166 (f : FuncId) (hf : fmOf fms env 166 = some f) : DefRel Tryz.prog (fmOf fms env) tree.get (.code f166) f := by
  have h : fmOf fms env 166 = some 218 := by kernel_rfl
  rw [h] at hf
  cases hf
  exact funcB_ok Tryz.func218 chk166

theorem chk167 : funcB Tryz.prog (fmOf fms env) (isPure tree.get) f167 Tryz.f219 = true := by kernel_rfl
theorem ok167 (f : FuncId) (hf : fmOf fms env 167 = some f) : DefRel Tryz.prog (fmOf fms env) tree.get (.code f167) f := by
  have h : fmOf fms env 167 = some 219 := by kernel_rfl
  rw [h] at hf
  cases hf
  exact funcB_ok Tryz.func219 chk167

theorem chk202 : funcB Tryz.prog (fmOf fms env) (isPure tree.get) f202 Tryz.f3 = true := by kernel_rfl
theorem ok202 (f : FuncId) (hf : fmOf fms env 202 = some f) : DefRel Tryz.prog (fmOf fms env) tree.get (.code f202) f := by
  have h : fmOf fms env 202 = some 3 := by kernel_rfl
  rw [h] at hf
  cases hf
  exact funcB_ok Tryz.func3 chk202

theorem chk207 : funcB Tryz.prog (fmOf fms env) (isPure tree.get) f207 Tryz.f8 = true := by kernel_rfl
theorem ok207 (f : FuncId) (hf : fmOf fms env 207 = some f) : DefRel Tryz.prog (fmOf fms env) tree.get (.code f207) f := by
  have h : fmOf fms env 207 = some 8 := by kernel_rfl
  rw [h] at hf
  cases hf
  exact funcB_ok Tryz.func8 chk207

theorem chk208 : funcB Tryz.prog (fmOf fms env) (isPure tree.get) f208 Tryz.f9 = true := by kernel_rfl
theorem ok208 (f : FuncId) (hf : fmOf fms env 208 = some f) : DefRel Tryz.prog (fmOf fms env) tree.get (.code f208) f := by
  have h : fmOf fms env 208 = some 9 := by kernel_rfl
  rw [h] at hf
  cases hf
  exact funcB_ok Tryz.func9 chk208

theorem chk209 : funcB Tryz.prog (fmOf fms env) (isPure tree.get) f209 Tryz.f10 = true := by kernel_rfl
theorem ok209 (f : FuncId) (hf : fmOf fms env 209 = some f) : DefRel Tryz.prog (fmOf fms env) tree.get (.code f209) f := by
  have h : fmOf fms env 209 = some 10 := by kernel_rfl
  rw [h] at hf
  cases hf
  exact funcB_ok Tryz.func10 chk209

theorem chk210 : funcB Tryz.prog (fmOf fms env) (isPure tree.get) f210 Tryz.f12 = true := by kernel_rfl
theorem ok210 (f : FuncId) (hf : fmOf fms env 210 = some f) : DefRel Tryz.prog (fmOf fms env) tree.get (.code f210) f := by
  have h : fmOf fms env 210 = some 12 := by kernel_rfl
  rw [h] at hf
  cases hf
  exact funcB_ok Tryz.func12 chk210

theorem chk212 : funcB Tryz.prog (fmOf fms env) (isPure tree.get) f212 Tryz.f15 = true := by kernel_rfl
theorem ok212 (f : FuncId) (hf : fmOf fms env 212 = some f) : DefRel Tryz.prog (fmOf fms env) tree.get (.code f212) f := by
  have h : fmOf fms env 212 = some 15 := by kernel_rfl
  rw [h] at hf
  cases hf
  exact funcB_ok Tryz.func15 chk212

theorem chk222 : funcB Tryz.prog (fmOf fms env) (isPure tree.get) f222 Tryz.f30 = true := by kernel_rfl
theorem ok222 (f : FuncId) (hf : fmOf fms env 222 = some f) : DefRel Tryz.prog (fmOf fms env) tree.get (.code f222) f := by
  have h : fmOf fms env 222 = some 30 := by kernel_rfl
  rw [h] at hf
  cases hf
  exact funcB_ok Tryz.func30 chk222

theorem chk223 : funcB Tryz.prog (fmOf fms env) (isPure tree.get) f223 Tryz.f31 = true := by kernel_rfl
theorem ok223 (f : FuncId) (hf : fmOf fms env 223 = some f) : DefRel Tryz.prog (fmOf fms env) tree.get (.code f223) f := by
  have h : fmOf fms env 223 = some 31 := by kernel_rfl
  rw [h] at hf
  cases hf
  exact funcB_ok Tryz.func31 chk223

theorem chk224 : funcB Tryz.prog (fmOf fms env) (isPure tree.get) f224 Tryz.f32 = true := by kernel_rfl
theorem ok224 (f : FuncId) (hf : fmOf fms env 224 = some f) : DefRel Tryz.prog (fmOf fms env) tree.get (.code f224) f := by
  have h : fmOf fms env 224 = some 32 := by kernel_rfl
  rw [h] at hf
  cases hf
  exact funcB_ok Tryz.func32 chk224

theorem chk225 : funcB Tryz.prog (fmOf fms env) (isPure tree.get) f225 Tryz.f33 = true := by kernel_rfl
theorem ok225 (f : FuncId) (hf : fmOf fms env 225 = some f) : DefRel Tryz.prog (fmOf fms env) tree.get (.code f225) f := by
  have h : fmOf fms env 225 = some 33 := by kernel_rfl
  rw [h] at hf
  cases hf
  exact funcB_ok Tryz.func33 chk225

theorem chk226 : funcB Tryz.prog (fmOf fms env) (isPure tree.get) f226 Tryz.f34 = true := by kernel_rfl
theorem ok226 (f : FuncId) (hf : fmOf fms env 226 = some f) : DefRel Tryz.prog (fmOf fms env) tree.get (.code f226) f := by
  have h : fmOf fms env 226 = some 34 := by kernel_rfl
  rw [h] at hf
  cases hf
  exact funcB_ok Tryz.func34 chk226

theorem chk227 : funcB Tryz.prog (fmOf fms env) (isPure tree.get) f227 Tryz.f35 = true := by kernel_rfl
theorem ok227 (f : FuncId) (hf : fmOf fms env 227 = some f) : DefRel Tryz.prog (fmOf fms env) tree.get (.code f227) f := by
  have h : fmOf fms env 227 = some 35 := by kernel_rfl
  rw [h] at hf
  cases hf
  exact funcB_ok Tryz.func35 chk227

theorem chk228 : funcB Tryz.prog (fmOf fms env) (isPure tree.get) f228 Tryz.f36 = true := by kernel_rfl
theorem ok228 (f : FuncId) (hf : fmOf fms env 228 = some f) : DefRel Tryz.prog (fmOf fms env) tree.get (.code f228) f := by
  have h : fmOf fms env 228 = some 36 := by kernel_rfl
  rw [h] at hf
  cases hf
  exact funcB_ok Tryz.func36 chk228

theorem chk229 : funcB Tryz.prog (fmOf fms env) (isPure tree.get) f229 Tryz.f37 = true := by kernel_rfl
theorem ok229 (f : FuncId) (hf : fmOf fms env 229 = some f) : DefRel Tryz.prog (fmOf fms env) tree.get (.code f229) f := by
  have h : fmOf fms env 229 = some 37 := by kernel_rfl
  rw [h] at hf
  cases hf
  exact funcB_ok Tryz.func37 chk229

theorem chk230 : funcB Tryz.prog (fmOf fms env) (isPure tree.get) f230 Tryz.f38 = true := by kernel_rfl
theorem ok230 (f : FuncId) (hf : fmOf fms env 230 = some f) : DefRel Tryz.prog (fmOf fms env) tree.get (.code f230) f := by
  have h : fmOf fms env 230 = some 38 := by kernel_rfl
  rw [h] at hf
  cases hf
  exact funcB_ok Tryz.func38 chk230

theorem chk231 : funcB Tryz.prog (fmOf fms env) (isPure tree.get) f231 Tryz.f39 = true := by kernel_rfl
theorem ok231 (f : FuncId) (hf : fmOf fms env 231 = some f) : DefRel Tryz.prog (fmOf fms env) tree.get (.code f231) f := by
  have h : fmOf fms env 231 = some 39 := by kernel_rfl
  rw [h] at hf
  cases hf
  exact funcB_ok Tryz.func39 chk231

theorem chk232 : funcB Tryz.prog (fmOf fms env) (isPure tree.get) f232 Tryz.f40 = true := by kernel_rfl
theorem ok232 (f : FuncId) (hf : fmOf fms env 232 = some f) : DefRel Tryz.prog (fmOf fms env) tree.get (.code f232) f := by
  have h : fmOf fms env 232 = some 40 := by kernel_rfl
  rw [h] at hf
  cases hf
  exact funcB_ok Tryz.func40 chk232

theorem chk233 : funcB Tryz.prog (fmOf fms env) (isPure tree.get) f233 Tryz.f41 = true := by kernel_rfl
theorem ok233 (f : FuncId) (hf : fmOf fms env 233 = some f) : DefRel Tryz.prog (fmOf fms env) tree.get (.code f233) f := by
  have h : fmOf fms env 233 = some 41 := by kernel_rfl
  rw [h] at hf
  cases hf
  exact funcB_ok Tryz.func41 chk233

theorem chk234 : funcB Tryz.prog (fmOf fms env) (isPure tree.get) f234 Tryz.f42 = true := by kernel_rfl
theorem ok234 (f : FuncId) (hf : fmOf fms env 234 = some f) : DefRel Tryz.prog (fmOf fms env) tree.get (.code f234) f := by
  have h : fmOf fms env 234 = some 42 := by kernel_rfl
  rw [h] at hf
  cases hf
  exact funcB_ok Tryz.func42 chk234

theorem chk235 : funcB Tryz.prog (fmOf fms env) (isPure tree.get) f235 Tryz.f48 = true := by kernel_rfl
theorem ok235 (f : FuncId) (hf : fmOf fms env 235 = some f) : DefRel Tryz.prog (fmOf fms env) tree.get (.code f235) f := by
  have h : fmOf fms env 235 = some 48 := by kernel_rfl
  rw [h] at hf
  cases hf
  exact funcB_ok Tryz.func48 chk235

theorem chk251 : funcB Tryz.prog (fmOf fms env) (isPure tree.get) f251 Tryz.f78 = true := by kernel_rfl
theorem ok251 (f : FuncId) (hf : fmOf fms env 251 = some f) : DefRel Tryz.prog (fmOf fms env) tree.get (.code f251) f := by
  have h : fmOf fms env 251 = some 78 := by kernel_rfl
  rw [h] at hf
  cases hf
  exact funcB_ok Tryz.func78 chk251

theorem chk252 : funcB Tryz.prog (fmOf fms env) (isPure tree.get) f252 Tryz.f79 = true := by kernel_rfl
theorem ok252 (f : FuncId) (hf : fmOf fms env 252 = some f) : DefRel Tryz.prog (fmOf fms env) tree.get (.code f252) f := by
  have h : fmOf fms env 252 = some 79 := by kernel_rfl
  rw [h] at hf
  cases hf
  exact funcB_ok Tryz.func79 chk252

theorem chk253 : funcB Tryz.prog (fmOf fms env) (isPure tree.get) f253 Tryz.f81 = true := by kernel_rfl
theorem ok253 (f : FuncId) (hf : fmOf fms env 253 = some f) : DefRel Tryz.prog (fmOf fms env) tree.get (.code f253) f := by
  have h : fmOf fms env 253 = some 81 := by kernel_rfl
  rw [h] at hf
  cases hf
  exact funcB_ok Tryz.func81 chk253

theorem chk254 : funcB Tryz.prog (fmOf fms env) (isPure tree.get) f254 Tryz.f82 = true := by kernel_rfl
theorem ok254 (f : FuncId) (hf : fmOf fms env 254 = some f) : DefRel Tryz.prog (fmOf fms env) tree.get (.code f254) f := by
  have h : fmOf fms env 254 = some 82 := by kernel_rfl
  rw [h] at hf
  cases hf
  exact funcB_ok Tryz.func82 chk254

theorem chk255 : funcB Tryz.prog (fmOf fms env) (isPure tree.get) f255 Tryz.f83 = true := by kernel_rfl
theorem ok255 (f : FuncId) (hf : fmOf fms env 255 = some f) : DefRel Tryz.prog (fmOf fms env) tree.get (.code f255) f := by
  have h : fmOf fms env 255 = some 83 := by kernel_rfl
  rw [h] at hf
  cases hf
  exact funcB_ok Tryz.func83 chk255

theorem chk256 : funcB Tryz.prog (fmOf fms env) (isPure tree.get) f256 Tryz.f84 = true := by kernel_rfl
theorem ok256 (f : FuncId) (hf : fmOf fms env 256 = some f) : DefRel Tryz.prog (fmOf fms env) tree.get (.code f256) f := by
  have h : fmOf fms env 256 = some 84 := by kernel_rfl
  rw [h] at hf
  cases hf
  exact funcB_ok Tryz.func84 chk256

theorem ok72 (f : FuncId) (hf : fmOf fms env 72 = some f) : DefRel Tryz.prog (fmOf fms env) tree.get (.prim indexByteD) f := by
  have h : fmOf fms env 72 = some 162 := by kernel_rfl
  rw [h] at hf
  cases hf
  exact prim_indexByte Tryz.func162 (by kernel_rfl) (by kernel_rfl) (by kernel_rfl) (by kernel_rfl)

theorem ok64 (f : FuncId) (hf : fmOf fms env 64 = some f) : DefRel Tryz.prog (fmOf fms env) tree.get (.prim countByteD) f := by
  have h : fmOf fms env 64 = some 129 := by kernel_rfl
  rw [h] at hf
  cases hf
  exact prim_countByte Tryz.func129 (by kernel_rfl) (by kernel_rfl) (by kernel_rfl) (by kernel_rfl)

theorem tabOk : TabRel Tryz.prog (fmOf fms env) tree.get := tabRel_tree (t := tree) ⟨⟨⟨⟨⟨⟨ok10, ok13⟩, ⟨ok17, ⟨ok21, ok23⟩⟩⟩, ⟨⟨ok26, ⟨ok27, ok29⟩⟩, ⟨ok30, ⟨ok31, ok32⟩⟩⟩⟩, ⟨⟨⟨ok40, ⟨ok41, ok42⟩⟩, ⟨ok43, ⟨ok44, ok51⟩⟩⟩, ⟨⟨ok54, ⟨ok55, ok56⟩⟩, ⟨ok57, ⟨ok61, ok62⟩⟩⟩⟩⟩, ⟨⟨⟨⟨ok64, ⟨ok65, ok68⟩⟩, ⟨ok69, ⟨ok70, ok72⟩⟩⟩, ⟨⟨ok74, ⟨ok105, ok106⟩⟩, ⟨ok117, ⟨ok118, ok131⟩⟩⟩⟩, ⟨⟨⟨ok132, ⟨ok133, ok134⟩⟩, ⟨ok135, ⟨ok136, ok137⟩⟩⟩, ⟨⟨ok138, ⟨ok139, ok143⟩⟩, ⟨ok144, ⟨ok145, ok146⟩⟩⟩⟩⟩⟩, ⟨⟨⟨⟨⟨ok147, ok148⟩, ⟨ok149, ⟨ok150, ok151⟩⟩⟩, ⟨⟨ok152, ⟨ok153, ok154⟩⟩, ⟨ok155, ⟨ok156, ok157⟩⟩⟩⟩, ⟨⟨⟨ok158, ⟨ok159, ok160⟩⟩, ⟨ok161, ⟨ok162, ok163⟩⟩⟩, ⟨⟨ok164, ⟨ok165, ok166⟩⟩, ⟨ok167, ⟨ok202, ok207⟩⟩⟩⟩⟩, ⟨⟨⟨⟨ok208, ⟨ok209, ok210⟩⟩, ⟨ok212, ⟨ok222, ok223⟩⟩⟩, ⟨⟨ok224, ⟨ok225, ok226⟩⟩, ⟨ok227, ⟨ok228, ok229⟩⟩⟩⟩, ⟨⟨⟨ok230, ⟨ok231, ok232⟩⟩, ⟨ok233, ⟨ok234, ok235⟩⟩⟩, ⟨⟨ok251, ⟨ok252, ok253⟩⟩, ⟨ok254, ⟨ok255, ok256⟩⟩⟩⟩⟩⟩⟩

end Go.D.Tab
