/-
The table is the program's code. Printed by wip/gen.
-/
import Derived.Test.YtpfeehmblhcejaaChecked
import Derived.Test.YtpfeehmblhcejaaTab
import Derived.KernelRfl
namespace Go.D.Tab
open Go.Proofs

theorem chk3 : funcB Try.prog (fmOf fms env) (isPure tree.get) f3 Try.f3 = true := by kernel_rfl
theorem ok3 (f : FuncId) (hf : fmOf fms env 3 = some f) : DefRel Try.prog (fmOf fms env) tree.get (.code f3) f := by
  have h : fmOf fms env 3 = some 3 := by kernel_rfl
  rw [h] at hf
  cases hf
  exact funcB_ok Try.func3 chk3

theorem chk4 : funcB Try.prog (fmOf fms env) (isPure tree.get) f4 Try.f4 = true := by kernel_rfl
theorem ok4 (f : FuncId) (hf : fmOf fms env 4 = some f) : DefRel Try.prog (fmOf fms env) tree.get (.code f4) f := by
  have h : fmOf fms env 4 = some 4 := by kernel_rfl
  rw [h] at hf
  cases hf
  exact funcB_ok Try.func4 chk4

theorem chk5 : funcB Try.prog (fmOf fms env) (isPure tree.get) f5 Try.f5 = true := by kernel_rfl
theorem ok5 (f : FuncId) (hf : fmOf fms env 5 = some f) : DefRel Try.prog (fmOf fms env) tree.get (.code f5) f := by
  have h : fmOf fms env 5 = some 5 := by kernel_rfl
  rw [h] at hf
  cases hf
  exact funcB_ok Try.func5 chk5

theorem chk6 : funcB Try.prog (fmOf fms env) (isPure tree.get) f6 Try.f6 = true := by kernel_rfl
theorem ok6 (f : FuncId) (hf : fmOf fms env 6 = some f) : DefRel Try.prog (fmOf fms env) tree.get (.code f6) f := by
  have h : fmOf fms env 6 = some 6 := by kernel_rfl
  rw [h] at hf
  cases hf
  exact funcB_ok Try.func6 chk6

theorem chk7 : funcB Try.prog (fmOf fms env) (isPure tree.get) f7 Try.f7 = true := by kernel_rfl
theorem ok7 (f : FuncId) (hf : fmOf fms env 7 = some f) : DefRel Try.prog (fmOf fms env) tree.get (.code f7) f := by
  have h : fmOf fms env 7 = some 7 := by kernel_rfl
  rw [h] at hf
  cases hf
  exact funcB_ok Try.func7 chk7

theorem chk8 : funcB Try.prog (fmOf fms env) (isPure tree.get) f8 Try.f8 = true := by kernel_rfl
theorem ok8 (f : FuncId) (hf : fmOf fms env 8 = some f) : DefRel Try.prog (fmOf fms env) tree.get (.code f8) f := by
  have h : fmOf fms env 8 = some 8 := by kernel_rfl
  rw [h] at hf
  cases hf
  exact funcB_ok Try.func8 chk8

theorem chk9 : funcB Try.prog (fmOf fms env) (isPure tree.get) f9 Try.f9 = true := by kernel_rfl
theorem ok9 (f : FuncId) (hf : fmOf fms env 9 = some f) : DefRel Try.prog (fmOf fms env) tree.get (.code f9) f := by
  have h : fmOf fms env 9 = some 9 := by kernel_rfl
  rw [h] at hf
  cases hf
  exact funcB_ok Try.func9 chk9

theorem chk10 : funcB Try.prog (fmOf fms env) (isPure tree.get) f10 Try.f10 = true := by kernel_rfl
theorem ok10 (f : FuncId) (hf : fmOf fms env 10 = some f) : DefRel Try.prog (fmOf fms env) tree.get (.code f10) f := by
  have h : fmOf fms env 10 = some 10 := by kernel_rfl
  rw [h] at hf
  cases hf
  exact funcB_ok Try.func10 chk10

theorem chk11 : funcB Try.prog (fmOf fms env) (isPure tree.get) f11 Try.f11 = true := by kernel_rfl
theorem ok11 (f : FuncId) (hf : fmOf fms env 11 = some f) : DefRel Try.prog (fmOf fms env) tree.get (.code f11) f := by
  have h : fmOf fms env 11 = some 11 := by kernel_rfl
  rw [h] at hf
  cases hf
  exact funcB_ok Try.func11 chk11

theorem chk12 : funcB Try.prog (fmOf fms env) (isPure tree.get) f12 Try.f12 = true := by kernel_rfl
theorem ok12 (f : FuncId) (hf : fmOf fms env 12 = some f) : DefRel Try.prog (fmOf fms env) tree.get (.code f12) f := by
  have h : fmOf fms env 12 = some 12 := by kernel_rfl
  rw [h] at hf
  cases hf
  exact funcB_ok Try.func12 chk12

theorem chk13 : funcB Try.prog (fmOf fms env) (isPure tree.get) f13 Try.f13 = true := by kernel_rfl
theorem ok13 (f : FuncId) (hf : fmOf fms env 13 = some f) : DefRel Try.prog (fmOf fms env) tree.get (.code f13) f := by
  have h : fmOf fms env 13 = some 13 := by kernel_rfl
  rw [h] at hf
  cases hf
  exact funcB_ok Try.func13 chk13

theorem chk14 : funcB Try.prog (fmOf fms env) (isPure tree.get) f14 Try.f14 = true := by kernel_rfl
theorem ok14 (f : FuncId) (hf : fmOf fms env 14 = some f) : DefRel Try.prog (fmOf fms env) tree.get (.code f14) f := by
  have h : fmOf fms env 14 = some 14 := by kernel_rfl
  rw [h] at hf
  cases hf
  exact funcB_ok Try.func14 chk14

theorem chk15 : funcB Try.prog (fmOf fms env) (isPure tree.get) f15 Try.f15 = true := by kernel_rfl
theorem ok15 (f : FuncId) (hf : fmOf fms env 15 = some f) : DefRel Try.prog (fmOf fms env) tree.get (.code f15) f := by
  have h : fmOf fms env 15 = some 15 := by kernel_rfl
  rw [h] at hf
  cases hf
  exact funcB_ok Try.func15 chk15

theorem chk16 : funcB Try.prog (fmOf fms env) (isPure tree.get) f16 Try.f16 = true := by kernel_rfl
theorem ok16 (f : FuncId) (hf : fmOf fms env 16 = some f) : DefRel Try.prog (fmOf fms env) tree.get (.code f16) f := by
  have h : fmOf fms env 16 = some 16 := by kernel_rfl
  rw [h] at hf
  cases hf
  exact funcB_ok Try.func16 chk16

theorem chk17 : funcB Try.prog (fmOf fms env) (isPure tree.get) f17 Try.f17 = true := by kernel_rfl
theorem ok17 (f : FuncId) (hf : fmOf fms env 17 = some f) : DefRel Try.prog (fmOf fms env) tree.get (.code f17) f := by
  have h : fmOf fms env 17 = some 17 := by kernel_rfl
  rw [h] at hf
  cases hf
  exact funcB_ok Try.func17 chk17

theorem chk18 : funcB Try.prog (fmOf fms env) (isPure tree.get) f18 Try.f18 = true := by kernel_rfl
theorem ok18 (f : FuncId) (hf : fmOf fms env 18 = some f) : DefRel Try.prog (fmOf fms env) tree.get (.code f18) f := by
  have h : fmOf fms env 18 = some 18 := by kernel_rfl
  rw [h] at hf
  cases hf
  exact funcB_ok Try.func18 chk18

theorem chk19 : funcB Try.prog (fmOf fms env) (isPure tree.get) f19 Try.f19 = true := by kernel_rfl
theorem ok19 (f : FuncId) (hf : fmOf fms env 19 = some f) : DefRel Try.prog (fmOf fms env) tree.get (.code f19) f := by
  have h : fmOf fms env 19 = some 19 := by kernel_rfl
  rw [h] at hf
  cases hf
  exact funcB_ok Try.func19 chk19

theorem chk20 : funcB Try.prog (fmOf fms env) (isPure tree.get) f20 Try.f20 = true := by kernel_rfl
theorem ok20 (f : FuncId) (hf : fmOf fms env 20 = some f) : DefRel Try.prog (fmOf fms env) tree.get (.code f20) f := by
  have h : fmOf fms env 20 = some 20 := by kernel_rfl
  rw [h] at hf
  cases hf
  exact funcB_ok Try.func20 chk20

theorem chk21 : funcB Try.prog (fmOf fms env) (isPure tree.get) f21 Try.f21 = true := by kernel_rfl
theorem ok21 (f : FuncId) (hf : fmOf fms env 21 = some f) : DefRel Try.prog (fmOf fms env) tree.get (.code f21) f := by
  have h : fmOf fms env 21 = some 21 := by kernel_rfl
  rw [h] at hf
  cases hf
  exact funcB_ok Try.func21 chk21

theorem chk22 : funcB Try.prog (fmOf fms env) (isPure tree.get) f22 Try.f22 = true := by kernel_rfl
theorem ok22 (f : FuncId) (hf : fmOf fms env 22 = some f) : DefRel Try.prog (fmOf fms env) tree.get (.code f22) f := by
  have h : fmOf fms env 22 = some 22 := by kernel_rfl
  rw [h] at hf
  cases hf
  exact funcB_ok Try.func22 chk22

theorem chk23 : funcB Try.prog (fmOf fms env) (isPure tree.get) f23 Try.f23 = true := by kernel_rfl
theorem ok23 (f : FuncId) (hf : fmOf fms env 23 = some f) : DefRel Try.prog (fmOf fms env) tree.get (.code f23) f := by
  have h : fmOf fms env 23 = some 23 := by kernel_rfl
  rw [h] at hf
  cases hf
  exact funcB_ok Try.func23 chk23

theorem chk24 : funcB Try.prog (fmOf fms env) (isPure tree.get) f24 Try.f24 = true := by kernel_rfl
theorem ok24 (f : FuncId) (hf : fmOf fms env 24 = some f) : DefRel Try.prog (fmOf fms env) tree.get (.code f24) f := by
  have h : fmOf fms env 24 = some 24 := by kernel_rfl
  rw [h] at hf
  cases hf
  exact funcB_ok Try.func24 chk24

theorem chk25 : funcB Try.prog (fmOf fms env) (isPure tree.get) f25 Try.f25 = true := by kernel_rfl
theorem ok25 (f : FuncId) (hf : fmOf fms env 25 = some f) : DefRel Try.prog (fmOf fms env) tree.get (.code f25) f := by
  have h : fmOf fms env 25 = some 25 := by kernel_rfl
  rw [h] at hf
  cases hf
  exact funcB_ok Try.func25 chk25

theorem chk26 : funcB Try.prog (fmOf fms env) (isPure tree.get) f26 Try.f26 = true := by kernel_rfl
theorem ok26 (f : FuncId) (hf : fmOf fms env 26 = some f) : DefRel Try.prog (fmOf fms env) tree.get (.code f26) f := by
  have h : fmOf fms env 26 = some 26 := by kernel_rfl
  rw [h] at hf
  cases hf
  exact funcB_ok Try.func26 chk26

theorem chk27 : funcB Try.prog (fmOf fms env) (isPure tree.get) f27 Try.f27 = true := by kernel_rfl
theorem ok27 (f : FuncId) (hf : fmOf fms env 27 = some f) : DefRel Try.prog (fmOf fms env) tree.get (.code f27) f := by
  have h : fmOf fms env 27 = some 27 := by kernel_rfl
  rw [h] at hf
  cases hf
  exact funcB_ok Try.func27 chk27

theorem chk28 : funcB Try.prog (fmOf fms env) (isPure tree.get) f28 Try.f28 = true := by kernel_rfl
theorem ok28 (f : FuncId) (hf : fmOf fms env 28 = some f) : DefRel Try.prog (fmOf fms env) tree.get (.code f28) f := by
  have h : fmOf fms env 28 = some 28 := by kernel_rfl
  rw [h] at hf
  cases hf
  exact funcB_ok Try.func28 chk28

theorem chk29 : funcB Try.prog (fmOf fms env) (isPure tree.get) f29 Try.f29 = true := by kernel_rfl
theorem ok29 (f : FuncId) (hf : fmOf fms env 29 = some f) : DefRel Try.prog (fmOf fms env) tree.get (.code f29) f := by
  have h : fmOf fms env 29 = some 29 := by kernel_rfl
  rw [h] at hf
  cases hf
  exact funcB_ok Try.func29 chk29

theorem chk30 : funcB Try.prog (fmOf fms env) (isPure tree.get) f30 Try.f30 = true := by kernel_rfl
theorem ok30 (f : FuncId) (hf : fmOf fms env 30 = some f) : DefRel Try.prog (fmOf fms env) tree.get (.code f30) f := by
  have h : fmOf fms env 30 = some 30 := by kernel_rfl
  rw [h] at hf
  cases hf
  exact funcB_ok Try.func30 chk30

theorem chk31 : funcB Try.prog (fmOf fms env) (isPure tree.get) f31 Try.f31 = true := by kernel_rfl
theorem ok31 (f : FuncId) (hf : fmOf fms env 31 = some f) : DefRel Try.prog (fmOf fms env) tree.get (.code f31) f := by
  have h : fmOf fms env 31 = some 31 := by kernel_rfl
  rw [h] at hf
  cases hf
  exact funcB_ok Try.func31 chk31

theorem chk32 : funcB Try.prog (fmOf fms env) (isPure tree.get) f32 Try.f32 = true := by kernel_rfl
theorem ok32 (f : FuncId) (hf : fmOf fms env 32 = some f) : DefRel Try.prog (fmOf fms env) tree.get (.code f32) f := by
  have h : fmOf fms env 32 = some 32 := by kernel_rfl
  rw [h] at hf
  cases hf
  exact funcB_ok Try.func32 chk32

theorem chk33 : funcB Try.prog (fmOf fms env) (isPure tree.get) f33 Try.f33 = true := by kernel_rfl
theorem ok33 (f : FuncId) (hf : fmOf fms env 33 = some f) : DefRel Try.prog (fmOf fms env) tree.get (.code f33) f := by
  have h : fmOf fms env 33 = some 33 := by kernel_rfl
  rw [h] at hf
  cases hf
  exact funcB_ok Try.func33 chk33

theorem chk34 : funcB Try.prog (fmOf fms env) (isPure tree.get) f34 Try.f34 = true := by kernel_rfl
theorem ok34 (f : FuncId) (hf : fmOf fms env 34 = some f) : DefRel Try.prog (fmOf fms env) tree.get (.code f34) f := by
  have h : fmOf fms env 34 = some 34 := by kernel_rfl
  rw [h] at hf
  cases hf
  exact funcB_ok Try.func34 chk34

theorem chk35 : funcB Try.prog (fmOf fms env) (isPure tree.get) f35 Try.f35 = true := by kernel_rfl
theorem ok35 (f : FuncId) (hf : fmOf fms env 35 = some f) : DefRel Try.prog (fmOf fms env) tree.get (.code f35) f := by
  have h : fmOf fms env 35 = some 35 := by kernel_rfl
  rw [h] at hf
  cases hf
  exact funcB_ok Try.func35 chk35

theorem chk36 : funcB Try.prog (fmOf fms env) (isPure tree.get) f36 Try.f36 = true := by kernel_rfl
theorem ok36 (f : FuncId) (hf : fmOf fms env 36 = some f) : DefRel Try.prog (fmOf fms env) tree.get (.code f36) f := by
  have h : fmOf fms env 36 = some 36 := by kernel_rfl
  rw [h] at hf
  cases hf
  exact funcB_ok Try.func36 chk36

theorem chk37 : funcB Try.prog (fmOf fms env) (isPure tree.get) f37 Try.f37 = true := by kernel_rfl
theorem ok37 (f : FuncId) (hf : fmOf fms env 37 = some f) : DefRel Try.prog (fmOf fms env) tree.get (.code f37) f := by
  have h : fmOf fms env 37 = some 37 := by kernel_rfl
  rw [h] at hf
  cases hf
  exact funcB_ok Try.func37 chk37

theorem chk38 : funcB Try.prog (fmOf fms env) (isPure tree.get) f38 Try.f38 = true := by kernel_rfl
theorem ok38 (f : FuncId) (hf : fmOf fms env 38 = some f) : DefRel Try.prog (fmOf fms env) tree.get (.code f38) f := by
  have h : fmOf fms env 38 = some 38 := by kernel_rfl
  rw [h] at hf
  cases hf
  exact funcB_ok Try.func38 chk38

theorem chk39 : funcB Try.prog (fmOf fms env) (isPure tree.get) f39 Try.f39 = true := by kernel_rfl
theorem ok39 (f : FuncId) (hf : fmOf fms env 39 = some f) : DefRel Try.prog (fmOf fms env) tree.get (.code f39) f := by
  have h : fmOf fms env 39 = some 39 := by kernel_rfl
  rw [h] at hf
  cases hf
  exact funcB_ok Try.func39 chk39

theorem chk40 : funcB Try.prog (fmOf fms env) (isPure tree.get) f40 Try.f40 = true := by kernel_rfl
theorem ok40 (f : FuncId) (hf : fmOf fms env 40 = some f) : DefRel Try.prog (fmOf fms env) tree.get (.code f40) f := by
  have h : fmOf fms env 40 = some 40 := by kernel_rfl
  rw [h] at hf
  cases hf
  exact funcB_ok Try.func40 chk40

theorem chk41 : funcB Try.prog (fmOf fms env) (isPure tree.get) f41 Try.f41 = true := by kernel_rfl
theorem ok41 (f : FuncId) (hf : fmOf fms env 41 = some f) : DefRel Try.prog (fmOf fms env) tree.get (.code f41) f := by
  have h : fmOf fms env 41 = some 41 := by kernel_rfl
  rw [h] at hf
  cases hf
  exact funcB_ok Try.func41 chk41

theorem chk42 : funcB Try.prog (fmOf fms env) (isPure tree.get) f42 Try.f42 = true := by kernel_rfl
theorem ok42 (f : FuncId) (hf : fmOf fms env 42 = some f) : DefRel Try.prog (fmOf fms env) tree.get (.code f42) f := by
  have h : fmOf fms env 42 = some 42 := by kernel_rfl
  rw [h] at hf
  cases hf
  exact funcB_ok Try.func42 chk42

theorem chk43 : funcB Try.prog (fmOf fms env) (isPure tree.get) f43 Try.f43 = true := by kernel_rfl
theorem ok43 (f : FuncId) (hf : fmOf fms env 43 = some f) : DefRel Try.prog (fmOf fms env) tree.get (.code f43) f := by
  have h : fmOf fms env 43 = some 43 := by kernel_rfl
  rw [h] at hf
  cases hf
  exact funcB_ok Try.func43 chk43

theorem chk44 : funcB Try.prog (fmOf fms env) (isPure tree.get) f44 Try.f44 = true := by kernel_rfl
theorem ok44 (f : FuncId) (hf : fmOf fms env 44 = some f) : DefRel Try.prog (fmOf fms env) tree.get (.code f44) f := by
  have h : fmOf fms env 44 = some 44 := by kernel_rfl
  rw [h] at hf
  cases hf
  exact funcB_ok Try.func44 chk44

theorem chk45 : funcB Try.prog (fmOf fms env) (isPure tree.get) f45 Try.f45 = true := by kernel_rfl
theorem ok45 (f : FuncId) (hf : fmOf fms env 45 = some f) : DefRel Try.prog (fmOf fms env) tree.get (.code f45) f := by
  have h : fmOf fms env 45 = some 45 := by kernel_rfl
  rw [h] at hf
  cases hf
  exact funcB_ok Try.func45 chk45

theorem chk46 : funcB Try.prog (fmOf fms env) (isPure tree.get) f46 Try.f46 = true := by kernel_rfl
theorem ok46 (f : FuncId) (hf : fmOf fms env 46 = some f) : DefRel Try.prog (fmOf fms env) tree.get (.code f46) f := by
  have h : fmOf fms env 46 = some 46 := by kernel_rfl
  rw [h] at hf
  cases hf
  exact funcB_ok Try.func46 chk46

theorem chk47 : funcB Try.prog (fmOf fms env) (isPure tree.get) f47 Try.f47 = true := by kernel_rfl
theorem ok47 (f : FuncId) (hf : fmOf fms env 47 = some f) : DefRel Try.prog (fmOf fms env) tree.get (.code f47) f := by
  have h : fmOf fms env 47 = some 47 := by kernel_rfl
  rw [h] at hf
  cases hf
  exact funcB_ok Try.func47 chk47

theorem chk48 : funcB Try.prog (fmOf fms env) (isPure tree.get) f48 Try.f48 = true := by kernel_rfl
theorem ok48 (f : FuncId) (hf : fmOf fms env 48 = some f) : DefRel Try.prog (fmOf fms env) tree.get (.code f48) f := by
  have h : fmOf fms env 48 = some 48 := by kernel_rfl
  rw [h] at hf
  cases hf
  exact funcB_ok Try.func48 chk48

theorem chk49 : funcB Try.prog (fmOf fms env) (isPure tree.get) f49 Try.f49 = true := by kernel_rfl
theorem ok49 (f : FuncId) (hf : fmOf fms env 49 = some f) : DefRel Try.prog (fmOf fms env) tree.get (.code f49) f := by
  have h : fmOf fms env 49 = some 49 := by kernel_rfl
  rw [h] at hf
  cases hf
  exact funcB_ok Try.func49 chk49

theorem chk50 : funcB Try.prog (fmOf fms env) (isPure tree.get) f50 Try.f50 = true := by kernel_rfl
theorem ok50 (f : FuncId) (hf : fmOf fms env 50 = some f) : DefRel Try.prog (fmOf fms env) tree.get (.code f50) f := by
  have h : fmOf fms env 50 = some 50 := by kernel_rfl
  rw [h] at hf
  cases hf
  exact funcB_ok Try.func50 chk50

theorem chk51 : funcB Try.prog (fmOf fms env) (isPure tree.get) f51 Try.f51 = true := by kernel_rfl
theorem ok51 (f : FuncId) (hf : fmOf fms env 51 = some f) : DefRel Try.prog (fmOf fms env) tree.get (.code f51) f := by
  have h : fmOf fms env 51 = some 51 := by kernel_rfl
  rw [h] at hf
  cases hf
  exact funcB_ok Try.func51 chk51

theorem chk52 : funcB Try.prog (fmOf fms env) (isPure tree.get) f52 Try.f52 = true := by kernel_rfl
theorem ok52 (f : FuncId) (hf : fmOf fms env 52 = some f) : DefRel Try.prog (fmOf fms env) tree.get (.code f52) f := by
  have h : fmOf fms env 52 = some 52 := by kernel_rfl
  rw [h] at hf
  cases hf
  exact funcB_ok Try.func52 chk52

theorem chk53 : funcB Try.prog (fmOf fms env) (isPure tree.get) f53 Try.f53 = true := by kernel_rfl
theorem ok53 (f : FuncId) (hf : fmOf fms env 53 = some f) : DefRel Try.prog (fmOf fms env) tree.get (.code f53) f := by
  have h : fmOf fms env 53 = some 53 := by kernel_rfl
  rw [h] at hf
  cases hf
  exact funcB_ok Try.func53 chk53

theorem chk54 : funcB Try.prog (fmOf fms env) (isPure tree.get) f54 Try.f54 = true := by kernel_rfl
theorem ok54 (f : FuncId) (hf : fmOf fms env 54 = some f) : DefRel Try.prog (fmOf fms env) tree.get (.code f54) f := by
  have h : fmOf fms env 54 = some 54 := by kernel_rfl
  rw [h] at hf
  cases hf
  exact funcB_ok Try.func54 chk54

theorem chk55 : funcB Try.prog (fmOf fms env) (isPure tree.get) f55 Try.f55 = true := by kernel_rfl
theorem ok55 (f : FuncId) (hf : fmOf fms env 55 = some f) : DefRel Try.prog (fmOf fms env) tree.get (.code f55) f := by
  have h : fmOf fms env 55 = some 55 := by kernel_rfl
  rw [h] at hf
  cases hf
  exact funcB_ok Try.func55 chk55

theorem chk56 : funcB Try.prog (fmOf fms env) (isPure tree.get) f56 Try.f56 = true := by kernel_rfl
theorem ok56 (f : FuncId) (hf : fmOf fms env 56 = some f) : DefRel Try.prog (fmOf fms env) tree.get (.code f56) f := by
  have h : fmOf fms env 56 = some 56 := by kernel_rfl
  rw [h] at hf
  cases hf
  exact funcB_ok Try.func56 chk56

theorem chk57 : funcB Try.prog (fmOf fms env) (isPure tree.get) f57 Try.f57 = true := by kernel_rfl
theorem ok57 (f : FuncId) (hf : fmOf fms env 57 = some f) : DefRel Try.prog (fmOf fms env) tree.get (.code f57) f := by
  have h : fmOf fms env 57 = some 57 := by kernel_rfl
  rw [h] at hf
  cases hf
  exact funcB_ok Try.func57 chk57

theorem chk58 : funcB Try.prog (fmOf fms env) (isPure tree.get) f58 Try.f58 = true := by kernel_rfl
theorem ok58 (f : FuncId) (hf : fmOf fms env 58 = some f) : DefRel Try.prog (fmOf fms env) tree.get (.code f58) f := by
  have h : fmOf fms env 58 = some 58 := by kernel_rfl
  rw [h] at hf
  cases hf
  exact funcB_ok Try.func58 chk58

theorem chk59 : funcB Try.prog (fmOf fms env) (isPure tree.get) f59 Try.f59 = true := by kernel_rfl
theorem ok59 (f : FuncId) (hf : fmOf fms env 59 = some f) : DefRel Try.prog (fmOf fms env) tree.get (.code f59) f := by
  have h : fmOf fms env 59 = some 59 := by kernel_rfl
  rw [h] at hf
  cases hf
  exact funcB_ok Try.func59 chk59

theorem chk60 : funcB Try.prog (fmOf fms env) (isPure tree.get) f60 Try.f60 = true := by kernel_rfl
theorem ok60 (f : FuncId) (hf : fmOf fms env 60 = some f) : DefRel Try.prog (fmOf fms env) tree.get (.code f60) f := by
  have h : fmOf fms env 60 = some 60 := by kernel_rfl
  rw [h] at hf
  cases hf
  exact funcB_ok Try.func60 chk60

theorem chk61 : funcB Try.prog (fmOf fms env) (isPure tree.get) f61 Try.f61 = true := by kernel_rfl
theorem ok61 (f : FuncId) (hf : fmOf fms env 61 = some f) : DefRel Try.prog (fmOf fms env) tree.get (.code f61) f := by
  have h : fmOf fms env 61 = some 61 := by kernel_rfl
  rw [h] at hf
  cases hf
  exact funcB_ok Try.func61 chk61

theorem chk62 : funcB Try.prog (fmOf fms env) (isPure tree.get) f62 Try.f62 = true := by kernel_rfl
theorem ok62 (f : FuncId) (hf : fmOf fms env 62 = some f) : DefRel Try.prog (fmOf fms env) tree.get (.code f62) f := by
  have h : fmOf fms env 62 = some 62 := by kernel_rfl
  rw [h] at hf
  cases hf
  exact funcB_ok Try.func62 chk62

theorem chk63 : funcB Try.prog (fmOf fms env) (isPure tree.get) f63 Try.f63 = true := by kernel_rfl
theorem ok63 (f : FuncId) (hf : fmOf fms env 63 = some f) : DefRel Try.prog (fmOf fms env) tree.get (.code f63) f := by
  have h : fmOf fms env 63 = some 63 := by kernel_rfl
  rw [h] at hf
  cases hf
  exact funcB_ok Try.func63 chk63

theorem chk65 : funcB Try.prog (fmOf fms env) (isPure tree.get) f65 Try.f65 = true := by kernel_rfl
theorem ok65 (f : FuncId) (hf : fmOf fms env 65 = some f) : DefRel Try.prog (fmOf fms env) tree.get (.code f65) f := by
  have h : fmOf fms env 65 = some 65 := by kernel_rfl
  rw [h] at hf
  cases hf
  exact funcB_ok Try.func65 chk65

theorem chk66 : funcB Try.prog (fmOf fms env) (isPure tree.get) f66 Try.f66 = true := by kernel_rfl
theorem ok66 (f : FuncId) (hf : fmOf fms env 66 = some f) : DefRel Try.prog (fmOf fms env) tree.get (.code f66) f := by
  have h : fmOf fms env 66 = some 66 := by kernel_rfl
  rw [h] at hf
  cases hf
  exact funcB_ok Try.func66 chk66

theorem chk67 : funcB Try.prog (fmOf fms env) (isPure tree.get) f67 Try.f67 = true := by kernel_rfl
theorem ok67 (f : FuncId) (hf : fmOf fms env 67 = some f) : DefRel Try.prog (fmOf fms env) tree.get (.code f67) f := by
  have h : fmOf fms env 67 = some 67 := by kernel_rfl
  rw [h] at hf
  cases hf
  exact funcB_ok Try.func67 chk67

theorem chk68 : funcB Try.prog (fmOf fms env) (isPure tree.get) f68 Try.f68 = true := by kernel_rfl
theorem ok68 (f : FuncId) (hf : fmOf fms env 68 = some f) : DefRel Try.prog (fmOf fms env) tree.get (.code f68) f := by
  have h : fmOf fms env 68 = some 68 := by kernel_rfl
  rw [h] at hf
  cases hf
  exact funcB_ok Try.func68 chk68

theorem chk69 : funcB Try.prog (fmOf fms env) (isPure tree.get) f69 Try.f69 = true := by kernel_rfl
theorem ok69 (f : FuncId) (hf : fmOf fms env 69 = some f) : DefRel Try.prog (fmOf fms env) tree.get (.code f69) f := by
  have h : fmOf fms env 69 = some 69 := by kernel_rfl
  rw [h] at hf
  cases hf
  exact funcB_ok Try.func69 chk69

theorem chk70 : funcB Try.prog (fmOf fms env) (isPure tree.get) f70 Try.f70 = true := by kernel_rfl
theorem ok70 (f : FuncId) (hf : fmOf fms env 70 = some f) : DefRel Try.prog (fmOf fms env) tree.get (.code f70) f := by
  have h : fmOf fms env 70 = some 70 := by kernel_rfl
  rw [h] at hf
  cases hf
  exact funcB_ok Try.func70 chk70

theorem chk71 : funcB Try.prog (fmOf fms env) (isPure tree.get) f71 Try.f71 = true := by kernel_rfl
theorem ok71 (f : FuncId) (hf : fmOf fms env 71 = some f) : DefRel Try.prog (fmOf fms env) tree.get (.code f71) f := by
  have h : fmOf fms env 71 = some 71 := by kernel_rfl
  rw [h] at hf
  cases hf
  exact funcB_ok Try.func71 chk71

theorem chk73 : funcB Try.prog (fmOf fms env) (isPure tree.get) f73 Try.f73 = true := by kernel_rfl
theorem ok73 (f : FuncId) (hf : fmOf fms env 73 = some f) : DefRel Try.prog (fmOf fms env) tree.get (.code f73) f := by
  have h : fmOf fms env 73 = some 73 := by kernel_rfl
  rw [h] at hf
  cases hf
  exact funcB_ok Try.func73 chk73

theorem chk74 : funcB Try.prog (fmOf fms env) (isPure tree.get) f74 Try.f74 = true := by kernel_rfl
theorem ok74 (f : FuncId) (hf : fmOf fms env 74 = some f) : DefRel Try.prog (fmOf fms env) tree.get (.code f74) f := by
  have h : fmOf fms env 74 = some 74 := by kernel_rfl
  rw [h] at hf
  cases hf
  exact funcB_ok Try.func74 chk74

theorem chk76 : funcB Try.prog (fmOf fms env) (isPure tree.get) f76 Try.f76 = true := by kernel_rfl
theorem ok76 (f : FuncId) (hf : fmOf fms env 76 = some f) : DefRel Try.prog (fmOf fms env) tree.get (.code f76) f := by
  have h : fmOf fms env 76 = some 76 := by kernel_rfl
  rw [h] at hf
  cases hf
  exact funcB_ok Try.func76 chk76

theorem chk77 : funcB Try.prog (fmOf fms env) (isPure tree.get) f77 Try.f77 = true := by kernel_rfl
theorem ok77 (f : FuncId) (hf : fmOf fms env 77 = some f) : DefRel Try.prog (fmOf fms env) tree.get (.code f77) f := by
  have h : fmOf fms env 77 = some 77 := by kernel_rfl
  rw [h] at hf
  cases hf
  exact funcB_ok Try.func77 chk77

theorem chk78 : funcB Try.prog (fmOf fms env) (isPure tree.get) f78 Try.f78 = true := by kernel_rfl
theorem ok78 (f : FuncId) (hf : fmOf fms env 78 = some f) : DefRel Try.prog (fmOf fms env) tree.get (.code f78) f := by
  have h : fmOf fms env 78 = some 78 := by kernel_rfl
  rw [h] at hf
  cases hf
  exact funcB_ok Try.func78 chk78

theorem ok72 (f : FuncId) (hf : fmOf fms env 72 = some f) : DefRel Try.prog (fmOf fms env) tree.get (.prim indexByteD) f := by
  have h : fmOf fms env 72 = some 72 := by kernel_rfl
  rw [h] at hf
  cases hf
  exact prim_indexByte Try.func72 (by kernel_rfl) (by kernel_rfl) (by kernel_rfl) (by kernel_rfl)

theorem ok64 (f : FuncId) (hf : fmOf fms env 64 = some f) : DefRel Try.prog (fmOf fms env) tree.get (.prim countByteD) f := by
  have h : fmOf fms env 64 = some 64 := by kernel_rfl
  rw [h] at hf
  cases hf
  exact prim_countByte Try.func64 (by kernel_rfl) (by kernel_rfl) (by kernel_rfl) (by kernel_rfl)

theorem tabOk : TabRel Try.prog (fmOf fms env) tree.get := tabRel_tree (t := tree) ⟨⟨⟨⟨⟨⟨ok3, ok4⟩, ⟨ok5, ok6⟩⟩, ⟨⟨ok7, ok8⟩, ⟨ok9, ⟨ok10, ok11⟩⟩⟩⟩, ⟨⟨⟨ok12, ok13⟩, ⟨ok14, ok15⟩⟩, ⟨⟨ok16, ok17⟩, ⟨ok18, ⟨ok19, ok20⟩⟩⟩⟩⟩, ⟨⟨⟨⟨ok21, ok22⟩, ⟨ok23, ok24⟩⟩, ⟨⟨ok25, ok26⟩, ⟨ok27, ⟨ok28, ok29⟩⟩⟩⟩, ⟨⟨⟨ok30, ok31⟩, ⟨ok32, ⟨ok33, ok34⟩⟩⟩, ⟨⟨ok35, ok36⟩, ⟨ok37, ⟨ok38, ok39⟩⟩⟩⟩⟩⟩, ⟨⟨⟨⟨⟨ok40, ok41⟩, ⟨ok42, ok43⟩⟩, ⟨⟨ok44, ok45⟩, ⟨ok46, ⟨ok47, ok48⟩⟩⟩⟩, ⟨⟨⟨ok49, ok50⟩, ⟨ok51, ⟨ok52, ok53⟩⟩⟩, ⟨⟨ok54, ok55⟩, ⟨ok56, ⟨ok57, ok58⟩⟩⟩⟩⟩, ⟨⟨⟨⟨ok59, ok60⟩, ⟨ok61, ok62⟩⟩, ⟨⟨ok63, ok64⟩, ⟨ok65, ⟨ok66, ok67⟩⟩⟩⟩, ⟨⟨⟨ok68, ok69⟩, ⟨ok70, ⟨ok71, ok72⟩⟩⟩, ⟨⟨ok73, ok74⟩, ⟨ok76, ⟨ok77, ok78⟩⟩⟩⟩⟩⟩⟩

end Go.D.Tab
