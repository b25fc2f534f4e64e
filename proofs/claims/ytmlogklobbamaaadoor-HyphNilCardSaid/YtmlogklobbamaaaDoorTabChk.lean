/-
The table is the program's code. Printed by wip/gen.
-/
import Derived.Test.YtmlogklobbamaaaDoorChecked
import Derived.Test.YtmlogklobbamaaaDoorTab
import Derived.KernelRfl
namespace Go.D.Tab
open Go.Proofs

theorem chk143 : funcB Tryd.prog (fmOf fms env) (isPure tree.get) f143 Tryd.f17 = true := by kernel_rfl
theorem ok143 (f : FuncId) (hf : fmOf fms env 143 = some f) : DefRel Tryd.prog (fmOf fms env) tree.get (.code f143) f := by
  have h : fmOf fms env 143 = some 17 := by kernel_rfl
  rw [h] at hf
  cases hf
  exact funcB_ok Tryd.func17 chk143

theorem chk144 : funcB Tryd.prog (fmOf fms env) (isPure tree.get) f144 Tryd.f14 = true := by kernel_rfl
theorem ok144 (f : FuncId) (hf : fmOf fms env 144 = some f) : DefRel Tryd.prog (fmOf fms env) tree.get (.code f144) f := by
  have h : fmOf fms env 144 = some 14 := by kernel_rfl
  rw [h] at hf
  cases hf
  exact funcB_ok Tryd.func14 chk144

theorem chk147 : funcB Tryd.prog (fmOf fms env) (isPure tree.get) f147 Tryd.f10 = true := by kernel_rfl
theorem ok147 (f : FuncId) (hf : fmOf fms env 147 = some f) : DefRel Tryd.prog (fmOf fms env) tree.get (.code f147) f := by
  have h : fmOf fms env 147 = some 10 := by kernel_rfl
  rw [h] at hf
  cases hf
  exact funcB_ok Tryd.func10 chk147

theorem chk148 : funcB Tryd.prog (fmOf fms env) (isPure tree.get) f148 Tryd.f38 = true := by kernel_rfl
theorem ok148 (f : FuncId) (hf : fmOf fms env 148 = some f) : DefRel Tryd.prog (fmOf fms env) tree.get (.code f148) f := by
  have h : fmOf fms env 148 = some 38 := by kernel_rfl
  rw [h] at hf
  cases hf
  exact funcB_ok Tryd.func38 chk148

theorem chk149 : funcB Tryd.prog (fmOf fms env) (isPure tree.get) f149 Tryd.f33 = true := by kernel_rfl
theorem ok149 (f : FuncId) (hf : fmOf fms env 149 = some f) : DefRel Tryd.prog (fmOf fms env) tree.get (.code f149) f := by
  have h : fmOf fms env 149 = some 33 := by kernel_rfl
  rw [h] at hf
  cases hf
  exact funcB_ok Tryd.func33 chk149

theorem chk150 : funcB Tryd.prog (fmOf fms env) (isPure tree.get) f150 Tryd.f34 = true := by kernel_rfl
theorem ok150 (f : FuncId) (hf : fmOf fms env 150 = some f) : DefRel Tryd.prog (fmOf fms env) tree.get (.code f150) f := by
  have h : fmOf fms env 150 = some 34 := by kernel_rfl
  rw [h] at hf
  cases hf
  exact funcB_ok Tryd.func34 chk150

theorem chk151 : funcB Tryd.prog (fmOf fms env) (isPure tree.get) f151 Tryd.f35 = true := by kernel_rfl
theorem ok151 (f : FuncId) (hf : fmOf fms env 151 = some f) : DefRel Tryd.prog (fmOf fms env) tree.get (.code f151) f := by
  have h : fmOf fms env 151 = some 35 := by kernel_rfl
  rw [h] at hf
  cases hf
  exact funcB_ok Tryd.func35 chk151

theorem chk152 : funcB Tryd.prog (fmOf fms env) (isPure tree.get) f152 Tryd.f36 = true := by kernel_rfl
theorem ok152 (f : FuncId) (hf : fmOf fms env 152 = some f) : DefRel Tryd.prog (fmOf fms env) tree.get (.code f152) f := by
  have h : fmOf fms env 152 = some 36 := by kernel_rfl
  rw [h] at hf
  cases hf
  exact funcB_ok Tryd.func36 chk152

theorem chk156 : funcB Tryd.prog (fmOf fms env) (isPure tree.get) f156 Tryd.f27 = true := by kernel_rfl
theorem ok156 (f : FuncId) (hf : fmOf fms env 156 = some f) : DefRel Tryd.prog (fmOf fms env) tree.get (.code f156) f := by
  have h : fmOf fms env 156 = some 27 := by kernel_rfl
  rw [h] at hf
  cases hf
  exact funcB_ok Tryd.func27 chk156

theorem chk157 : funcB Tryd.prog (fmOf fms env) (isPure tree.get) f157 Tryd.f28 = true := by kernel_rfl
theorem ok157 (f : FuncId) (hf : fmOf fms env 157 = some f) : DefRel Tryd.prog (fmOf fms env) tree.get (.code f157) f := by
  have h : fmOf fms env 157 = some 28 := by kernel_rfl
  rw [h] at hf
  cases hf
  exact funcB_ok Tryd.func28 chk157

theorem chk158 : funcB Tryd.prog (fmOf fms env) (isPure tree.get) f158 Tryd.f29 = true := by kernel_rfl
theorem ok158 (f : FuncId) (hf : fmOf fms env 158 = some f) : DefRel Tryd.prog (fmOf fms env) tree.get (.code f158) f := by
  have h : fmOf fms env 158 = some 29 := by kernel_rfl
  rw [h] at hf
  cases hf
  exact funcB_ok Tryd.func29 chk158

theorem chk159 : funcB Tryd.prog (fmOf fms env) (isPure tree.get) f159 Tryd.f45 = true := by kernel_rfl
theorem ok159 (f : FuncId) (hf : fmOf fms env 159 = some f) : DefRel Tryd.prog (fmOf fms env) tree.get (.code f159) f := by
  have h : fmOf fms env 159 = some 45 := by kernel_rfl
  rw [h] at hf
  cases hf
  exact funcB_ok Tryd.func45 chk159

theorem chk160 : funcB Tryd.prog (fmOf fms env) (isPure tree.get) f160 Tryd.f46 = true := by kernel_rfl
theorem ok160 (f : FuncId) (hf : fmOf fms env 160 = some f) : DefRel Tryd.prog (fmOf fms env) tree.get (.code f160) f := by
  have h : fmOf fms env 160 = some 46 := by kernel_rfl
  rw [h] at hf
  cases hf
  exact funcB_ok Tryd.func46 chk160

theorem chk161 : funcB Tryd.prog (fmOf fms env) (isPure tree.get) f161 Tryd.f40 = true := by kernel_rfl
theorem ok161 (f : FuncId) (hf : fmOf fms env 161 = some f) : DefRel Tryd.prog (fmOf fms env) tree.get (.code f161) f := by
  have h : fmOf fms env 161 = some 40 := by kernel_rfl
  rw [h] at hf
  cases hf
  exact funcB_ok Tryd.func40 chk161

theorem chk163 : funcB Tryd.prog (fmOf fms env) (isPure tree.get) f163 Tryd.f41 = true := by kernel_rfl
theorem ok163 (f : FuncId) (hf : fmOf fms env 163 = some f) : DefRel Tryd.prog (fmOf fms env) tree.get (.code f163) f := by
  have h : fmOf fms env 163 = some 41 := by kernel_rfl
  rw [h] at hf
  cases hf
  exact funcB_ok Tryd.func41 chk163

theorem chk164 : funcB Tryd.prog (fmOf fms env) (isPure tree.get) f164 Tryd.f42 = true := by kernel_rfl
theorem ok164 (f : FuncId) (hf : fmOf fms env 164 = some f) : DefRel Tryd.prog (fmOf fms env) tree.get (.code f164) f := by
  have h : fmOf fms env 164 = some 42 := by kernel_rfl
  rw [h] at hf
  cases hf
  exact funcB_ok Tryd.func42 chk164

theorem chk165 : funcB Tryd.prog (fmOf fms env) (isPure tree.get) f165 Tryd.f47 = true := by kernel_rfl
theorem ok165 (f : FuncId) (hf : fmOf fms env 165 = some f) : DefRel Tryd.prog (fmOf fms env) tree.get (.code f165) f := by
  have h : fmOf fms env 165 = some 47 := by kernel_rfl
  rw [h] at hf
  cases hf
  exact funcB_ok Tryd.func47 chk165

theorem chk166 : funcB Tryd.prog (fmOf fms env) (isPure tree.get) f166 Tryd.f48 = true := by kernel_rfl
theorem ok166 (f : FuncId) (hf : fmOf fms env 166 = some f) : DefRel Tryd.prog (fmOf fms env) tree.get (.code f166) f := by
  have h : fmOf fms env 166 = some 48 := by kernel_rfl
  rw [h] at hf
  cases hf
  exact funcB_ok Tryd.func48 chk166

theorem chk167 : funcB Tryd.prog (fmOf fms env) (isPure tree.get) f167 Tryd.f49 = true := by kernel_rfl
theorem ok167 (f : FuncId) (hf : fmOf fms env 167 = some f) : DefRel Tryd.prog (fmOf fms env) tree.get (.code f167) f := by
  have h : fmOf fms env 167 = some 49 := by kernel_rfl
  rw [h] at hf
  cases hf
  exact funcB_ok Tryd.func49 chk167

theorem chk177 : funcB Tryd.prog (fmOf fms env) (isPure tree.get) f177 Tryd.f4 = true := by kernel_rfl
theorem ok177 (f : FuncId) (hf : fmOf fms env 177 = some f) : DefRel Tryd.prog (fmOf fms env) tree.get (.code f177) f := by
  have h : fmOf fms env 177 = some 4 := by kernel_rfl
  rw [h] at hf
  cases hf
  exact funcB_ok Tryd.func4 chk177

theorem chk187 : funcB Tryd.prog (fmOf fms env) (isPure tree.get) f187 Tryd.f16 = true := by kernel_rfl
theorem ok187 (f : FuncId) (hf : fmOf fms env 187 = some f) : DefRel Tryd.prog (fmOf fms env) tree.get (.code f187) f := by
  have h : fmOf fms env 187 = some 16 := by kernel_rfl
  rw [h] at hf
  cases hf
  exact funcB_ok Tryd.func16 chk187

theorem chk189 : funcB Tryd.prog (fmOf fms env) (isPure tree.get) f189 Tryd.f19 = true := by kernel_rfl
theorem ok189 (f : FuncId) (hf : fmOf fms env 189 = some f) : DefRel Tryd.prog (fmOf fms env) tree.get (.code f189) f := by
  have h : fmOf fms env 189 = some 19 := by kernel_rfl
  rw [h] at hf
  cases hf
  exact funcB_ok Tryd.func19 chk189

theorem chk190 : funcB Tryd.prog (fmOf fms env) (isPure tree.get) f190 Tryd.f20 = true := by kernel_rfl
theorem ok190 (f : FuncId) (hf : fmOf fms env 190 = some f) : DefRel Tryd.prog (fmOf fms env) tree.get (.code f190) f := by
  have h : fmOf fms env 190 = some 20 := by kernel_rfl
  rw [h] at hf
  cases hf
  exact funcB_ok Tryd.func20 chk190

theorem tabOk : TabRel Tryd.prog (fmOf fms env) tree.get := tabRel_tree (t := tree) ⟨⟨⟨⟨ok143, ok144⟩, ⟨ok147, ⟨ok148, ok149⟩⟩⟩, ⟨⟨ok150, ⟨ok151, ok152⟩⟩, ⟨ok156, ⟨ok157, ok158⟩⟩⟩⟩, ⟨⟨⟨ok159, ⟨ok160, ok161⟩⟩, ⟨ok163, ⟨ok164, ok165⟩⟩⟩, ⟨⟨ok166, ⟨ok167, ok177⟩⟩, ⟨ok187, ⟨ok189, ok190⟩⟩⟩⟩⟩

end Go.D.Tab
