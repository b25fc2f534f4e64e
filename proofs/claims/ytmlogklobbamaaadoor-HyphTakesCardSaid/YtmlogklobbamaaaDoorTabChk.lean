/-
The table is the program's code. Printed by wip/gen.
-/
import Derived.Test.YtmlogklobbamaaaDoorChecked
import Derived.Test.YtmlogklobbamaaaDoorTab
import Derived.KernelRfl
namespace Go.D.Tab
open Go.Proofs

theorem chk28 : funcB Tryd.prog (fmOf fms env) (isPure tree.get) f28 Tryd.f26 = true := by kernel_rfl
theorem ok28 (f : FuncId) (hf : fmOf fms env 28 = some f) : DefRel Tryd.prog (fmOf fms env) tree.get (.code f28) f := by
  have h : fmOf fms env 28 = some 26 := by kernel_rfl
  rw [h] at hf
  cases hf
  exact funcB_ok Tryd.func26 chk28

theorem chk50 : funcB Tryd.prog (fmOf fms env) (isPure tree.get) f50 Tryd.f32 = true := by kernel_rfl
theorem ok50 (f : FuncId) (hf : fmOf fms env 50 = some f) : DefRel Tryd.prog (fmOf fms env) tree.get (.code f50) f := by
  have h : fmOf fms env 50 = some 32 := by kernel_rfl
  rw [h] at hf
  cases hf
  exact funcB_ok Tryd.func32 chk50

theorem chk143 : funcB Tryd.prog (fmOf fms env) (isPure tree.get) f143 Tryd.f17 = true := by kernel_rfl
theorem ok143 (f : FuncId) (hf : fmOf fms env 143 = some f) : DefRel Tryd.prog (fmOf fms env) tree.get (.code f143) f := by
  have h : fmOf fms env 143 = some 17 := by kernel_rfl
  rw [h] at hf
  cases hf
  exact funcB_ok Tryd.func17 chk143

theorem chk144 : funcB Tryd.prog (fmOf fms env) (isPure tree.get) f144 Tryd.f14 = true := by kernel_rfl
theorem ok144 (f : FuncId) (hf : fmOf fms env 144 = some f) : DefRel Tryd.prog (fmOf fms env) tree.get (.code f144) f := by
  have h : fmOf fms env 144 = some 14 := by kernel_rfl
  rw [h] at hf
  cases hf
  exact funcB_ok Tryd.func14 chk144

theorem chk147 : funcB Tryd.prog (fmOf fms env) (isPure tree.get) f147 Tryd.f10 = true := by kernel_rfl
theorem ok147 (f : FuncId) (hf : fmOf fms env 147 = some f) : DefRel Tryd.prog (fmOf fms env) tree.get (.code f147) f := by
  have h : fmOf fms env 147 = some 10 := by kernel_rfl
  rw [h] at hf
  cases hf
  exact funcB_ok Tryd.func10 chk147

theorem chk148 : funcB Tryd.prog (fmOf fms env) (isPure tree.get) f148 Tryd.f38 = true := by kernel_rfl
theorem ok148 (f : FuncId) (hf : fmOf fms env 148 = some f) : DefRel Tryd.prog (fmOf fms env) tree.get (.code f148) f := by
  have h : fmOf fms env 148 = some 38 := by kernel_rfl
  rw [h] at hf
  cases hf
  exact funcB_ok Tryd.func38 chk148

theorem chk149 : funcB Tryd.prog (fmOf fms env) (isPure tree.get) f149 Tryd.f33 = true := by kernel_rfl
theorem ok149 (f : FuncId) (hf : fmOf fms env 149 = some f) : DefRel Tryd.prog (fmOf fms env) tree.get (.code f149) f := by
  have h : fmOf fms env 149 = some 33 := by kernel_rfl
  rw [h] at hf
  cases hf
  exact funcB_ok Tryd.func33 chk149

theorem chk150 : funcB Tryd.prog (fmOf fms env) (isPure tree.get) f150 Tryd.f34 = true := by kernel_rfl
theorem ok150 (f : FuncId) (hf : fmOf fms env 150 = some f) : DefRel Tryd.prog (fmOf fms env) tree.get (.code f150) f := by
  have h : fmOf fms env 150 = some 34 := by kernel_rfl
  rw [h] at hf
  cases hf
  exact funcB_ok Tryd.func34 chk150

theorem chk151 : funcB Tryd.prog (fmOf fms env) (isPure tree.get) f151 Tryd.f35 = true := by kernel_rfl
theorem ok151 (f : FuncId) (hf : fmOf fms env 151 = some f) : DefRel Tryd.prog (fmOf fms env) tree.get (.code f151) f := by
  have h : fmOf fms env 151 = some 35 := by kernel_rfl
  rw [h] at hf
  cases hf
  exact funcB_ok Tryd.func35 chk151

theorem chk152 : funcB Tryd.prog (fmOf fms env) (isPure tree.get) f152 Tryd.f36 = true := by kernel_rfl
theorem ok152 (f : FuncId) (hf : fmOf fms env 152 = some f) : DefRel Tryd.prog (fmOf fms env) tree.get (.code f152) f := by
  have h : fmOf fms env 152 = some 36 := by kernel_rfl
  rw [h] at hf
  cases hf
  exact funcB_ok Tryd.func36 chk152

theorem chk156 : funcB Tryd.prog (fmOf fms env) (isPure tree.get) f156 Tryd.f27 = true := by kernel_rfl
theorem ok156 (f : FuncId) (hf : fmOf fms env 156 = some f) : DefRel Tryd.prog (fmOf fms env) tree.get (.code f156) f := by
  have h : fmOf fms env 156 = some 27 := by kernel_rfl
  rw [h] at hf
  cases hf
  exact funcB_ok Tryd.func27 chk156

theorem chk157 : funcB Tryd.prog (fmOf fms env) (isPure tree.get) f157 Tryd.f28 = true := by kernel_rfl
theorem ok157 (f : FuncId) (hf : fmOf fms env 157 = some f) : DefRel Tryd.prog (fmOf fms env) tree.get (.code f157) f := by
  have h : fmOf fms env 157 = some 28 := by kernel_rfl
  rw [h] at hf
  cases hf
  exact funcB_ok Tryd.func28 chk157

theorem chk158 : funcB Tryd.prog (fmOf fms env) (isPure tree.get) f158 Tryd.f29 = true := by kernel_rfl
theorem ok158 (f : FuncId) (hf : fmOf fms env 158 = some f) : DefRel Tryd.prog (fmOf fms env) tree.get (.code f158) f := by
  have h : fmOf fms env 158 = some 29 := by kernel_rfl
  rw [h] at hf
  cases hf
  exact funcB_ok Tryd.func29 chk158

theorem chk159 : funcB Tryd.prog (fmOf fms env) (isPure tree.get) f159 Tryd.f45 = true := by kernel_rfl
theorem ok159 (f : FuncId) (hf : fmOf fms env 159 = some f) : DefRel Tryd.prog (fmOf fms env) tree.get (.code f159) f := by
  have h : fmOf fms env 159 = some 45 := by kernel_rfl
  rw [h] at hf
  cases hf
  exact funcB_ok Tryd.func45 chk159

theorem chk160 : funcB Tryd.prog (fmOf fms env) (isPure tree.get) f160 Tryd.f46 = true := by kernel_rfl
theorem ok160 (f : FuncId) (hf : fmOf fms env 160 = some f) : DefRel Tryd.prog (fmOf fms env) tree.get (.code f160) f := by
  have h : fmOf fms env 160 = some 46 := by kernel_rfl
  rw [h] at hf
  cases hf
  exact funcB_ok Tryd.func46 chk160

theorem chk161 : funcB Tryd.prog (fmOf fms env) (isPure tree.get) f161 Tryd.f40 = true := by kernel_rfl
theorem ok161 (f : FuncId) (hf : fmOf fms env 161 = some f) : DefRel Tryd.prog (fmOf fms env) tree.get (.code f161) f := by
  have h : fmOf fms env 161 = some 40 := by kernel_rfl
  rw [h] at hf
  cases hf
  exact funcB_ok Tryd.func40 chk161

theorem chk163 : funcB Tryd.prog (fmOf fms env) (isPure tree.get) f163 Tryd.f41 = true := by kernel_rfl
theorem ok163 (f : FuncId) (hf : fmOf fms env 163 = some f) : DefRel Tryd.prog (fmOf fms env) tree.get (.code f163) f := by
  have h : fmOf fms env 163 = some 41 := by kernel_rfl
  rw [h] at hf
  cases hf
  exact funcB_ok Tryd.func41 chk163

theorem chk164 : funcB Tryd.prog (fmOf fms env) (isPure tree.get) f164 Tryd.f42 = true := by kernel_rfl
theorem ok164 (f : FuncId) (hf : fmOf fms env 164 = some f) : DefRel Tryd.prog (fmOf fms env) tree.get (.code f164) f := by
  have h : fmOf fms env 164 = some 42 := by kernel_rfl
  rw [h] at hf
  cases hf
  exact funcB_ok Tryd.func42 chk164

theorem chk165 : funcB Tryd.prog (fmOf fms env) (isPure tree.get) f165 Tryd.f47 = true := by kernel_rfl
theorem ok165 (f : FuncId) (hf : fmOf fms env 165 = some f) : DefRel Tryd.prog (fmOf fms env) tree.get (.code f165) f := by
  have h : fmOf fms env 165 = some 47 := by kernel_rfl
  rw [h] at hf
  cases hf
  exact funcB_ok Tryd.func47 chk165

theorem chk166 : funcB Tryd.prog (fmOf fms env) (isPure tree.get) f166 Tryd.f48 = true := by kernel_rfl
theorem ok166 (f : FuncId) (hf : fmOf fms env 166 = some f) : DefRel Tryd.prog (fmOf fms env) tree.get (.code f166) f := by
  have h : fmOf fms env 166 = some 48 := by kernel_rfl
  rw [h] at hf
  cases hf
  exact funcB_ok Tryd.func48 chk166

theorem chk167 : funcB Tryd.prog (fmOf fms env) (isPure tree.get) f167 Tryd.f49 = true := by kernel_rfl
theorem ok167 (f : FuncId) (hf : fmOf fms env 167 = some f) : DefRel Tryd.prog (fmOf fms env) tree.get (.code f167) f := by
  have h : fmOf fms env 167 = some 49 := by kernel_rfl
  rw [h] at hf
  cases hf
  exact funcB_ok Tryd.func49 chk167

theorem chk176 : funcB Tryd.prog (fmOf fms env) (isPure tree.get) f176 Tryd.f3 = true := by kernel_rfl
theorem ok176 (f : FuncId) (hf : fmOf fms env 176 = some f) : DefRel Tryd.prog (fmOf fms env) tree.get (.code f176) f := by
  have h : fmOf fms env 176 = some 3 := by kernel_rfl
  rw [h] at hf
  cases hf
  exact funcB_ok Tryd.func3 chk176

theorem chk178 : funcB Tryd.prog (fmOf fms env) (isPure tree.get) f178 Tryd.f5 = true := by kernel_rfl
theorem ok178 (f : FuncId) (hf : fmOf fms env 178 = some f) : DefRel Tryd.prog (fmOf fms env) tree.get (.code f178) f := by
  have h : fmOf fms env 178 = some 5 := by kernel_rfl
  rw [h] at hf
  cases hf
  exact funcB_ok Tryd.func5 chk178

theorem chk179 : funcB Tryd.prog (fmOf fms env) (isPure tree.get) f179 Tryd.f6 = true := by kernel_rfl
theorem ok179 (f : FuncId) (hf : fmOf fms env 179 = some f) : DefRel Tryd.prog (fmOf fms env) tree.get (.code f179) f := by
  have h : fmOf fms env 179 = some 6 := by kernel_rfl
  rw [h] at hf
  cases hf
  exact funcB_ok Tryd.func6 chk179

theorem chk180 : funcB Tryd.prog (fmOf fms env) (isPure tree.get) f180 Tryd.f7 = true := by kernel_rfl
theorem ok180 (f : FuncId) (hf : fmOf fms env 180 = some f) : DefRel Tryd.prog (fmOf fms env) tree.get (.code f180) f := by
  have h : fmOf fms env 180 = some 7 := by kernel_rfl
  rw [h] at hf
  cases hf
  exact funcB_ok Tryd.func7 chk180

theorem chk181 : funcB Tryd.prog (fmOf fms env) (isPure tree.get) f181 Tryd.f8 = true := by kernel_rfl
theorem ok181 (f : FuncId) (hf : fmOf fms env 181 = some f) : DefRel Tryd.prog (fmOf fms env) tree.get (.code f181) f := by
  have h : fmOf fms env 181 = some 8 := by kernel_rfl
  rw [h] at hf
  cases hf
  exact funcB_ok Tryd.func8 chk181

theorem chk182 : funcB Tryd.prog (fmOf fms env) (isPure tree.get) f182 Tryd.f9 = true := by kernel_rfl
theorem ok182 (f : FuncId) (hf : fmOf fms env 182 = some f) : DefRel Tryd.prog (fmOf fms env) tree.get (.code f182) f := by
  have h : fmOf fms env 182 = some 9 := by kernel_rfl
  rw [h] at hf
  cases hf
  exact funcB_ok Tryd.func9 chk182

theorem chk183 : funcB Tryd.prog (fmOf fms env) (isPure tree.get) f183 Tryd.f11 = true := by kernel_rfl
theorem ok183 (f : FuncId) (hf : fmOf fms env 183 = some f) : DefRel Tryd.prog (fmOf fms env) tree.get (.code f183) f := by
  have h : fmOf fms env 183 = some 11 := by kernel_rfl
  rw [h] at hf
  cases hf
  exact funcB_ok Tryd.func11 chk183

theorem chk184 : funcB Tryd.prog (fmOf fms env) (isPure tree.get) f184 Tryd.f12 = true := by kernel_rfl
theorem ok184 (f : FuncId) (hf : fmOf fms env 184 = some f) : DefRel Tryd.prog (fmOf fms env) tree.get (.code f184) f := by
  have h : fmOf fms env 184 = some 12 := by kernel_rfl
  rw [h] at hf
  cases hf
  exact funcB_ok Tryd.func12 chk184

theorem chk185 : funcB Tryd.prog (fmOf fms env) (isPure tree.get) f185 Tryd.f13 = true := by kernel_rfl
theorem ok185 (f : FuncId) (hf : fmOf fms env 185 = some f) : DefRel Tryd.prog (fmOf fms env) tree.get (.code f185) f := by
  have h : fmOf fms env 185 = some 13 := by kernel_rfl
  rw [h] at hf
  cases hf
  exact funcB_ok Tryd.func13 chk185

theorem chk186 : funcB Tryd.prog (fmOf fms env) (isPure tree.get) f186 Tryd.f15 = true := by kernel_rfl
theorem ok186 (f : FuncId) (hf : fmOf fms env 186 = some f) : DefRel Tryd.prog (fmOf fms env) tree.get (.code f186) f := by
  have h : fmOf fms env 186 = some 15 := by kernel_rfl
  rw [h] at hf
  cases hf
  exact funcB_ok Tryd.func15 chk186

theorem chk187 : funcB Tryd.prog (fmOf fms env) (isPure tree.get) f187 Tryd.f16 = true := by kernel_rfl
theorem ok187 (f : FuncId) (hf : fmOf fms env 187 = some f) : DefRel Tryd.prog (fmOf fms env) tree.get (.code f187) f := by
  have h : fmOf fms env 187 = some 16 := by kernel_rfl
  rw [h] at hf
  cases hf
  exact funcB_ok Tryd.func16 chk187

theorem chk188 : funcB Tryd.prog (fmOf fms env) (isPure tree.get) f188 Tryd.f18 = true := by kernel_rfl
theorem ok188 (f : FuncId) (hf : fmOf fms env 188 = some f) : DefRel Tryd.prog (fmOf fms env) tree.get (.code f188) f := by
  have h : fmOf fms env 188 = some 18 := by kernel_rfl
  rw [h] at hf
  cases hf
  exact funcB_ok Tryd.func18 chk188

theorem chk189 : funcB Tryd.prog (fmOf fms env) (isPure tree.get) f189 Tryd.f19 = true := by kernel_rfl
theorem ok189 (f : FuncId) (hf : fmOf fms env 189 = some f) : DefRel Tryd.prog (fmOf fms env) tree.get (.code f189) f := by
  have h : fmOf fms env 189 = some 19 := by kernel_rfl
  rw [h] at hf
  cases hf
  exact funcB_ok Tryd.func19 chk189

theorem chk190 : funcB Tryd.prog (fmOf fms env) (isPure tree.get) f190 Tryd.f20 = true := by kernel_rfl
theorem ok190 (f : FuncId) (hf : fmOf fms env 190 = some f) : DefRel Tryd.prog (fmOf fms env) tree.get (.code f190) f := by
  have h : fmOf fms env 190 = some 20 := by kernel_rfl
  rw [h] at hf
  cases hf
  exact funcB_ok Tryd.func20 chk190

theorem chk191 : funcB Tryd.prog (fmOf fms env) (isPure tree.get) f191 Tryd.f21 = true := by kernel_rfl
theorem ok191 (f : FuncId) (hf : fmOf fms env 191 = some f) : DefRel Tryd.prog (fmOf fms env) tree.get (.code f191) f := by
  have h : fmOf fms env 191 = some 21 := by kernel_rfl
  rw [h] at hf
  cases hf
  exact funcB_ok Tryd.func21 chk191

theorem chk192 : funcB Tryd.prog (fmOf fms env) (isPure tree.get) f192 Tryd.f22 = true := by kernel_rfl
theorem ok192 (f : FuncId) (hf : fmOf fms env 192 = some f) : DefRel Tryd.prog (fmOf fms env) tree.get (.code f192) f := by
  have h : fmOf fms env 192 = some 22 := by kernel_rfl
  rw [h] at hf
  cases hf
  exact funcB_ok Tryd.func22 chk192

theorem chk193 : funcB Tryd.prog (fmOf fms env) (isPure tree.get) f193 Tryd.f23 = true := by kernel_rfl
theorem ok193 (f : FuncId) (hf : fmOf fms env 193 = some f) : DefRel Tryd.prog (fmOf fms env) tree.get (.code f193) f := by
  have h : fmOf fms env 193 = some 23 := by kernel_rfl
  rw [h] at hf
  cases hf
  exact funcB_ok Tryd.func23 chk193

theorem chk194 : funcB Tryd.prog (fmOf fms env) (isPure tree.get) f194 Tryd.f24 = true := by kernel_rfl
theorem ok194 (f : FuncId) (hf : fmOf fms env 194 = some f) : DefRel Tryd.prog (fmOf fms env) tree.get (.code f194) f := by
  have h : fmOf fms env 194 = some 24 := by kernel_rfl
  rw [h] at hf
  cases hf
  exact funcB_ok Tryd.func24 chk194

theorem chk195 : funcB Tryd.prog (fmOf fms env) (isPure tree.get) f195 Tryd.f25 = true := by kernel_rfl
theorem ok195 (f : FuncId) (hf : fmOf fms env 195 = some f) : DefRel Tryd.prog (fmOf fms env) tree.get (.code f195) f := by
  have h : fmOf fms env 195 = some 25 := by kernel_rfl
  rw [h] at hf
  cases hf
  exact funcB_ok Tryd.func25 chk195

theorem chk196 : funcB Tryd.prog (fmOf fms env) (isPure tree.get) f196 Tryd.f30 = true := by kernel_rfl
theorem ok196 (f : FuncId) (hf : fmOf fms env 196 = some f) : DefRel Tryd.prog (fmOf fms env) tree.get (.code f196) f := by
  have h : fmOf fms env 196 = some 30 := by kernel_rfl
  rw [h] at hf
  cases hf
  exact funcB_ok Tryd.func30 chk196

theorem chk197 : funcB Tryd.prog (fmOf fms env) (isPure tree.get) f197 Tryd.f31 = true := by kernel_rfl
theorem ok197 (f : FuncId) (hf : fmOf fms env 197 = some f) : DefRel Tryd.prog (fmOf fms env) tree.get (.code f197) f := by
  have h : fmOf fms env 197 = some 31 := by kernel_rfl
  rw [h] at hf
  cases hf
  exact funcB_ok Tryd.func31 chk197

theorem chk198 : funcB Tryd.prog (fmOf fms env) (isPure tree.get) f198 Tryd.f37 = true := by kernel_rfl
theorem ok198 (f : FuncId) (hf : fmOf fms env 198 = some f) : DefRel Tryd.prog (fmOf fms env) tree.get (.code f198) f := by
  have h : fmOf fms env 198 = some 37 := by kernel_rfl
  rw [h] at hf
  cases hf
  exact funcB_ok Tryd.func37 chk198

theorem chk199 : funcB Tryd.prog (fmOf fms env) (isPure tree.get) f199 Tryd.f39 = true := by kernel_rfl
theorem ok199 (f : FuncId) (hf : fmOf fms env 199 = some f) : DefRel Tryd.prog (fmOf fms env) tree.get (.code f199) f := by
  have h : fmOf fms env 199 = some 39 := by kernel_rfl
  rw [h] at hf
  cases hf
  exact funcB_ok Tryd.func39 chk199

theorem chk200 : funcB Tryd.prog (fmOf fms env) (isPure tree.get) f200 Tryd.f43 = true := by kernel_rfl
theorem ok200 (f : FuncId) (hf : fmOf fms env 200 = some f) : DefRel Tryd.prog (fmOf fms env) tree.get (.code f200) f := by
  have h : fmOf fms env 200 = some 43 := by kernel_rfl
  rw [h] at hf
  cases hf
  exact funcB_ok Tryd.func43 chk200

theorem chk201 : funcB Tryd.prog (fmOf fms env) (isPure tree.get) f201 Tryd.f44 = true := by kernel_rfl
theorem ok201 (f : FuncId) (hf : fmOf fms env 201 = some f) : DefRel Tryd.prog (fmOf fms env) tree.get (.code f201) f := by
  have h : fmOf fms env 201 = some 44 := by kernel_rfl
  rw [h] at hf
  cases hf
  exact funcB_ok Tryd.func44 chk201

theorem tabOk : TabRel Tryd.prog (fmOf fms env) tree.get := tabRel_tree (t := tree) ⟨⟨⟨⟨⟨ok28, ok50⟩, ⟨ok143, ⟨ok144, ok147⟩⟩⟩, ⟨⟨ok148, ⟨ok149, ok150⟩⟩, ⟨ok151, ⟨ok152, ok156⟩⟩⟩⟩, ⟨⟨⟨ok157, ⟨ok158, ok159⟩⟩, ⟨ok160, ⟨ok161, ok163⟩⟩⟩, ⟨⟨ok164, ⟨ok165, ok166⟩⟩, ⟨ok167, ⟨ok176, ok178⟩⟩⟩⟩⟩, ⟨⟨⟨⟨ok179, ok180⟩, ⟨ok181, ⟨ok182, ok183⟩⟩⟩, ⟨⟨ok184, ⟨ok185, ok186⟩⟩, ⟨ok187, ⟨ok188, ok189⟩⟩⟩⟩, ⟨⟨⟨ok190, ⟨ok191, ok192⟩⟩, ⟨ok193, ⟨ok194, ok195⟩⟩⟩, ⟨⟨ok196, ⟨ok197, ok198⟩⟩, ⟨ok199, ⟨ok200, ok201⟩⟩⟩⟩⟩⟩

end Go.D.Tab
