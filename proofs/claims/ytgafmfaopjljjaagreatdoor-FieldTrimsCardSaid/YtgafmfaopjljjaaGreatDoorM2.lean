import Derived.Test.YtgafmfaopjljjaaGreatDoorChecked
import Derived.KernelRfl
import Derived.IntWalk
import Derived.ChangeArms
import Derived.DataReads
import Derived.OpenShut
import Derived.SizedLaws
import Derived.Below
import Derived.WideKeyArgs
import Derived.Test.YtgafmfaopjljjaaGreatDoorM1
/-! Texts 2 of this claim, joined. -/
set_option linter.unnecessarySimpa false
set_option linter.unusedSimpArgs false
set_option linter.unusedVariables false
open _root_.Array renaming getD_eq_getD_getElem? → aag, getElem?_eq_some_iff → aa6
open _root_.Bool renaming and_eq_true → aac, eq_iff_iff → aaW, false_eq_true → aaq
open _root_.Classical renaming choose_spec → aaR
open _root_.Int renaming negSucc_eq → aaO, ofNat → abs, ofNat_eq_natCast → aaI
open _root_.List renaming all_cons → aa3, all_eq_true → aaf, append_assoc → aas, getD_eq_getElem?_getD → aak, getElem?_append_left → aaj, getElem?_append_right → aat, getElem?_eq_getElem → aaa, getElem?_eq_some_iff → aae, getElem?_map → abe, getElem_append_left → aa0, getElem_append_right → aaV, getElem_mem → aar, getElem_of_mem → aa9, length_append → aah, length_cons → aax, length_eq_zero_iff → aaU, length_map → aaM, map_congr_left → abA, map_cons → aaS, mem_append → aaL, mem_cons → aav, mem_cons_of_mem → aan, mem_cons_self → aap, mem_flatMap → aaH, mem_map → aaT, mem_of_mem_drop → aao, mem_of_mem_take → aaz, mem_range → abz, range → aal, take_append_drop → aaQ, take_of_length_le → aa8
open _root_.Nat renaming beq → aaD, eq_of_beq_eq_true → aaJ, le_of_ble_eq_true → aaG, le_refl → aai, le_trans → abu, mul_le_mul_right → aaC, succ → abv
open _root_.Option renaming map_eq_some_iff → aad, map_none → abw, map_some → abg, some → aab
section
namespace Go.D.Tab
def f146:aj:=⟨[.cell 4 2 true],(.seq (.region [σ 4 (.alloc [δ,δ])] [0,1,4]) (.seq (.region [μ 8 0,μ 9 1,γ 10 .add 9 1,σ 11 (.call 153 [.t 8,.t 10,(.f 154)]),μ 7 11,ε 12 7 0,ε 13 7 1,μ 5 12,μ 6 13] [0,1,4,5]) (.seq (.seq (.region [μ 14 5,μ 15 0,ν 16 .slice 15,β 17 .lss 14 16] [0,1,4,5,17]) (.cond (.t 17) (.seq (.region [μ 18 0,μ 19 5,ι 20 2 18 19,Λ 21 2 20,ω 2 4 21] [4]) .ret) .skip)) (.seq (.region [μ 22 1,γ 23 .quo 22 48,γ 24 .add 23 1,γ 25 .mul 24 48,σ 26 (.build [δ,δ] [(0,1,(.t 25))]),ω 2 4 26] [4]) .ret)))),true⟩
def Cr:RC:=(.seq (.seq (.region [μ 15 9,μ 16 10,β 17 .lss 15 16] [0,1,2,8,9,10,17]) (.cond (.t 17) .skip (.exit 0))) (.block 1 (.seq (.region [μ 18 9,μ 19 10,β 20 .add 18 19,σ 21 (.i2i .u64 (.t 20)),σ 22 (.bin .shr (.t 21) (.c (.int .u64 (.ofNat 1)))),σ 23 (.i2i .i64 (.t 22)),μ 11 23] [0,1,2,8,9,10,11]) (.seq (.region [μ 24 2,μ 25 0,μ 26 11,ι 27 2 25 26,Λ 28 2 27,μ 29 1,σ 30 (.bz (.t 24) [.t 28,.t 29]),γ 31 .lss 30 0] [0,1,2,8,9,10,11,31]) (.cond (.t 31) (.region [μ 32 11,γ 33 .add 32 1,μ 9 33] [0,1,2,8,9,10]) (.region [μ 34 11,μ 10 34] [0,1,2,8,9,10]))))))
def ym:RC:=.loop [0,1,2,8,9,10] Cr
def f153:aj:=⟨[.t 6,.t 7],(.seq (.region [η 6 0,σ 7 (.mv (.c (.bool false)))] [0,1,2]) (.seq (.region [μ 12 0,ν 13 .slice 12,μ 8 13] [0,1,2,8]) (.seq (.region [μ 14 8,η 9 0,μ 10 14] [0,1,2,8,9,10]) (.seq (.block 0 ym) (.seq (.region [μ 35 9,μ 36 9,μ 37 8,β 38 .lss 36 37,μ 39 38,Μ 40 2 39 true,Μ 41 0 39 true,Μ 42 9 39 true,τ 43 (.aY 2 (.t 41) (.t 42)) 39 true,τ 44 (.load 2 true (.t 43)) 39 true,Μ 45 1 39 true,τ 46 (.bz (.t 40) [.t 44,.t 45]) 39 true,τ 47 (.bin .eql (.t 46) (κ 0)) 39 true,ξ 48 39 47,μ 6 35,μ 7 48] [6,7]) .ret))))),false⟩
def f154:aj:=⟨[.t 4],(.seq (.region [σ 2 (.box 2 (.t 0)),η 4 0] [1,2]) (.seq (.region [φ 5 0 2,ρ 6 5,μ 7 1,σ 8 (.call 155 [.t 6,.t 7]),μ 4 8] [4]) .ret)),true⟩
def f155:aj:=⟨[.t 4],(.seq (.region [η 4 0] [0,1]) (.seq (.region [μ 7 0,σ 8 (.call 162 [.t 7]),μ 5 8] [0,1,5]) (.seq (.region [μ 9 1,σ 10 (.call 162 [.t 9]),μ 6 10] [0,1,5,6]) (.seq (.seq (.region [μ 11 5] [0,1,6,11]) (.cond (.t 11) (.seq (.seq (.region [μ 12 6] [12]) (.cond (.t 12) (.seq (.region [η 4 0] [4]) .ret) .skip)) (.seq (.region [σ 4 (.mv (.c (.int .i64 (.negSucc 0))))] [4]) .ret)) .skip)) (.seq (.seq (.region [μ 13 6] [0,1,13]) (.cond (.t 13) (.seq (.region [η 4 1] [4]) .ret) .skip)) (.seq (.seq (.region [μ 14 0,μ 15 1,β 16 .lss 14 15] [0,1,16]) (.cond (.t 16) (.seq (.region [σ 4 (.mv (.c (.int .i64 (.negSucc 0))))] [4]) .ret) .skip)) (.seq (.seq (.region [μ 17 0,μ 18 1,β 19 .gtr 17 18] [19]) (.cond (.t 19) (.seq (.region [η 4 1] [4]) .ret) .skip)) (.seq (.region [η 4 0] [4]) .ret)))))))),true⟩
def f162:aj:=⟨[.t 2],(.seq (.region [σ 2 (.mv (.c (.bool false)))] [0]) (.seq (.region [μ 3 0,μ 4 0,β 5 .neq 3 4,μ 2 5] [2]) .ret)),true⟩
def f211:aj:=⟨[.t 2,.t 3],(.seq (.region [σ 1 (.box 21 (.t 0)),η 2 0,η 3 0] [1]) (.seq (.region [Λ 7 21 1,σ 8 (.call 10 [.t 7]),μ 6 8,ε 9 6 0,ε 10 6 1,μ 4 9,μ 5 10] [1,4,5]) (.seq (.seq (.region [μ 11 5,γ 12 .neq 11 0] [1,4,5,12]) (.cond (.t 12) (.seq (.region [μ 13 5,η 2 0,μ 3 13] [2,3]) .ret) .skip)) (.seq (.region [Λ 14 21 1,μ 15 4,σ 16 (.call 234 [.t 14,.t 15]),μ 2 16,η 3 0] [2,3]) .ret)))),true⟩
def f234:aj:=⟨[.t 4],(.seq (.region [σ 2 (.box 21 (.t 0)),η 4 0] [1,2]) (.seq (.seq (.region [φ 7 2 2,φ 8 14 7,ρ 9 8,γ 10 .lss 9 2,μ 11 10,Μ 12 1 11 false,τ 13 (.len .slice (.t 12)) 11 false,τ 14 (.bin .eql (.t 13) (κ 0)) 11 false,ζ 15 11 14,μ 16 15,Μ 17 1 16 false,τ 18 (.aY 6 (.t 17) (κ 0)) 16 false,Φ 19 2 18 16 false,Ρ 20 19 16 false,τ 21 (.bin .neq (.t 20) (κ 1)) 16 false,ζ 22 16 21] [2,22]) (.cond (.t 22) (.seq (.region [η 4 0] [4]) .ret) .skip)) (.seq (.av [φ 24 0 2,ρ 25 24,σ 26 (.slice true 1 (.t 25) none (some (κ 1)) none),φ 27 2 2,φ 28 0 27,ρ 29 28,φ 30 2 2,φ 31 14 30,ρ 32 31,β 33 .mul 29 32,σ 34 (.min [.t 33,(κ 64)]),σ 35 (.call 17 [.t 26,.t 34]),μ 23 35,ε 36 23 0,ε 37 23 1,μ 5 36,μ 6 37] [] [] [5]) (.seq (.region [μ 38 5,γ 39 .add 38 4,μ 4 39] [4]) .ret)))),true⟩
def fC:RC:=(.seq (.seq (.region [μ 23 10,μ 24 5,ν 25 .slice 24,β 26 .leq 23 25] [1,5,6,7,8,9,10,26]) (.cond (.t 26) .skip (.exit 0))) (.seq (.block 1 (.seq (.seq (.region [μ 29 10,μ 30 5,ν 31 .slice 30,β 32 .lss 29 31,μ 33 32,Μ 34 5 33 true,Μ 35 10 33 true,τ 36 (.aY 6 (.t 34) (.t 35)) 33 true,τ 37 (.load 6 true (.t 36)) 33 true,τ 38 (.call 261 [.t 37]) 33 true,ξ 39 33 38] [1,5,6,7,8,9,10,39]) (.cond (.t 39) (.seq (.seq (.region [μ 40 10,μ 41 9,β 42 .eql 40 41,μ 43 42,Μ 44 10 43 false,τ 45 (.bin .eql (.t 44) (κ 0)) 43 false,ζ 46 43 45] [1,5,6,7,8,9,10,46]) (.cond (.t 46) (.exit 1) .skip)) (.seq (.av [Λ 47 21 1,μ 48 5,μ 49 10,γ 50 .sub 49 1,ι 51 6 48 50,Λ 52 6 51,σ 53 (.call 262 [.t 47,.t 52]),μ 54 53,τ 55 (.load 21 true (.t 1)) 54 true,Μ 56 5 54 true,Μ 57 10 54 true,τ 58 (.aY 6 (.t 56) (.t 57)) 54 true,τ 59 (.load 6 true (.t 58)) 54 true,τ 60 (.call 262 [.t 55,.t 59]) 54 true,τ 61 (.un .not (.t 60)) 54 true,ξ 62 54 61,μ 63 62,Μ 64 10 63 true,τ 65 (.bin .sub (.t 64) (κ 1)) 63 true,Μ 66 8 63 true,τ 67 (.bin .gtr (.t 65) (.t 66)) 63 true,ξ 68 63 67,μ 11 68] [] [] [1,5,6,7,8,9,10,11]) (.seq (.seq (.region [μ 69 6,μ 70 10,ι 71 1 69 70,ρ 72 71,μ 73 72,Μ 74 11 73 false,ζ 75 73 74] [1,5,6,7,8,9,10,75]) (.cond (.t 75) (.seq (.region [μ 76 7,μ 77 5,μ 78 9,μ 79 10,σ 80 (.call 263 [.t 77,.t 78,.t 79]),σ 81 (.lit 8 true [δ,δ,δ,δ,δ,δ,δ,(.bool false)] 1 [(0,(.t 80))]),σ 82 (.append 8 true 64 (.t 76) (.t 81)),μ 7 82] [1,5,6,7,8,10]) (.seq (.av [μ 83 5,μ 84 10,ι 85 6 83 84,φ 86 0 85,ρ 87 86,μ 88 5,μ 89 10,ι 90 6 88 89,φ 91 0 90,ρ 92 91,σ 93 (.build [δ,δ,δ,δ,δ,δ,δ,(.bool false)] [(0,1,(κ 3)),(1,1,(.t 87)),(2,1,(.t 92)),(6,1,(κ 50))]),σ 12 (.alloc [δ,δ,δ,δ,δ,δ,δ,(.bool false)]),ω 8 12 93] [] [(4,[1]),(9,[1])] [1,5,6,7,8,10,12]) (.seq (.seq (.region [μ 94 6,μ 95 10,ι 96 1 94 95,ρ 97 96] [1,5,6,7,8,10,12,97]) (.cond (.t 97) (.seq (.region [φ 98 6 12,⟨none,.store 1 (.t 98) (κ 100),none⟩] [1,5,6,7,8,10,12]) (.seq (.region [φ 99 7 12,⟨none,.store 1 (.t 99) (.c (.bool true)),none⟩] [1,5,6,7,8,10,12]) (.region [μ 100 5,μ 101 10,ι 102 6 100 101,φ 103 3 102,ρ 104 103,σ 105 (.call 37 [(.c (.int .u8 (.ofNat 45))),.t 104]),φ 106 3 12,ω 1 106 105] [1,5,6,7,8,10,12]))) .skip)) (.seq (.region [μ 107 7,Λ 108 8 12,σ 109 (.lit 8 true [δ,δ,δ,δ,δ,δ,δ,(.bool false)] 1 [(0,(.t 108))]),σ 110 (.append 8 true 64 (.t 107) (.t 109)),μ 7 110] [1,5,6,7,8,10]) (.region [μ 111 10,μ 9 111] [1,5,6,7,8,9,10]))))) .skip)) (.exit 1)))) .skip)) (.seq (.seq (.region [μ 112 9,μ 113 10,β 114 .lss 112 113] [1,5,6,7,9,10,114]) (.cond (.t 114) (.region [μ 115 7,μ 116 5,μ 117 9,μ 118 10,σ 119 (.call 263 [.t 116,.t 117,.t 118]),σ 120 (.lit 8 true [δ,δ,δ,δ,δ,δ,δ,(.bool false)] 1 [(0,(.t 119))]),σ 121 (.append 8 true 64 (.t 115) (.t 120)),μ 7 121] [1,5,6,7,10]) .skip)) (.seq (.region [μ 122 10,γ 123 .add 122 1,μ 9 123] [1,5,6,7,9,10]) (.seq (.region [μ 124 10,γ 125 .add 124 1,μ 8 125] [1,5,6,7,8,9,10]) (.seq (.region [μ 126 10,μ 127 5,ν 128 .slice 127,β 129 .lss 126 128] [1,5,6,7,8,9,10,129]) (.cond (.t 129) (.region [μ 130 7,μ 131 5,μ 132 10,ι 133 6 131 132,Λ 134 6 133,σ 135 (.call 264 [.t 134]),σ 136 (.lit 8 true [δ,δ,δ,δ,δ,δ,δ,(.bool false)] 1 [(0,(.t 135))]),σ 137 (.append 8 true 64 (.t 130) (.t 136)),μ 7 137] [1,5,6,7,8,9,10]) .skip))))))) (.region [μ 27 10,γ 28 .add 27 1,μ 10 28] [1,5,6,7,8,9,10])))
def gg:RC:=.loop [1,5,6,7,8,9,10] fC
def f238:aj:=⟨[.t 2,.t 3],(.seq (.region [σ 1 (.box 21 (.t 0)),σ 2 (.mv (.c θ)),η 3 0] [1]) (.seq (.region [Λ 13 21 1,σ 14 (.call 14 [.t 13]),μ 4 14] [1,4]) (.seq (.seq (.region [μ 15 4,γ 16 .neq 15 0] [1,4,16]) (.cond (.t 16) (.seq (.region [μ 17 4,σ 2 (.mv (.c θ)),μ 3 17] [2,3]) .ret) .skip)) (.seq (.region [Λ 18 21 1,σ 19 (.call 259 [.t 18]),μ 5 19] [1,5]) (.seq (.region [Λ 20 21 1,μ 21 5,σ 22 (.call 260 [.t 20,.t 21]),μ 6 22] [1,5,6]) (.seq (.region [σ 7 (.mv (.c θ))] [1,5,6,7]) (.seq (.region [η 8 0] [1,5,6,7,8]) (.seq (.region [η 9 0] [1,5,6,7,8,9]) (.seq (.seq (.region [η 10 0] [1,5,6,7,8,9,10]) (.block 0 gg)) (.seq (.region [μ 138 7,μ 2 138,η 3 0] [2,3]) .ret)))))))))),true⟩
def f239:aj:=⟨[.t 2],(.seq (.region [σ 1 (.box 21 (.t 0)),η 2 0] [1]) (.seq (.region [Λ 6 21 1,σ 7 (.call 11 [.t 6]),μ 5 7,ε 8 5 0,ε 9 5 1,μ 3 8,μ 4 9] [1,3]) (.seq (.seq (.region [Λ 10 21 1,μ 11 3,σ 12 (.call 258 [.t 10,.t 11]),σ 13 (.un .not (.t 12))] [1,13]) (.cond (.t 13) (.seq (.region [η 2 0] [2]) .ret) .skip)) (.seq (.av [φ 14 0 1,ρ 15 14,σ 16 (.index (.t 15) (κ 0)),φ 17 2 1,φ 18 0 17,ρ 19 18,φ 20 2 1,φ 21 14 20,ρ 22 21,β 23 .mul 19 22,σ 24 (.min [(κ 64),.t 23]),σ 25 (.call 37 [.t 16,.t 24]),γ 26 .add 25 4,μ 2 26] [] [] [2]) .ret)))),true⟩
def DQ:RC:=(.seq (.seq (.region [μ 6 5,μ 7 0,ν 8 .slice 7,β 9 .lss 6 8] [0,1,4,5,9]) (.cond (.t 9) .skip (.exit 0))) (.seq (.block 1 (.seq (.region [μ 12 0,μ 13 5,ι 14 2 12 13,φ 15 0 14,ρ 16 15,μ 17 1,β 18 .gtr 16 17] [0,1,4,5,18]) (.cond (.t 18) (.seq (.region [μ 19 0,μ 20 5,ι 21 2 19 20,Λ 22 2 21,ω 2 4 22] [4]) .ret) .skip))) (.region [μ 10 5,γ 11 .add 10 1,μ 5 11] [0,1,4,5])))
def wO:RC:=.loop [0,1,4,5] DQ
def f241:aj:=⟨[.cell 4 2 true],(.seq (.region [σ 4 (.alloc [δ,δ])] [0,1,4]) (.seq (.seq (.region [η 5 0] [0,1,4,5]) (.block 0 wO)) (.seq (.region [μ 23 1,γ 24 .quo 23 48,γ 25 .add 24 1,γ 26 .mul 25 48,σ 27 (.build [δ,δ] [(0,1,(.t 26))]),ω 2 4 27] [4]) .ret))),true⟩
def f258:aj:=⟨[.t 4],(.seq (.region [σ 2 (.box 21 (.t 0)),σ 4 (.mv (.c (.bool false)))] [1,2]) (.seq (.region [φ 5 2 2,φ 6 14 5,ρ 7 6,γ 8 .geq 7 2,μ 9 8,Μ 10 1 9 true,τ 11 (.len .slice (.t 10)) 9 true,τ 12 (.bin .gtr (.t 11) (κ 0)) 9 true,ξ 13 9 12,μ 14 13,Μ 15 1 14 true,τ 16 (.aY 6 (.t 15) (κ 0)) 14 true,Φ 17 2 16 14 true,Ρ 18 17 14 true,τ 19 (.bin .eql (.t 18) (κ 1)) 14 true,ξ 20 14 19,μ 4 20] [4]) .ret)),true⟩
def f259:aj:=⟨[.t 2],(.seq (.region [σ 1 (.box 21 (.t 0)),σ 2 (.mv (.c θ))] [1]) (.seq (.region [Λ 6 21 1,σ 7 (.call 11 [.t 6]),μ 5 7,ε 8 5 0,ε 9 5 1,μ 3 8,μ 4 9] [1,3]) (.seq (.seq (.region [Λ 10 21 1,μ 11 3,σ 12 (.call 258 [.t 10,.t 11])] [3,12]) (.cond (.t 12) (.seq (.region [μ 13 3,σ 14 (.slice false 6 (.t 13) (some (κ 1)) none none),μ 2 14] [2]) .ret) .skip)) (.seq (.region [μ 15 3,μ 2 15] [2]) .ret)))),true⟩
def K4:RC:=(.seq (.seq (.region [μ 55 8,μ 56 1,ν 57 .slice 56,β 58 .lss 55 57,μ 59 58,Μ 60 1 59 true,Μ 61 8 59 true,τ 62 (.call 274 [.t 60,.t 61]) 59 true,ξ 63 59 62] [1,2,5,6,7,8,63]) (.cond (.t 63) .skip (.exit 2))) (.seq (.block 3 (.av [μ 66 7,φ 67 0 2,ρ 68 67,μ 69 1,μ 70 8,ι 71 6 69 70,φ 72 0 71,ρ 73 72,μ 74 1,μ 75 8,ι 76 6 74 75,φ 77 0 76,ρ 78 77,γ 79 .add 78 1,σ 80 (.slice true 1 (.t 68) (some (.t 73)) (some (.t 79)) none),β 81 .add 66 80,μ 7 81] [] [] [1,2,5,6,7,8])) (.region [μ 64 8,γ 65 .add 64 1,μ 8 65] [1,2,5,6,7,8])))
def Lu:RC:=.loop [1,2,5,6,7,8] K4
def JW:RC:=(.seq (.seq (.region [μ 88 11,μ 89 9,ν 90 .slice 89,β 91 .lss 88 90] [1,2,5,6,9,11,91]) (.cond (.t 91) .skip (.exit 4))) (.seq (.block 5 (.region [μ 94 5,μ 95 6,μ 96 9,μ 97 11,ι 98 1 96 97,ρ 99 98,β 100 .add 95 99,ι 101 1 94 100,⟨none,.store 1 (.t 101) (.c (.bool true)),none⟩] [1,2,5,6,9,11])) (.region [μ 92 11,γ 93 .add 92 1,μ 11 93] [1,2,5,6,9,11])))
def JL:RC:=.loop [1,2,5,6,9,11] JW
def oK:RC:=(.seq (.seq (.region [μ 16 6,μ 17 1,ν 18 .slice 17,β 19 .lss 16 18] [1,2,5,6,19]) (.cond (.t 19) .skip (.exit 0))) (.seq (.block 1 (.seq (.seq (.region [μ 22 1,μ 23 6,ι 24 6 22 23,φ 25 2 24,ρ 26 25,γ 27 .neq 26 1,μ 28 27,Μ 29 1 28 false,Μ 30 6 28 false,τ 31 (.call 274 [.t 29,.t 30]) 28 false,ζ 32 28 31,μ 33 32,Φ 34 2 2 33 false,Φ 35 12 34 33 false,Ρ 36 35 33 false,τ 37 (.bin .eql (.t 36) (κ 0)) 33 false,ζ 38 33 37] [1,2,5,6,38]) (.cond (.t 38) (.exit 1) .skip)) (.seq (.av [φ 39 0 2,ρ 40 39,μ 41 1,μ 42 6,ι 43 6 41 42,φ 44 0 43,ρ 45 44,μ 46 1,μ 47 6,ι 48 6 46 47,φ 49 0 48,ρ 50 49,γ 51 .add 50 1,σ 52 (.slice true 1 (.t 40) (some (.t 45)) (some (.t 51)) none),μ 7 52] [] [] [1,2,5,6,7]) (.seq (.seq (.region [μ 53 6,γ 54 .add 53 1,μ 8 54] [1,2,5,6,7,8]) (.block 2 Lu)) (.seq (.region [σ 83 (.call 188 []),μ 84 7,σ 85 (.call 186 [.t 83,.t 84]),μ 82 85,ε 86 82 0,ε 87 82 1,μ 9 86,μ 10 87] [1,2,5,6,9]) (.seq (.region [η 11 0] [1,2,5,6,9,11]) (.block 4 JL))))))) (.region [μ 20 6,γ 21 .add 20 1,μ 6 21] [1,2,5,6])))
def mm:RC:=.loop [1,2,5,6] oK
def f260:aj:=⟨[.t 4],(.seq (.region [σ 2 (.box 21 (.t 0)),σ 4 (.mv (.c θ))] [1,2]) (.seq (.region [μ 12 1,ν 13 .slice 12,γ 14 .add 13 1,σ 15 (.cE 1 false 1 [(.bool false)] (.t 14) (.t 14)),μ 5 15] [1,2,5]) (.seq (.seq (.region [η 6 0] [1,2,5,6]) (.block 0 mm)) (.seq (.region [μ 102 5,μ 4 102] [4]) .ret)))),true⟩
def f261:aj:=⟨[.t 2],(.seq (.region [σ 1 (.box 6 (.t 0)),σ 2 (.mv (.c (.bool false)))] [1]) (.seq (.region [φ 3 2 1,ρ 4 3,γ 5 .neq 4 3,μ 6 5,Φ 7 2 1 6 true,Ρ 8 7 6 true,τ 9 (.bin .neq (.t 8) (κ 4)) 6 true,ξ 10 6 9,μ 11 10,Φ 12 2 1 11 true,Ρ 13 12 11 true,τ 14 (.bin .neq (.t 13) (κ 5)) 11 true,ξ 15 11 14,μ 2 15] [2]) .ret)),true⟩
def f262:aj:=⟨[.t 4],(.seq (.region [σ 2 (.box 21 (.t 0)),σ 3 (.box 6 (.t 1)),σ 4 (.mv (.c (.bool false)))] [2,3]) (.seq (.region [φ 5 2 3,ρ 6 5,γ 7 .eql 6 2,μ 8 7,Φ 9 0 2 8 true,Ρ 10 9 8 true,Φ 11 0 3 8 true,Ρ 12 11 8 true,τ 13 (.index (.t 10) (.t 12)) 8 true,τ 14 (.bin .eql (.t 13) (.c (.int .u8 (.ofNat 45)))) 8 true,ξ 15 8 14,μ 4 15] [4]) .ret)),true⟩
def f263:aj:=⟨[.cell 6 8 true],(.seq (.region [σ 6 (.alloc [δ,δ,δ,δ,δ,δ,δ,(.bool false)])] [0,1,2,6]) (.seq (.av [μ 7 0,μ 8 1,ι 9 6 7 8,φ 10 0 9,ρ 11 10,μ 12 0,μ 13 2,γ 14 .sub 13 1,ι 15 6 12 14,φ 16 1 15,ρ 17 16,μ 18 0,μ 19 1,μ 20 2,σ 21 (.call 53 [.t 18,.t 19,.t 20]),σ 22 (.build [δ,δ,δ,δ,δ,δ,δ,(.bool false)] [(0,1,(κ 1)),(1,1,(.t 11)),(2,1,(.t 17)),(3,1,(.t 21))]),ω 8 6 22] [] [] [6]) .ret)),true⟩
def f264:aj:=⟨[.cell 2 8 true],(.seq (.region [σ 1 (.box 6 (.t 0)),σ 2 (.alloc [δ,δ,δ,δ,δ,δ,δ,(.bool false)])] [1,2]) (.seq (.seq (.region [φ 3 2 1,ρ 4 3] [1,2,4]) (.block 0 (.seq (.region [γ 6 .eql 4 3,μ 5 6] [1,2,4,5]) (.cond (.t 5) (.seq (.region [φ 7 0 1,ρ 8 7,φ 9 1 1,ρ 10 9,φ 11 4 1,ρ 12 11,φ 13 4 1,ρ 14 13,γ 15 .quo 14 2,φ 16 4 1,ρ 17 16,γ 18 .quo 17 3,σ 19 (.build [δ,δ,δ,δ,δ,δ,δ,(.bool false)] [(0,1,(κ 2)),(1,1,(.t 8)),(2,1,(.t 10)),(3,1,(.t 12)),(4,1,(.t 15)),(5,1,(.t 18))]),ω 8 2 19] [2]) .ret) (.seq (.region [γ 21 .eql 4 4,μ 20 21] [1,2,20]) (.cond (.t 20) (.seq (.region [φ 22 0 1,ρ 23 22,φ 24 1 1,ρ 25 24,σ 26 (.build [δ,δ,δ,δ,δ,δ,δ,(.bool false)] [(0,1,(κ 4)),(1,1,(.t 23)),(2,1,(.t 25))]),ω 8 2 26] [2]) .ret) .skip)))))) (.seq (.av [φ 27 0 1,ρ 28 27,φ 29 1 1,ρ 30 29,φ 31 3 1,ρ 32 31,σ 33 (.call 37 [(.c (.int .u8 (.ofNat 45))),.t 32]),σ 34 (.build [δ,δ,δ,δ,δ,δ,δ,(.bool false)] [(0,1,(κ 3)),(1,1,(.t 28)),(2,1,(.t 30)),(3,1,(.t 33)),(6,1,(κ 50)),(7,1,(.c (.bool true)))]),ω 8 2 34] [] [] [2]) .ret))),true⟩
def f274:aj:=⟨[.t 4],(.seq (.region [σ 4 (.mv (.c (.bool false)))] [0,1]) (.seq (.av [μ 5 1,γ 6 .gtr 5 0,μ 7 6,Μ 8 0 7 true,Μ 9 1 7 true,τ 10 (.aY 6 (.t 8) (.t 9)) 7 true,Φ 11 2 10 7 true,Ρ 12 11 7 true,τ 13 (.bin .eql (.t 12) (κ 1)) 7 true,ξ 14 7 13,μ 15 14,Μ 16 0 15 true,Μ 17 1 15 true,τ 18 (.bin .sub (.t 17) (κ 1)) 15 true,τ 19 (.aY 6 (.t 16) (.t 18)) 15 true,Φ 20 2 19 15 true,Ρ 21 20 15 true,τ 22 (.bin .eql (.t 21) (κ 1)) 15 true,ξ 23 15 22,μ 24 23,Μ 25 0 24 true,Μ 26 1 24 true,τ 27 (.aY 6 (.t 25) (.t 26)) 24 true,Φ 28 3 27 24 true,Ρ 29 28 24 true,Μ 30 0 24 true,Μ 31 1 24 true,τ 32 (.bin .sub (.t 31) (κ 1)) 24 true,τ 33 (.aY 6 (.t 30) (.t 32)) 24 true,Φ 34 3 33 24 true,Ρ 35 34 24 true,τ 36 (.bin .eql (.t 29) (.t 35)) 24 true,ξ 37 24 36,μ 4 37] [] [] [4]) .ret)),true⟩
def f293:aj:=⟨[.t 2],(.seq (.region [η 2 0] [0,2]) (.seq (.seq (.region [μ 3 0,σ 4 (.bin .geq (.t 3) (.c (.int .u64 (.ofNat 4294967296))))] [0,2,4]) (.cond (.t 4) (.seq (.region [μ 5 0,σ 6 (.bin .shr (.t 5) (.c (.int .u64 (.ofNat 32)))),μ 0 6] [0]) (.region [η 2 32] [0,2])) .skip)) (.seq (.seq (.region [μ 7 0,σ 8 (.bin .geq (.t 7) (.c (.int .u64 (.ofNat 65536))))] [0,2,8]) (.cond (.t 8) (.seq (.region [μ 9 0,σ 10 (.bin .shr (.t 9) (.c (.int .u64 (.ofNat 16)))),μ 0 10] [0,2]) (.region [μ 11 2,γ 12 .add 11 16,μ 2 12] [0,2])) .skip)) (.seq (.seq (.region [μ 13 0,σ 14 (.bin .geq (.t 13) (.c (.int .u64 (.ofNat 256))))] [0,2,14]) (.cond (.t 14) (.seq (.region [μ 15 0,σ 16 (.bin .shr (.t 15) (.c (.int .u64 (.ofNat 8)))),μ 0 16] [0,2]) (.region [μ 17 2,γ 18 .add 17 8,μ 2 18] [0,2])) .skip)) (.seq (.region [μ 19 2,μ 20 0,σ 21 (.i2i .u8 (.t 20)),σ 22 (.index (.c (.str [0,1,2,2,3,3,3,3,4,4,4,4,4,4,4,4,5,5,5,5,5,5,5,5,5,5,5,5,5,5,5,5,6,6,6,6,6,6,6,6,6,6,6,6,6,6,6,6,6,6,6,6,6,6,6,6,6,6,6,6,6,6,6,6,7,7,7,7,7,7,7,7,7,7,7,7,7,7,7,7,7,7,7,7,7,7,7,7,7,7,7,7,7,7,7,7,7,7,7,7,7,7,7,7,7,7,7,7,7,7,7,7,7,7,7,7,7,7,7,7,7,7,7,7,7,7,7,7,8,8,8,8,8,8,8,8,8,8,8,8,8,8,8,8,8,8,8,8,8,8,8,8,8,8,8,8,8,8,8,8,8,8,8,8,8,8,8,8,8,8,8,8,8,8,8,8,8,8,8,8,8,8,8,8,8,8,8,8,8,8,8,8,8,8,8,8,8,8,8,8,8,8,8,8,8,8,8,8,8,8,8,8,8,8,8,8,8,8,8,8,8,8,8,8,8,8,8,8,8,8,8,8,8,8,8,8,8,8,8,8,8,8,8,8,8,8,8,8,8,8,8,8,8,8,8,8])) (.t 21)),σ 23 (.i2i .i64 (.t 22)),β 24 .add 19 23,μ 2 24] [2]) .ret))))),true⟩
def mO:RC:=(.seq (.region [β 52 .lss 51 50] [3,9,11,12,13,14,15,49,50,51,52]) (.seq (.cond (.t 52) .skip (.exit 0)) (.seq (.block 1 (.seq (.region [μ 53 51,ι 54 5 49 51,Λ 55 5 54,σ 17 (.alloc [δ,δ,(.bool false),(.bool false),δ]),μ 16 53,ω 5 17 55] [3,9,11,12,13,14,15,16,17,49,50,51]) (.seq (.region [μ 56 11,Λ 57 2 12,μ 58 16,σ 59 (.call 114 [.t 56,.t 57,.t 58]),σ 18 (.alloc [δ,δ]),ω 2 18 59] [3,9,11,12,13,14,15,16,17,18,49,50,51]) (.seq (.region [φ 60 0 3,ρ 61 60,ν 62 .str 61,μ 19 62] [3,9,11,12,13,14,15,16,17,18,19,49,50,51]) (.seq (.seq (.region [μ 63 16,γ 64 .add 63 1,φ 65 0 13,ρ 66 65,ν 67 .slice 66,β 68 .lss 64 67] [3,9,11,12,13,14,15,16,17,18,19,49,50,51,68]) (.cond (.t 68) (.region [μ 69 9,φ 70 0 13,ρ 71 70,μ 72 16,γ 73 .add 72 1,ι 74 5 71 73,φ 75 0 74,ρ 76 75,ι 77 8 69 76,φ 78 1 77,ρ 79 78,μ 19 79] [3,9,11,12,13,14,15,17,18,19,49,50,51]) .skip)) (.seq (.region [μ 80 15,μ 81 19,φ 82 0 18,ρ 83 82,φ 84 1 18,ρ 85 84,φ 86 4 17,ρ 87 86,φ 88 3 17,ρ 89 88,σ 90 (.build [δ,δ,δ,δ,δ,(.bool false),δ] [(0,1,(.t 80)),(1,1,(.t 81)),(2,1,(.t 83)),(3,1,(.t 85)),(4,1,(.t 87)),(5,1,(.t 89))]),σ 20 (.alloc [δ,δ,δ,δ,δ,(.bool false),δ]),ω 7 20 90] [3,9,11,12,13,14,17,18,19,20,49,50,51]) (.seq (.region [μ 92 9,φ 93 0 17,ρ 94 93,φ 95 1 17,ρ 96 95,σ 97 (.call 322 [.t 92,.t 94,.t 96]),μ 91 97,ε 98 91 0,ε 99 91 1,ε 100 91 2,μ 21 98,μ 22 99,μ 23 100] [3,9,11,12,13,14,17,18,19,20,22,49,50,51]) (.seq (.seq (.region [φ 101 1 13,ρ 102 101,μ 103 102,Φ 104 2 17 103 true,Ρ 105 104 103 true,ξ 106 103 105,μ 107 106,Φ 108 1 13 107 false,Ρ 109 108 107 false,τ 110 (.un .not (.t 109)) 107 false,Μ 111 110 107 false,Φ 112 4 17 111 true,Ρ 113 112 111 true,Φ 114 1 18 111 true,Ρ 115 114 111 true,Μ 116 22 111 true,τ 117 (.bin .add (.t 115) (.t 116)) 111 true,τ 118 (.bin .gtr (.t 113) (.t 117)) 111 true,τ 119 (.pick (.t 111) (.t 118) (.c (.bool false))) 107 false,ζ 120 107 119] [3,9,11,12,13,14,19,20,49,50,51,120]) (.cond (.t 120) (.region [φ 121 6 20,ρ 122 121,γ 123 .add 122 1,φ 124 6 20,ω 1 124 123] [3,9,11,12,13,14,19,20,49,50,51]) .skip)) (.seq (.seq (.region [φ 125 2 13,ρ 126 125] [3,9,11,12,13,14,19,20,49,50,51,126]) (.cond (.t 126) (.region [φ 127 6 20,ρ 128 127,γ 129 .add 128 2,φ 130 6 20,ω 1 130 129] [3,9,11,12,13,14,19,20,49,50,51]) .skip)) (.seq (.region [μ 131 14,Λ 132 7 20,σ 133 (.lit 7 true [δ,δ,δ,δ,δ,(.bool false),δ] 1 [(0,(.t 132))]),σ 134 (.append 7 true 56 (.t 131) (.t 133)),μ 14 134] [3,9,11,12,13,14,19,49,50,51]) (.region [μ 135 19,μ 15 135] [3,9,11,12,13,14,15,49,50,51]))))))))))) (.region [γ 136 .add 51 1,μ 51 136] [3,9,11,12,13,14,15,49,50,51]))))
def s5:RC:=.loop [3,9,11,12,13,14,15,49,50,51] mO
def f307:aj:=⟨[.t 6,.t 7],(.seq (.region [σ 3 (.box 21 (.t 0)),σ 5 (.box 2 (.t 2)),σ 6 (.mv (.c θ)),η 7 0] [1,3,5]) (.seq (.seq (.region [Λ 24 21 3,μ 25 1,Λ 26 2 5,σ 27 (.call 319 [.t 24,.t 25,.t 26]),μ 8 27] [1,3,5,8]) (.seq (.region [μ 28 8,γ 29 .neq 28 0] [1,3,5,8,29]) (.cond (.t 29) (.seq (.region [μ 30 8,σ 6 (.mv (.c θ)),μ 7 30] [6,7]) .ret) .skip))) (.seq (.region [Λ 32 21 3,σ 33 (.call 106 [.t 32]),μ 31 33,ε 34 31 0,ε 35 31 1,μ 9 34,μ 10 35] [1,3,5,9]) (.seq (.region [Λ 37 21 3,μ 38 1,Λ 39 2 5,σ 40 (.call 320 [.t 37,.t 38,.t 39]),μ 36 40,ε 41 36 0,ε 42 36 1,σ 12 (.alloc [δ,δ]),μ 11 41,ω 2 12 42] [3,9,11,12]) (.seq (.region [Λ 43 21 3,μ 44 9,μ 45 11,Λ 46 2 12,σ 47 (.call 321 [.t 43,.t 44,.t 45,.t 46]),σ 13 (.alloc [θ,(.bool false),(.bool false)]),ω 3 13 47] [3,9,11,12,13]) (.seq (.region [σ 14 (.mv (.c θ))] [3,9,11,12,13,14]) (.seq (.region [η 15 0] [3,9,11,12,13,14,15]) (.seq (.seq (.region [φ 48 0 13,ρ 49 48,ν 50 .slice 49,η 51 0] [3,9,11,12,13,14,15,49,50,51]) (.block 0 s5)) (.seq (.region [μ 137 14,μ 6 137,η 7 0] [6,7]) .ret))))))))),true⟩
def xg:RC:=(.seq (.seq (.region [μ 11 5,μ 12 0,ν 13 .slice 12,β 14 .lss 11 13] [0,1,5,14]) (.cond (.t 14) .skip (.exit 0))) (.seq (.block 1 (.seq (.av [μ 17 0,μ 18 5,ι 19 7 17 18,Λ 20 7 19,μ 21 1,μ 22 5,ι 23 7 21 22,Λ 24 7 23,σ 25 (.eq (.agg [.int,.int,.int,.int,.int,.bool,.int]) true (.t 20) (.t 24))] [] [] [0,1,5,25]) (.cond (.t 25) (.seq (.region [σ 4 (.mv (.c (.bool false)))] [4]) .ret) .skip))) (.region [μ 15 5,γ 16 .add 15 1,μ 5 16] [0,1,5])))
def tj:RC:=.loop [0,1,5] xg
def HC:aj:=⟨[.t 4],(.seq (.region [σ 4 (.mv (.c (.bool false)))] [0,1]) (.seq (.seq (.region [μ 6 0,ν 7 .slice 6,μ 8 1,ν 9 .slice 8,β 10 .neq 7 9] [0,1,10]) (.cond (.t 10) (.seq (.region [σ 4 (.mv (.c (.bool false)))] [4]) .ret) .skip)) (.seq (.seq (.region [η 5 0] [0,1,5]) (.block 0 tj)) (.seq (.region [σ 4 (.mv (.c (.bool true)))] [4]) .ret)))),true⟩
def mC:RC:=(.seq (.seq (.region [μ 72 21,μ 73 13,ν 74 .slice 73,β 75 .lss 72 74] [3,9,11,12,13,14,15,19,20,21,75]) (.cond (.t 75) .skip (.exit 0))) (.seq (.block 1 (.seq (.region [μ 78 13,μ 79 21,ι 80 5 78 79,Λ 81 5 80,σ 22 (.alloc [δ,δ,(.bool false),(.bool false),δ]),ω 5 22 81] [3,9,11,12,13,14,15,19,20,21,22]) (.seq (.region [μ 82 11,Λ 83 2 12,μ 84 21,σ 85 (.call 328 [.t 82,.t 83,.t 84]),σ 23 (.alloc [δ,δ]),ω 2 23 85] [3,9,11,12,13,14,15,19,20,21,22,23]) (.seq (.region [φ 86 0 3,ρ 87 86,ν 88 .str 87,μ 24 88] [3,9,11,12,13,14,15,19,20,21,22,23,24]) (.seq (.seq (.region [μ 89 21,γ 90 .add 89 1,μ 91 13,ν 92 .slice 91,β 93 .lss 90 92] [3,9,11,12,13,14,15,19,20,21,22,23,24,93]) (.cond (.t 93) (.region [μ 94 9,μ 95 13,μ 96 21,γ 97 .add 96 1,ι 98 5 95 97,φ 99 0 98,ρ 100 99,ι 101 8 94 100,φ 102 1 101,ρ 103 102,μ 24 103] [3,9,11,12,13,14,15,19,20,21,22,23,24]) .skip)) (.seq (.region [μ 105 9,φ 106 0 22,ρ 107 106,φ 108 1 22,ρ 109 108,σ 110 (.call 329 [.t 105,.t 107,.t 109]),μ 104 110,ε 111 104 0,ε 112 104 1,μ 25 111,μ 26 112] [3,9,11,12,13,14,15,19,20,21,22,23,24,26]) (.seq (.region [μ 113 14,μ 27 113] [3,9,11,12,13,14,15,19,20,21,22,23,24,26,27]) (.seq (.seq (.region [μ 114 15,μ 115 114,Φ 116 2 22 115 true,Ρ 117 116 115 true,ξ 118 115 117,μ 119 118,Μ 120 15 119 false,τ 121 (.un .not (.t 120)) 119 false,Μ 122 121 119 false,Φ 123 4 22 122 true,Ρ 124 123 122 true,Φ 125 1 23 122 true,Ρ 126 125 122 true,Μ 127 26 122 true,τ 128 (.bin .add (.t 126) (.t 127)) 122 true,τ 129 (.bin .gtr (.t 124) (.t 128)) 122 true,τ 130 (.pick (.t 122) (.t 129) (.c (.bool false))) 119 false,ζ 131 119 130] [3,9,11,12,13,14,15,19,20,21,22,23,24,27,131]) (.cond (.t 131) (.region [μ 132 27,γ 133 .add 132 1,μ 27 133] [3,9,11,12,13,14,15,19,20,21,22,23,24,27]) .skip)) (.seq (.region [μ 134 19,μ 135 20,μ 136 24,φ 137 0 23,ρ 138 137,φ 139 1 23,ρ 140 139,φ 141 4 22,ρ 142 141,φ 143 3 22,ρ 144 143,μ 145 27,σ 146 (.build [δ,δ,δ,δ,δ,(.bool false),δ] [(0,1,(.t 135)),(1,1,(.t 136)),(2,1,(.t 138)),(3,1,(.t 140)),(4,1,(.t 142)),(5,1,(.t 144)),(6,1,(.t 145))]),σ 147 (.lit 7 true [δ,δ,δ,δ,δ,(.bool false),δ] 1 [(0,(.t 146))]),σ 148 (.append 7 true 56 (.t 134) (.t 147)),μ 19 148] [3,9,11,12,13,14,15,19,21,24]) (.region [μ 149 24,μ 20 149] [3,9,11,12,13,14,15,19,20,21])))))))))) (.region [μ 76 21,γ 77 .add 76 1,μ 21 77] [3,9,11,12,13,14,15,19,20,21])))
def sP:RC:=.loop [3,9,11,12,13,14,15,19,20,21] mC
def AL:aj:=⟨[.t 6,.t 7],(.seq (.region [σ 3 (.box 21 (.t 0)),σ 5 (.box 2 (.t 2)),σ 6 (.mv (.c θ)),η 7 0] [1,3,5]) (.seq (.region [Λ 28 21 3,μ 29 1,Λ 30 2 5,σ 31 (.call 323 [.t 28,.t 29,.t 30]),μ 8 31] [1,3,5,8]) (.seq (.seq (.region [μ 32 8,γ 33 .neq 32 0] [1,3,5,8,33]) (.cond (.t 33) (.seq (.region [μ 34 8,σ 6 (.mv (.c θ)),μ 7 34] [6,7]) .ret) .skip)) (.seq (.region [Λ 36 21 3,σ 37 (.call 238 [.t 36]),μ 35 37,ε 38 35 0,ε 39 35 1,μ 9 38,μ 10 39] [1,3,5,9]) (.seq (.region [Λ 41 21 3,μ 42 1,Λ 43 2 5,σ 44 (.call 324 [.t 41,.t 42,.t 43]),μ 40 44,ε 45 40 0,ε 46 40 1,σ 12 (.alloc [δ,δ]),μ 11 45,ω 2 12 46] [3,9,11,12]) (.seq (.region [σ 13 (.mv (.c θ))] [3,9,11,12,13]) (.seq (.region [η 14 0] [3,9,11,12,13,14]) (.seq (.region [σ 15 (.mv (.c (.bool true)))] [3,9,11,12,13,14,15]) (.seq (.seq (.region [φ 47 2 3,φ 48 13 47,ρ 49 48,γ 50 .eql 49 1,μ 51 50,Μ 52 9 51 true,τ 53 (.call 325 [.t 52]) 51 true,τ 54 (.un .not (.t 53)) 51 true,ξ 55 51 54] [3,9,11,12,13,14,15,55]) (.cond (.t 55) (.seq (.region [μ 57 9,μ 58 11,Λ 59 2 12,σ 60 (.call 326 [.t 57,.t 58,.t 59]),μ 56 60,ε 61 56 0,ε 62 56 1,ε 63 56 2,μ 16 61,μ 17 62,μ 18 63] [3,9,11,12,13,14,15,16,18]) (.seq (.region [μ 64 18,γ 65 .eql 64 6] [3,9,11,12,13,14,15,16,65]) (.cond (.t 65) (.region [η 14 2] [3,9,11,12,13,14,15]) (.seq (.region [μ 66 16,μ 13 66] [3,9,11,12,13,14]) (.region [σ 15 (.mv (.c (.bool false)))] [3,9,11,12,13,14,15]))))) .skip)) (.seq (.seq (.region [μ 67 15] [3,9,11,12,13,14,15,67]) (.cond (.t 67) (.region [μ 68 9,μ 69 11,Λ 70 2 12,σ 71 (.call 327 [.t 68,.t 69,.t 70]),μ 13 71] [3,9,11,12,13,14,15]) .skip)) (.seq (.region [σ 19 (.mv (.c θ))] [3,9,11,12,13,14,15,19]) (.seq (.region [η 20 0] [3,9,11,12,13,14,15,19,20]) (.seq (.seq (.region [η 21 0] [3,9,11,12,13,14,15,19,20,21]) (.block 0 sP)) (.seq (.region [μ 150 19,μ 6 150,η 7 0] [6,7]) .ret)))))))))))))),true⟩
def CV:aj:=⟨[.t 6],(.seq (.region [σ 3 (.box 21 (.t 0)),σ 5 (.box 2 (.t 2)),η 6 0] [1,3,5]) (.seq (.seq (.region [Λ 8 21 3,σ 9 (.call 13 [.t 8]),μ 7 9] [1,5,7]) (.seq (.region [μ 10 7,γ 11 .neq 10 0] [1,5,7,11]) (.cond (.t 11) (.seq (.region [μ 12 7,μ 6 12] [6]) .ret) .skip))) (.seq (.region [μ 13 1,Λ 14 2 5,σ 15 (.call 126 [.t 13,.t 14]),μ 6 15] [6]) .ret))),true⟩
def xR:RC:=(.seq (.region [β 22 .lss 21 20] [1,3,5,7,8,9,10,20,21,22]) (.seq (.cond (.t 22) .skip (.exit 0)) (.seq (.block 1 (.seq (.region [μ 23 21,μ 11 23] [1,3,5,7,8,9,10,11,20,21]) (.av [μ 24 10,Λ 25 21 3,μ 26 8,μ 27 1,Λ 28 2 5,μ 29 11,σ 30 (.call 114 [.t 27,.t 28,.t 29]),μ 31 11,σ 32 (.call 331 [.t 25,.t 26,.t 30,.t 31]),σ 33 (.lit 2 true [δ,δ] 1 [(0,(.t 32))]),σ 34 (.append 2 true 16 (.t 24) (.t 33)),μ 10 34] [] [] [1,3,5,7,8,9,10,20,21]))) (.region [γ 35 .add 21 1,μ 21 35] [1,3,5,7,8,9,10,20,21]))))
def sn:RC:=.loop [1,3,5,7,8,9,10,20,21] xR
def GD:aj:=⟨[.t 6,.cell 7 2 true],(.seq (.region [σ 3 (.box 21 (.t 0)),σ 5 (.box 2 (.t 2)),σ 6 (.mv (.c θ)),σ 7 (.alloc [δ,δ])] [1,3,5,7]) (.seq (.region [Λ 12 21 3,σ 13 (.call 330 [.t 12]),μ 8 13] [1,3,5,7,8]) (.seq (.region [μ 14 1,ν 15 .slice 14,φ 16 2 3,φ 17 14 16,ρ 18 17,σ 19 (.max [.t 15,(κ 1),.t 18]),μ 9 19] [1,3,5,7,8,9]) (.seq (.region [σ 10 (.mv (.c θ))] [1,3,5,7,8,9,10]) (.seq (.seq (.region [μ 20 9,η 21 0] [1,3,5,7,8,9,10,20,21]) (.block 0 sn)) (.seq (.region [μ 36 10,Λ 37 21 3,μ 38 8,Λ 39 2 5,μ 40 9,σ 41 (.call 331 [.t 37,.t 38,.t 39,.t 40]),μ 6 36,ω 2 7 41] [6,7]) .ret)))))),true⟩
def Fx:aj:=⟨[.cell 8 3 true],(.seq (.region [σ 4 (.box 21 (.t 0)),σ 7 (.box 2 (.t 3)),σ 8 (.alloc [θ,(.bool false),(.bool false)])] [1,2,4,7,8]) (.seq (.region [σ 9 (.mv (.f 113)),σ 10 (.mv (.c (.bool true)))] [1,2,4,7,8,9,10]) (.seq (.seq (.region [φ 13 2 4,φ 14 13 13,ρ 15 14,γ 16 .eql 15 1,μ 17 16,Μ 18 1 17 true,τ 19 (.call 108 [.t 18]) 17 true,τ 20 (.un .not (.t 19)) 17 true,ξ 21 17 20] [1,2,7,8,9,10,21]) (.cond (.t 21) (.region [σ 9 (.mv (.f 332)),σ 10 (.mv (.c (.bool false)))] [1,2,7,8,9,10]) .skip)) (.seq (.region [μ 23 9,μ 24 1,μ 25 2,Λ 26 2 7,σ 27 (.bz (.t 23) [.t 24,.t 25,.t 26]),μ 22 27,ε 28 22 0,ε 29 22 1,μ 11 28,μ 12 29] [1,2,7,8,10,11,12]) (.seq (.seq (.region [μ 30 12,γ 31 .eql 30 0] [1,2,7,8,10,11,31]) (.cond (.t 31) (.seq (.region [μ 32 11,μ 33 10,σ 34 (.build [θ,(.bool false),(.bool false)] [(0,1,(.t 32)),(1,1,(.t 33)),(2,1,(.c (.bool false)))]),ω 3 8 34] [8]) .ret) .skip)) (.seq (.region [μ 36 1,μ 37 2,Λ 38 2 7,σ 39 (.call 113 [.t 36,.t 37,.t 38]),μ 35 39,ε 40 35 0,ε 41 35 1,μ 11 40] [8,11]) (.seq (.region [μ 42 11,σ 43 (.build [θ,(.bool false),(.bool false)] [(0,1,(.t 42)),(1,1,(.c (.bool true))),(2,1,(.c (.bool true)))]),ω 3 8 43] [8]) .ret))))))),true⟩
def wC:RC:=(.seq (.region [β 27 .lss 26 25] [10,11,24,25,26,27]) (.seq (.cond (.t 27) .skip (.exit 0)) (.seq (.block 1 (.seq (.region [ι 28 8 24 26,Λ 29 8 28,σ 13 (.alloc [δ,δ,δ,δ,δ,δ,δ,(.bool false)]),ω 8 13 29] [10,11,13,24,25,26]) (.seq (.region [μ 30 10,φ 31 4 13,ρ 32 31,β 33 .add 30 32,μ 10 33] [10,11,13,24,25,26]) (.region [μ 34 11,φ 35 5 13,ρ 36 35,β 37 .add 34 36,μ 11 37] [10,11,24,25,26])))) (.region [γ 38 .add 26 1,μ 26 38] [10,11,24,25,26]))))
def se:RC:=.loop [10,11,24,25,26] wC
def Ft:aj:=⟨[.t 6,.t 7,.t 8],(.seq (.region [η 6 0,η 7 0,η 8 0] [0,1,2]) (.seq (.seq (.region [μ 14 0,μ 15 1,μ 16 2,σ 17 (.call 121 [.t 14,.t 15,.t 16]),μ 9 17] [0,1,2,9]) (.seq (.region [μ 18 9,γ 19 .neq 18 0] [0,1,2,9,19]) (.cond (.t 19) (.seq (.region [μ 20 9,η 6 0,η 7 0,μ 8 20] [6,7,8]) .ret) .skip))) (.seq (.region [η 10 0,η 11 0] [0,1,2,10,11]) (.seq (.seq (.region [μ 21 0,μ 22 1,μ 23 2,σ 24 (.call 123 [.t 21,.t 22,.t 23]),ν 25 .slice 24,η 26 0] [10,11,24,25,26]) (.block 0 se)) (.seq (.region [μ 39 10,μ 40 11,μ 6 39,μ 7 40,η 8 0] [6,7,8]) .ret))))),true⟩
def E7:aj:=⟨[.t 6],(.seq (.region [σ 3 (.box 21 (.t 0)),σ 5 (.box 2 (.t 2)),η 6 0] [1,3,5]) (.seq (.region [Λ 8 21 3,σ 9 (.call 14 [.t 8]),μ 7 9] [1,5,7]) (.seq (.seq (.region [μ 10 7,γ 11 .eql 10 0] [1,5,7,11]) (.cond (.t 11) (.region [μ 12 1,Λ 13 2 5,σ 14 (.call 333 [.t 12,.t 13]),μ 7 14] [7]) .skip)) (.seq (.region [μ 15 7,μ 6 15] [6]) .ret)))),true⟩
def xz:RC:=(.seq (.seq (.region [μ 17 10,μ 18 8,β 19 .lss 17 18] [1,3,5,7,8,9,10,19]) (.cond (.t 19) .skip (.exit 0))) (.seq (.block 1 (.av [μ 22 9,Λ 23 21 3,μ 24 1,Λ 25 2 5,μ 26 10,σ 27 (.call 328 [.t 24,.t 25,.t 26]),μ 28 10,σ 29 (.call 334 [.t 23,.t 27,.t 28]),σ 30 (.lit 2 true [δ,δ] 1 [(0,(.t 29))]),σ 31 (.append 2 true 16 (.t 22) (.t 30)),μ 9 31] [] [] [1,3,5,7,8,9,10])) (.region [μ 20 10,γ 21 .add 20 1,μ 10 21] [1,3,5,7,8,9,10])))
def sS:RC:=.loop [1,3,5,7,8,9,10] xz
def Hy:aj:=⟨[.t 6,.cell 7 2 true],(.seq (.region [σ 3 (.box 21 (.t 0)),σ 5 (.box 2 (.t 2)),σ 6 (.mv (.c θ)),σ 7 (.alloc [δ,δ])] [1,3,5,7]) (.seq (.region [μ 11 1,ν 12 .slice 11,φ 13 2 3,φ 14 14 13,ρ 15 14,σ 16 (.max [.t 12,(κ 1),.t 15]),μ 8 16] [1,3,5,7,8]) (.seq (.region [σ 9 (.mv (.c θ))] [1,3,5,7,8,9]) (.seq (.seq (.region [η 10 0] [1,3,5,7,8,9,10]) (.block 0 sS)) (.seq (.region [μ 32 9,Λ 33 21 3,Λ 34 2 5,σ 35 (.call 334 [.t 33,.t 34,(κ 4096)]),μ 6 32,ω 2 7 35] [6,7]) .ret))))),true⟩
def Jm:RC:=(.seq (.seq (.region [μ 4 3,μ 5 0,ν 6 .slice 5,β 7 .lss 4 6] [0,3,7]) (.cond (.t 7) .skip (.exit 0))) (.seq (.block 1 (.seq (.region [μ 10 0,μ 11 3,ι 12 8 10 11,φ 13 0 12,ρ 14 13,γ 15 .eql 14 4] [0,3,15]) (.cond (.t 15) (.seq (.region [σ 2 (.mv (.c (.bool true)))] [2]) .ret) .skip))) (.region [μ 8 3,γ 9 .add 8 1,μ 3 9] [0,3])))
def JP:RC:=.loop [0,3] Jm
def Pu:aj:=⟨[.t 2],(.seq (.region [σ 2 (.mv (.c (.bool false)))] [0]) (.seq (.seq (.region [η 3 0] [0,3]) (.block 0 JP)) (.seq (.region [σ 2 (.mv (.c (.bool false)))] [2]) .ret))),true⟩
def o7:RC:=(.seq (.seq (.region [μ 10 7,μ 11 0,ν 12 .slice 11,β 13 .lss 10 12,μ 14 13,Μ 15 0 14 true,Μ 16 7 14 true,τ 17 (.aY 8 (.t 15) (.t 16)) 14 true,Φ 18 0 17 14 true,Ρ 19 18 14 true,τ 20 (.bin .eql (.t 19) (κ 2)) 14 true,ξ 21 14 20] [0,1,5,7,21]) (.cond (.t 21) .skip (.exit 0))) (.block 1 (.region [μ 22 7,γ 23 .add 22 1,μ 7 23] [0,1,5,7])))
def na:RC:=.loop [0,1,5,7] o7
def qb:RC:=(.seq (.seq (.region [μ 24 7,μ 25 0,ν 26 .slice 25,β 27 .lss 24 26] [0,1,5,7,8,27]) (.cond (.t 27) .skip (.exit 2))) (.block 3 (.seq (.region [μ 28 0,μ 29 7,μ 30 1,Λ 31 2 5,μ 32 8,ν 33 .slice 32,σ 34 (.call 328 [.t 30,.t 31,.t 33]),σ 35 (.call 341 [.t 28,.t 29,.t 34]),σ 9 (.alloc [δ,δ,(.bool false),(.bool false),δ]),ω 5 9 35] [0,1,5,8,9]) (.seq (.region [μ 36 8,Λ 37 5 9,σ 38 (.lit 5 true [δ,δ,(.bool false),(.bool false),δ] 1 [(0,(.t 37))]),σ 39 (.append 5 true 32 (.t 36) (.t 38)),μ 8 39] [0,1,5,8,9]) (.seq (.region [μ 40 0,φ 41 1 9,ρ 42 41,σ 43 (.call 340 [.t 40,.t 42]),μ 7 43] [0,1,5,7,8,9]) (.seq (.region [φ 44 1 9,ρ 45 44,μ 46 0,ν 47 .slice 46,β 48 .eql 45 47] [0,1,5,7,8,48]) (.cond (.t 48) (.seq (.region [μ 49 8,μ 6 49] [6]) .ret) .skip)))))))
def ey:RC:=.loop [0,1,5,7,8] qb
def AT:aj:=⟨[.t 6],(.seq (.region [σ 5 (.box 2 (.t 2)),σ 6 (.mv (.c θ))] [0,1,5]) (.seq (.region [η 7 0] [0,1,5,7]) (.seq (.block 0 na) (.seq (.region [σ 8 (.mv (.c θ))] [0,1,5,7,8]) (.seq (.block 2 ey) (.seq (.seq (.region [μ 50 8,ν 51 .slice 50,γ 52 .eql 51 0] [0,8,52]) (.cond (.t 52) (.seq (.region [μ 53 0,ν 54 .slice 53,μ 55 0,ν 56 .slice 55,σ 57 (.build [δ,δ,(.bool false),(.bool false),δ] [(0,1,(.t 54)),(1,1,(.t 56))]),σ 58 (.lit 5 true [δ,δ,(.bool false),(.bool false),δ] 1 [(0,(.t 57))]),μ 6 58] [6]) .ret) .skip)) (.seq (.region [μ 59 8,μ 6 59] [6]) .ret))))))),true⟩
def yp:aj:=⟨[.cell 6 2 true],(.seq (.region [σ 4 (.box 2 (.t 1)),σ 6 (.alloc [δ,δ])] [0,2,4,6]) (.seq (.seq (.region [μ 7 2,γ 8 .lss 7 0] [0,2,4,6,8]) (.cond (.t 8) (.seq (.region [σ 9 (.build [δ,δ] []),ω 2 6 9] [6]) .ret) .skip)) (.seq (.seq (.region [μ 10 2,μ 11 0,ν 12 .slice 11,β 13 .lss 10 12] [0,2,4,6,13]) (.cond (.t 13) (.seq (.region [μ 14 0,μ 15 2,ι 16 2 14 15,Λ 17 2 16,ω 2 6 17] [6]) .ret) .skip)) (.seq (.region [Λ 18 2 4,ω 2 6 18] [6]) .ret)))),true⟩
def xU:RC:=(.seq (.seq (.region [μ 12 10,μ 13 0,μ 14 1,μ 15 2,σ 16 (.call 342 [.t 13,.t 14,.t 15]),β 17 .lss 12 16] [0,1,2,8,9,10,17]) (.cond (.t 17) .skip (.exit 0))) (.seq (.block 1 (.seq (.region [μ 20 8,μ 21 0,μ 22 10,ι 23 8 21 22,φ 24 4 23,ρ 25 24,β 26 .add 20 25,μ 8 26] [0,1,2,8,9,10]) (.region [μ 27 9,μ 28 0,μ 29 10,ι 30 8 28 29,φ 31 5 30,ρ 32 31,β 33 .add 27 32,μ 9 33] [0,1,2,8,9,10]))) (.region [μ 18 10,γ 19 .add 18 1,μ 10 19] [0,1,2,8,9,10])))
def s9:RC:=.loop [0,1,2,8,9,10] xU
def GN:aj:=⟨[.t 6,.t 7],(.seq (.region [η 6 0,η 7 0] [0,1,2]) (.seq (.region [η 8 0,η 9 0] [0,1,2,8,9]) (.seq (.seq (.region [μ 11 1,μ 10 11] [0,1,2,8,9,10]) (.block 0 s9)) (.seq (.region [μ 34 8,μ 35 9,μ 6 34,μ 7 35] [6,7]) .ret)))),true⟩
def GJ:aj:=⟨[.t 2],(.seq (.region [σ 1 (.box 21 (.t 0)),σ 2 (.mv (.c θ))] [1]) (.seq (.region [Λ 6 21 1,σ 7 (.call 211 [.t 6]),μ 5 7,ε 8 5 0,ε 9 5 1,σ 3 (.alloc [δ]),ω 1 3 8,μ 4 9] [1,3]) (.seq (.region [σ 10 (.gD 343 [] [.t 1]),σ 11 (.gD 344 [] [.t 1]),σ 12 (.gD 346 [] [.t 1,.t 3]),σ 13 (.nE 1 false [.bO] 3 [(0,(.t 10)),(1,(.t 11)),(2,(.t 12))]),μ 2 13] [2]) .ret))),false⟩
def oB:RC:=(.seq (.region [β 15 .lss 14 13] [3,4,6,8,9,12,13,14,15]) (.seq (.cond (.t 15) .skip (.exit 0)) (.seq (.block 1 (.seq (.region [ι 16 1 12 14,ρ 17 16,μ 11 17] [3,4,6,8,9,11,12,13,14]) (.region [μ 18 9,μ 19 11,μ 20 3,σ 21 (.bz (.t 19) [.t 20]),β 22 .add 18 21,μ 9 22] [3,4,6,8,9,12,13,14]))) (.region [γ 23 .add 14 1,μ 14 23] [3,4,6,8,9,12,13,14]))))
def jF:RC:=.loop [3,4,6,8,9,12,13,14] oB
def FP:aj:=⟨[.cell 8 2 true],(.seq (.region [σ 4 (.box 21 (.t 0)),σ 6 (.box 2 (.t 2)),σ 8 (.alloc [δ,δ])] [1,3,4,6,8]) (.seq (.region [η 9 0] [1,3,4,6,8,9]) (.seq (.seq (.region [μ 12 1,ν 13 .slice 12,η 14 0] [3,4,6,8,9,12,13,14]) (.block 0 jF)) (.seq (.region [φ 24 0 6,ρ 25 24,μ 26 9,β 27 .add 25 26,σ 28 (.min [.t 27,(κ 4095)]),φ 29 1 6,ρ 30 29,μ 31 9,β 32 .sub 30 31,φ 33 2 4,φ 34 5 33,ρ 35 34,β 36 .sub 32 35,σ 37 (.max [.t 36,(κ 0)]),σ 38 (.build [δ,δ] [(0,1,(.t 28)),(1,1,(.t 37))]),ω 2 8 38] [8]) .ret)))),false⟩
def MK:aj:=⟨[.t 6,.t 7],(.seq (.region [σ 5 (.box 2 (.t 2)),σ 6 (.mv (.c θ)),η 7 0] [0,1,5]) (.seq (.region [μ 12 0,μ 13 1,Λ 14 2 5,σ 15 (.call 218 [.t 12,.t 13,.t 14]),μ 11 15,ε 16 11 0,ε 17 11 1,ε 18 11 2,μ 8 16,μ 9 17,μ 10 18] [8,10]) (.seq (.region [μ 19 8,μ 20 10,μ 6 19,μ 7 20] [6,7]) .ret))),true⟩
def s4:RC:=(.seq (.seq (.region [μ 9 5,μ 10 0,ν 11 .slice 10,β 12 .lss 9 11] [0,3,5,12]) (.cond (.t 12) .skip (.exit 0))) (.seq (.block 1 (.seq (.region [μ 15 0,μ 16 5,ι 17 2 15 16,Λ 18 2 17,σ 19 (.call 347 [.t 18]),σ 20 (.un .not (.t 19))] [0,3,5,20]) (.cond (.t 20) (.seq (.region [η 4 2] [4]) .ret) .skip))) (.region [μ 13 5,γ 14 .add 13 1,μ 5 14] [0,3,5])))
def oe:RC:=.loop [0,3,5] s4
def Bw:aj:=⟨[.t 4],(.seq (.region [σ 3 (.box 2 (.t 1)),η 4 0] [0,3]) (.seq (.seq (.region [μ 6 0,ν 7 .slice 6,γ 8 .gtr 7 256] [0,3,8]) (.cond (.t 8) (.seq (.region [η 4 3] [4]) .ret) .skip)) (.seq (.seq (.region [η 5 0] [0,3,5]) (.block 0 oe)) (.seq (.seq (.region [Λ 21 2 3,σ 22 (.call 347 [.t 21]),σ 23 (.un .not (.t 22))] [23]) (.cond (.t 23) (.seq (.region [η 4 2] [4]) .ret) .skip)) (.seq (.region [η 4 0] [4]) .ret))))),true⟩
def Bm:aj:=⟨[.cell 6 2 true],(.seq (.region [σ 3 (.box 21 (.t 0)),σ 4 (.box 2 (.t 1)),σ 6 (.alloc [δ,δ])] [2,3,4,6]) (.seq (.region [φ 8 2 3,φ 9 4 8,ρ 10 9,μ 7 10] [2,3,4,6,7]) (.seq (.seq (.region [μ 11 2,γ 12 .eql 11 0] [2,3,4,6,7,12]) (.cond (.t 12) (.av [μ 13 7,φ 14 2 3,φ 15 3 14,ρ 16 15,β 17 .add 13 16,Λ 18 21 3,σ 19 (.call 348 [.t 18]),β 20 .add 17 19,μ 7 20] [] [] [2,3,4,6,7]) .skip)) (.seq (.seq (.region [μ 21 2,φ 22 2 3,φ 23 14 22,ρ 24 23,β 25 .lss 21 24] [3,4,6,7,25]) (.cond (.t 25) (.region [μ 26 7,Λ 27 21 3,σ 28 (.call 239 [.t 27]),β 29 .add 26 28,μ 7 29] [3,4,6,7]) .skip)) (.seq (.region [φ 30 0 4,ρ 31 30,μ 32 7,β 33 .add 31 32,σ 34 (.min [.t 33,(κ 4095)]),φ 35 1 4,ρ 36 35,μ 37 7,β 38 .sub 36 37,φ 39 2 3,φ 40 5 39,ρ 41 40,β 42 .sub 38 41,σ 43 (.max [.t 42,(κ 0)]),σ 44 (.build [δ,δ] [(0,1,(.t 34)),(1,1,(.t 43))]),ω 2 6 44] [6]) .ret))))),true⟩
def AD:aj:=⟨[.cell 8 5 true],(.seq (.region [σ 8 (.alloc [δ,δ,(.bool false),(.bool false),δ])] [0,1,2,3,8]) (.seq (.region [μ 10 1,μ 11 2,μ 12 0,μ 13 1,μ 14 2,μ 15 3,σ 16 (.call 352 [.t 12,.t 13,.t 14,.t 15]),σ 17 (.build [δ,δ,(.bool false),(.bool false),δ] [(0,1,(.t 10)),(1,1,(.t 11)),(4,1,(.t 16))]),σ 9 (.alloc [δ,δ,(.bool false),(.bool false),δ]),ω 5 9 17] [0,2,8,9]) (.seq (.region [μ 18 2,μ 19 0,ν 20 .slice 19,β 21 .lss 18 20,μ 22 21,Μ 23 0 22 true,Μ 24 2 22 true,τ 25 (.aY 8 (.t 23) (.t 24)) 22 true,Φ 26 0 25 22 true,Ρ 27 26 22 true,τ 28 (.bin .eql (.t 27) (κ 3)) 22 true,ξ 29 22 28,μ 30 29,Μ 31 0 30 true,Μ 32 2 30 true,τ 33 (.aY 8 (.t 31) (.t 32)) 30 true,Φ 34 7 33 30 true,Ρ 35 34 30 true,ξ 36 30 35,φ 37 3 9,ω 1 37 36] [8,9]) (.seq (.region [Λ 38 5 9,ω 5 8 38] [8]) .ret)))),true⟩
def pd:RC:=(.seq (.seq (.region [μ 19 1,μ 20 0,ν 21 .slice 20,β 22 .lss 19 21,μ 23 22,Μ 24 0 23 true,Μ 25 1 23 true,τ 26 (.aY 8 (.t 24) (.t 25)) 23 true,Φ 27 0 26 23 true,Ρ 28 27 23 true,τ 29 (.bin .eql (.t 28) (κ 2)) 23 true,ξ 30 23 29] [0,1,30]) (.cond (.t 30) .skip (.exit 0))) (.block 1 (.region [μ 31 1,γ 32 .add 31 1,μ 1 32] [0,1])))
def js:RC:=.loop [0,1] pd
def Bp:aj:=⟨[.t 4],(.seq (.region [η 4 0] [0,1]) (.seq (.seq (.region [μ 5 1,μ 6 0,ν 7 .slice 6,β 8 .lss 5 7,μ 9 8,Μ 10 0 9 true,Μ 11 1 9 true,τ 12 (.aY 8 (.t 10) (.t 11)) 9 true,Φ 13 0 12 9 true,Ρ 14 13 9 true,τ 15 (.bin .eql (.t 14) (κ 3)) 9 true,ξ 16 9 15] [0,1,16]) (.cond (.t 16) (.region [μ 17 1,γ 18 .add 17 1,μ 1 18] [0,1]) .skip)) (.seq (.block 0 js) (.seq (.region [μ 33 1,μ 4 33] [4]) .ret)))),true⟩
def mD:RC:=(.seq (.seq (.region [μ 13 9,μ 14 0,ν 15 .slice 14,β 16 .leq 13 15] [0,1,5,6,7,8,9,16]) (.cond (.t 16) .skip (.exit 0))) (.seq (.block 1 (.seq (.seq (.region [μ 19 0,μ 20 9,σ 21 (.call 353 [.t 19,.t 20]),σ 22 (.un .not (.t 21))] [0,1,5,6,7,8,9,22]) (.cond (.t 22) (.exit 1) .skip)) (.seq (.region [μ 23 0,μ 24 1,μ 25 9,φ 26 0 5,ρ 27 26,σ 28 (.call 339 [.t 23,.t 24,.t 25,.t 27]),σ 10 (.alloc [δ,δ,(.bool false),(.bool false),δ]),ω 5 10 28] [0,1,5,6,7,8,9,10]) (.seq (.seq (.region [φ 29 4 10,ρ 30 29,φ 31 1 5,ρ 32 31,β 33 .gtr 30 32] [0,1,5,6,7,8,9,10,33]) (.cond (.t 33) (.seq (.seq (.region [μ 34 7,σ 35 (.un .not (.t 34))] [6,8,10,35]) (.cond (.t 35) (.seq (.region [φ 36 2 10,⟨none,.store 1 (.t 36) (.c (.bool true)),none⟩] [6,10]) (.seq (.region [Λ 37 5 10,ω 5 6 37] [6]) .ret)) .skip)) (.seq (.region [Λ 38 5 8,ω 5 6 38] [6]) .ret)) .skip)) (.seq (.region [σ 7 (.mv (.c (.bool true)))] [0,1,5,6,7,8,9,10]) (.region [Λ 39 5 10,ω 5 8 39] [0,1,5,6,7,8,9])))))) (.region [μ 17 9,γ 18 .add 17 1,μ 9 18] [0,1,5,6,7,8,9])))
def j7:RC:=.loop [0,1,5,6,7,8,9] mD
def Ff:aj:=⟨[.cell 6 5 true],(.seq (.region [σ 5 (.box 2 (.t 2)),σ 6 (.alloc [δ,δ,(.bool false),(.bool false),δ])] [0,1,5,6]) (.seq (.region [σ 7 (.mv (.c (.bool false)))] [0,1,5,6,7]) (.seq (.region [σ 8 (.alloc [δ,δ,(.bool false),(.bool false),δ])] [0,1,5,6,7,8]) (.seq (.seq (.region [μ 11 1,γ 12 .add 11 1,μ 9 12] [0,1,5,6,7,8,9]) (.block 0 j7)) (.seq (.region [Λ 40 5 8,ω 5 6 40] [6]) .ret))))),true⟩
def oT:RC:=(.seq (.seq (.region [μ 7 2,μ 8 1,β 9 .gtr 7 8,μ 10 9,Μ 11 0 10 true,Μ 12 2 10 true,τ 13 (.bin .sub (.t 12) (κ 1)) 10 true,τ 14 (.aY 8 (.t 11) (.t 13)) 10 true,Φ 15 0 14 10 true,Ρ 16 15 10 true,τ 17 (.bin .eql (.t 16) (κ 2)) 10 true,ξ 18 10 17] [0,1,2,18]) (.cond (.t 18) .skip (.exit 0))) (.block 1 (.region [μ 19 2,γ 20 .sub 19 1,μ 2 20] [0,1,2])))
def mS:RC:=.loop [0,1,2] oT
def Hg:aj:=⟨[.t 6],(.seq (.region [η 6 0] [0,1,2]) (.seq (.block 0 mS) (.seq (.region [μ 21 2,μ 6 21] [6]) .ret))),true⟩
def HG:aj:=⟨[.t 3],(.seq (.region [η 3 0] [1]) (.seq (.region [φ 4 2 1,φ 5 4 4,ρ 6 5,μ 3 6] [3]) .ret)),false⟩
def B3:aj:=⟨[.t 3],(.seq (.region [η 3 0] [0,1]) (.seq (.seq (.region [μ 4 0,γ 5 .gtr 4 0] [1,5]) (.cond (.t 5) (.seq (.region [η 3 0] [3]) .ret) .skip)) (.seq (.av [φ 6 2 1,φ 7 3 6,ρ 8 7,Λ 9 21 1,σ 10 (.call 345 [.t 9]),β 11 .add 8 10,μ 3 11] [] [] [3]) .ret))),false⟩
def D6:aj:=⟨[.t 2],(.seq (.region [σ 1 (.box 21 (.t 0)),η 2 0] [1]) (.seq (.seq (.region [φ 5 19 1,ρ 6 5,σ 7 (.bin .eql (.t 6) (.c (.str [])))] [1,7]) (.cond (.t 7) (.seq (.region [η 2 0] [2]) .ret) .skip)) (.seq (.region [φ 9 19 1,ρ 10 9,φ 11 2 1,φ 12 0 11,ρ 13 12,σ 14 (.call 17 [.t 10,.t 13]),μ 8 14,ε 15 8 0,ε 16 8 1,μ 3 15,μ 4 16] [3]) (.seq (.region [μ 17 3,γ 18 .add 17 4,μ 2 18] [2]) .ret)))),true⟩
def Fk:aj:=⟨[.t 4],(.seq (.region [η 4 0] [0,1,2]) (.seq (.seq (.region [μ 5 0,φ 6 2 1,φ 7 14 6,ρ 8 7,β 9 .geq 5 8] [2,9]) (.cond (.t 9) (.seq (.region [η 4 0] [4]) .ret) .skip)) (.seq (.region [ρ 10 2,μ 4 10] [4]) .ret))),false⟩
def yg:aj:=⟨[.t 2],(.seq (.region [σ 1 (.box 2 (.t 0)),σ 2 (.mv (.c (.bool false)))] [1]) (.seq (.region [φ 3 0 1,ρ 4 3,γ 5 .geq 4 0,μ 6 5,Φ 7 0 1 6 true,Ρ 8 7 6 true,τ 9 (.bin .leq (.t 8) (κ 4095)) 6 true,ξ 10 6 9,μ 11 10,Φ 12 1 1 11 true,Ρ 13 12 11 true,τ 14 (.bin .geq (.t 13) (κ 0)) 11 true,ξ 15 11 14,μ 16 15,Φ 17 1 1 16 true,Ρ 18 17 16 true,τ 19 (.bin .leq (.t 18) (κ 4095)) 16 true,ξ 20 16 19,μ 2 20] [2]) .ret)),true⟩
def Eg:aj:=⟨[.t 2],(.seq (.region [σ 1 (.box 21 (.t 0)),η 2 0] [1]) (.seq (.seq (.region [φ 3 19 1,ρ 4 3,σ 5 (.bin .eql (.t 4) (.c (.str [])))] [1,5]) (.cond (.t 5) (.seq (.region [η 2 0] [2]) .ret) .skip)) (.seq (.region [φ 6 19 1,ρ 7 6,φ 8 2 1,φ 9 0 8,ρ 10 9,σ 11 (.call 38 [.t 7,.t 10]),γ 12 .add 11 4,μ 2 12] [2]) .ret))),true⟩
def mj:RC:=(.seq (.seq (.region [μ 13 10,μ 14 0,μ 15 1,μ 16 2,σ 17 (.call 342 [.t 14,.t 15,.t 16]),β 18 .lss 13 17] [0,1,2,3,9,10,18]) (.cond (.t 18) .skip (.exit 0))) (.seq (.block 1 (.seq (.region [μ 21 0,μ 22 10,ι 23 8 21 22,φ 24 0 23,ρ 25 24] [0,1,2,3,9,10,25]) (.block 2 (.seq (.seq (.region [γ 27 .eql 25 1,μ 26 27] [0,1,2,3,9,10,25,26]) (.cond (.t 26) .skip (.region [γ 28 .eql 25 2,μ 26 28] [0,1,2,3,9,10,25,26]))) (.cond (.t 26) (.region [μ 29 9,μ 30 0,μ 31 10,ι 32 8 30 31,φ 33 3 32,ρ 34 33,β 35 .add 29 34,μ 9 35] [0,1,2,3,9,10]) (.seq (.region [γ 37 .eql 25 4,μ 36 37] [0,1,2,3,9,10,36]) (.cond (.t 36) (.region [μ 38 9,σ 39 (.call 241 [(.c θ),.t 38]),σ 40 (.field 1 false 0 (.t 39)),μ 9 40] [0,1,2,3,9,10]) .skip))))))) (.region [μ 19 10,γ 20 .add 19 1,μ 10 20] [0,1,2,3,9,10])))
def sL:RC:=.loop [0,1,2,3,9,10] mj
def Bu:aj:=⟨[.t 8],(.seq (.region [η 8 0] [0,1,2,3]) (.seq (.region [μ 11 3,μ 9 11] [0,1,2,3,9]) (.seq (.seq (.region [μ 12 1,μ 10 12] [0,1,2,3,9,10]) (.block 0 sL)) (.seq (.seq (.region [μ 41 2,μ 42 0,ν 43 .slice 42,β 44 .lss 41 43,μ 45 44,Μ 46 0 45 true,Μ 47 2 45 true,τ 48 (.aY 8 (.t 46) (.t 47)) 45 true,Φ 49 0 48 45 true,Ρ 50 49 45 true,τ 51 (.bin .eql (.t 50) (κ 3)) 45 true,ξ 52 45 51] [0,2,3,9,52]) (.cond (.t 52) (.region [μ 53 9,μ 54 0,μ 55 2,ι 56 8 54 55,φ 57 3 56,ρ 58 57,β 59 .add 53 58,μ 9 59] [3,9]) .skip)) (.seq (.region [μ 60 9,μ 61 3,β 62 .sub 60 61,μ 8 62] [8]) .ret))))),true⟩
def wk:aj:=⟨[.t 4],(.seq (.region [σ 4 (.mv (.c (.bool false)))] [0,1]) (.seq (.seq (.region [μ 5 1,μ 6 0,ν 7 .slice 6,β 8 .eql 5 7,μ 9 8,Μ 10 0 9 false,Μ 11 1 9 false,τ 12 (.aY 8 (.t 10) (.t 11)) 9 false,Φ 13 0 12 9 false,Ρ 14 13 9 false,τ 15 (.bin .eql (.t 14) (κ 3)) 9 false,ζ 16 9 15] [0,1,16]) (.cond (.t 16) (.seq (.region [σ 4 (.mv (.c (.bool true)))] [4]) .ret) .skip)) (.seq (.region [μ 17 0,μ 18 1,ι 19 8 17 18,φ 20 0 19,ρ 21 20,γ 22 .eql 21 2,μ 23 22,Μ 24 1 23 true,τ 25 (.bin .gtr (.t 24) (κ 0)) 23 true,ξ 26 23 25,μ 27 26,Μ 28 0 27 true,Μ 29 1 27 true,τ 30 (.bin .sub (.t 29) (κ 1)) 27 true,τ 31 (.aY 8 (.t 28) (.t 30)) 27 true,Φ 32 0 31 27 true,Ρ 33 32 27 true,τ 34 (.bin .neq (.t 33) (κ 2)) 27 true,ξ 35 27 34,μ 4 35] [4]) .ret))),true⟩
def Ic:aj:=⟨[.t 2,.t 3],(.seq (.region [σ 2 (.mv (.c (.str []))),η 3 0] [0]) (.seq (.seq (.region [μ 4 0,γ 5 .lss 4 1,μ 6 5,Μ 7 0 6 false,τ 8 (.bin .gtr (.t 7) (κ 99999)) 6 false,ζ 9 6 8] [0,9]) (.cond (.t 9) (.seq (.region [σ 2 (.mv (.c (.str []))),η 3 5] [2,3]) .ret) .skip)) (.seq (.region [μ 10 0,σ 11 (.call 375 [.t 10]),μ 2 11,η 3 0] [2,3]) .ret))),true⟩
def PI:aj:=⟨[.t 2],(.seq (.region [σ 2 (.mv (.c (.str [])))] [0]) (.seq (.region [μ 3 0,σ 4 (.call 377 [.t 3]),μ 2 4] [2]) .ret)),true⟩
def DN:aj:=⟨[.t 2],(.seq (.region [σ 2 (.mv (.c (.str [])))] [0]) (.seq (.seq (.region [μ 3 0,γ 4 .lss 3 10] [0,4]) (.cond (.t 4) (.seq (.region [μ 5 0,μ 6 0,γ 7 .add 6 1,σ 8 (.slice true 1 (.c (.str [48,49,50,51,52,53,54,55,56,57])) (some (.t 5)) (some (.t 7)) none),μ 2 8] [2]) .ret) .skip)) (.seq (.region [μ 9 0,γ 10 .quo 9 10,σ 11 (.call 375 [.t 10]),μ 12 0,γ 13 .rem 12 10,σ 14 (.call 375 [.t 13]),β 15 .add 11 14,μ 2 15] [2]) .ret))),true⟩
def Nc:aj:=⟨[.t 2],(.seq (.region [σ 2 (.mv (.c (.str [])))] [0]) (.seq (.region [μ 3 0,σ 4 (.call 378 [.t 3,(κ 10)]),μ 2 4] [2]) .ret)),true⟩
def Py:aj:=⟨[.t 4],(.seq (.region [σ 4 (.mv (.c (.str [])))] [0,1]) (.seq (.seq (.region [μ 10 1,γ 11 .eql 10 10] [0,1,11]) (.cond (.t 11) (.seq (.seq (.region [μ 12 0,σ 13 (.bin .leq (κ 0) (.t 12)),μ 14 13,Μ 15 0 14 true,τ 16 (.bin .lss (.t 15) (κ 100)) 14 true,ξ 17 14 16] [0,17]) (.cond (.t 17) (.seq (.region [μ 18 0,σ 19 (.call 379 [.t 18]),μ 4 19] [4]) .ret) .skip)) (.seq (.region [σ 5 (.alloc [(.int .u8 (.ofNat 0)),(.int .u8 (.ofNat 0)),(.int .u8 (.ofNat 0)),(.int .u8 (.ofNat 0)),(.int .u8 (.ofNat 0)),(.int .u8 (.ofNat 0)),(.int .u8 (.ofNat 0)),(.int .u8 (.ofNat 0)),(.int .u8 (.ofNat 0)),(.int .u8 (.ofNat 0)),(.int .u8 (.ofNat 0)),(.int .u8 (.ofNat 0)),(.int .u8 (.ofNat 0)),(.int .u8 (.ofNat 0)),(.int .u8 (.ofNat 0)),(.int .u8 (.ofNat 0)),(.int .u8 (.ofNat 0)),(.int .u8 (.ofNat 0)),(.int .u8 (.ofNat 0)),(.int .u8 (.ofNat 0)),(.int .u8 (.ofNat 0)),(.int .u8 (.ofNat 0)),(.int .u8 (.ofNat 0)),(.int .u8 (.ofNat 0))])] [0,5]) (.seq (.region [μ 20 0,σ 21 (.i2i .u64 (.t 20)),μ 6 21] [0,5,6]) (.seq (.seq (.region [μ 22 0,γ 23 .lss 22 0] [0,5,6,23]) (.cond (.t 23) (.region [μ 24 6,σ 25 (.un .neg (.t 24)),μ 6 25] [0,5,6]) .skip)) (.seq (.region [μ 26 6,σ 27 (.call 380 [.t 26]),μ 7 27] [0,5,6,7]) (.seq (.region [μ 28 7,σ 29 (.bin .add (κ 1) (.t 28)),σ 30 (.sliceB 1 false 24 (.t 5) (some (κ 1)) (some (.t 29)) none),μ 31 6,σ 32 (.call 381 [.t 30,.t 31])] [0,5,7]) (.seq (.seq (.region [μ 33 0,γ 34 .lss 33 0] [5,7,34]) (.cond (.t 34) (.seq (.region [σ 35 (.cA 1 24 (.t 5) (κ 0)),⟨none,.store 1 (.t 35) (.c (.int .u8 (.ofNat 45))),none⟩] [5,7]) (.seq (.region [μ 36 7,σ 37 (.bin .add (κ 1) (.t 36)),σ 38 (.sliceB 1 false 24 (.t 5) none (some (.t 37)) none),σ 39 (.b2s (.t 38)),μ 4 39] [4]) .ret)) .skip)) (.seq (.region [μ 40 7,σ 41 (.bin .add (κ 1) (.t 40)),σ 42 (.sliceB 1 false 24 (.t 5) (some (κ 1)) (some (.t 41)) none),σ 43 (.b2s (.t 42)),μ 4 43] [4]) .ret)))))))) .skip)) (.seq (.region [μ 45 0,σ 46 (.i2i .u64 (.t 45)),μ 47 1,μ 48 0,γ 49 .lss 48 0,σ 50 (.call 382 [(.c θ),.t 46,.t 47,.t 49,(.c (.bool false))]),μ 44 50,ε 51 44 0,ε 52 44 1,μ 8 51,μ 9 52] [9]) (.seq (.region [μ 53 9,μ 4 53] [4]) .ret)))),true⟩
def Nr:aj:=⟨[.t 2],(.seq (.region [σ 2 (.mv (.c (.str [])))] [0]) (.seq (.seq (.region [μ 3 0,γ 4 .lss 3 10] [0,4]) (.cond (.t 4) (.seq (.region [μ 5 0,μ 6 0,γ 7 .add 6 1,σ 8 (.slice true 1 (.c (.str [48,49,50,51,52,53,54,55,56,57,97,98,99,100,101,102,103,104,105,106,107,108,109,110,111,112,113,114,115,116,117,118,119,120,121,122])) (some (.t 5)) (some (.t 7)) none),μ 2 8] [2]) .ret) .skip)) (.seq (.region [μ 9 0,γ 10 .mul 9 2,μ 11 0,γ 12 .mul 11 2,γ 13 .add 12 2,σ 14 (.slice true 1 (.c (.str [48,48,48,49,48,50,48,51,48,52,48,53,48,54,48,55,48,56,48,57,49,48,49,49,49,50,49,51,49,52,49,53,49,54,49,55,49,56,49,57,50,48,50,49,50,50,50,51,50,52,50,53,50,54,50,55,50,56,50,57,51,48,51,49,51,50,51,51,51,52,51,53,51,54,51,55,51,56,51,57,52,48,52,49,52,50,52,51,52,52,52,53,52,54,52,55,52,56,52,57,53,48,53,49,53,50,53,51,53,52,53,53,53,54,53,55,53,56,53,57,54,48,54,49,54,50,54,51,54,52,54,53,54,54,54,55,54,56,54,57,55,48,55,49,55,50,55,51,55,52,55,53,55,54,55,55,55,56,55,57,56,48,56,49,56,50,56,51,56,52,56,53,56,54,56,55,56,56,56,57,57,48,57,49,57,50,57,51,57,52,57,53,57,54,57,55,57,56,57,57])) (some (.t 10)) (some (.t 13)) none),μ 2 14] [2]) .ret))),true⟩
def Ri:aj:=⟨[.t 2],(.seq (.region [η 2 0] [0]) (.seq (.region [μ 4 0,σ 5 (.call 293 [.t 4]),σ 6 (.call 383 [.t 5]),μ 3 6] [0,3]) (.seq (.region [μ 7 3,μ 8 0,μ 9 3,σ 10 (.cA 1 20 (.c KD) (.t 9)),ρ 11 10,β 12 .geq 8 11,σ 13 (.call 384 [.t 12]),β 14 .add 7 13,μ 2 14] [2]) .ret))),true⟩
def Jv:RC:=(.seq (.seq (.region [μ 19 4,γ 20 .geq 19 8] [0,1,4,20]) (.cond (.t 20) .skip (.exit 0))) (.block 1 (.seq (.region [μ 21 1,σ 22 (.bin .rem (.t 21) (.c (.int .u64 (.ofNat 100000000)))),σ 23 (.i2i .u32 (.t 22)),μ 5 23] [0,1,4,5]) (.seq (.region [μ 24 1,σ 25 (.bin .quo (.t 24) (.c (.int .u64 (.ofNat 100000000)))),μ 1 25] [0,1,4,5]) (.seq (.region [μ 26 5,σ 27 (.bin .quo (.t 26) (.c (.int .u32 (.ofNat 10000)))),μ 28 5,σ 29 (.bin .rem (.t 28) (.c (.int .u32 (.ofNat 10000)))),μ 6 27,μ 7 29] [0,1,4,6,7]) (.seq (.region [μ 30 7,σ 31 (.bin .quo (.t 30) (.c (.int .u32 (.ofNat 100)))),σ 32 (.bin .mul (.t 31) (.c (.int .u32 (.ofNat 2)))),μ 33 7,σ 34 (.bin .rem (.t 33) (.c (.int .u32 (.ofNat 100)))),σ 35 (.bin .mul (.t 34) (.c (.int .u32 (.ofNat 2)))),μ 8 32,μ 9 35] [0,1,4,6,8,9]) (.seq (.region [μ 36 6,σ 37 (.bin .quo (.t 36) (.c (.int .u32 (.ofNat 100)))),σ 38 (.bin .mul (.t 37) (.c (.int .u32 (.ofNat 2)))),μ 39 6,σ 40 (.bin .rem (.t 39) (.c (.int .u32 (.ofNat 100)))),σ 41 (.bin .mul (.t 40) (.c (.int .u32 (.ofNat 2)))),μ 10 38,μ 11 41] [0,1,4,8,9,10,11]) (.seq (.av [μ 42 0,μ 43 4,γ 44 .sub 43 1,μ 45 0,μ 46 4,γ 47 .sub 46 2,μ 48 9,σ 49 (.bin .add (.t 48) (.c (.int .u32 (.ofNat 1)))),σ 50 (.index (.c (.str [48,48,48,49,48,50,48,51,48,52,48,53,48,54,48,55,48,56,48,57,49,48,49,49,49,50,49,51,49,52,49,53,49,54,49,55,49,56,49,57,50,48,50,49,50,50,50,51,50,52,50,53,50,54,50,55,50,56,50,57,51,48,51,49,51,50,51,51,51,52,51,53,51,54,51,55,51,56,51,57,52,48,52,49,52,50,52,51,52,52,52,53,52,54,52,55,52,56,52,57,53,48,53,49,53,50,53,51,53,52,53,53,53,54,53,55,53,56,53,57,54,48,54,49,54,50,54,51,54,52,54,53,54,54,54,55,54,56,54,57,55,48,55,49,55,50,55,51,55,52,55,53,55,54,55,55,55,56,55,57,56,48,56,49,56,50,56,51,56,52,56,53,56,54,56,55,56,56,56,57,57,48,57,49,57,50,57,51,57,52,57,53,57,54,57,55,57,56,57,57])) (.t 49)),μ 51 9,σ 52 (.index (.c (.str [48,48,48,49,48,50,48,51,48,52,48,53,48,54,48,55,48,56,48,57,49,48,49,49,49,50,49,51,49,52,49,53,49,54,49,55,49,56,49,57,50,48,50,49,50,50,50,51,50,52,50,53,50,54,50,55,50,56,50,57,51,48,51,49,51,50,51,51,51,52,51,53,51,54,51,55,51,56,51,57,52,48,52,49,52,50,52,51,52,52,52,53,52,54,52,55,52,56,52,57,53,48,53,49,53,50,53,51,53,52,53,53,53,54,53,55,53,56,53,57,54,48,54,49,54,50,54,51,54,52,54,53,54,54,54,55,54,56,54,57,55,48,55,49,55,50,55,51,55,52,55,53,55,54,55,55,55,56,55,57,56,48,56,49,56,50,56,51,56,52,56,53,56,54,56,55,56,56,56,57,57,48,57,49,57,50,57,51,57,52,57,53,57,54,57,55,57,56,57,57])) (.t 51)),ι 53 1 42 44,ω 1 53 50,ι 54 1 45 47,ω 1 54 52] [] [] [0,1,4,8,10,11]) (.seq (.av [μ 55 0,μ 56 4,γ 57 .sub 56 3,μ 58 0,μ 59 4,γ 60 .sub 59 4,μ 61 8,σ 62 (.bin .add (.t 61) (.c (.int .u32 (.ofNat 1)))),σ 63 (.index (.c (.str [48,48,48,49,48,50,48,51,48,52,48,53,48,54,48,55,48,56,48,57,49,48,49,49,49,50,49,51,49,52,49,53,49,54,49,55,49,56,49,57,50,48,50,49,50,50,50,51,50,52,50,53,50,54,50,55,50,56,50,57,51,48,51,49,51,50,51,51,51,52,51,53,51,54,51,55,51,56,51,57,52,48,52,49,52,50,52,51,52,52,52,53,52,54,52,55,52,56,52,57,53,48,53,49,53,50,53,51,53,52,53,53,53,54,53,55,53,56,53,57,54,48,54,49,54,50,54,51,54,52,54,53,54,54,54,55,54,56,54,57,55,48,55,49,55,50,55,51,55,52,55,53,55,54,55,55,55,56,55,57,56,48,56,49,56,50,56,51,56,52,56,53,56,54,56,55,56,56,56,57,57,48,57,49,57,50,57,51,57,52,57,53,57,54,57,55,57,56,57,57])) (.t 62)),μ 64 8,σ 65 (.index (.c (.str [48,48,48,49,48,50,48,51,48,52,48,53,48,54,48,55,48,56,48,57,49,48,49,49,49,50,49,51,49,52,49,53,49,54,49,55,49,56,49,57,50,48,50,49,50,50,50,51,50,52,50,53,50,54,50,55,50,56,50,57,51,48,51,49,51,50,51,51,51,52,51,53,51,54,51,55,51,56,51,57,52,48,52,49,52,50,52,51,52,52,52,53,52,54,52,55,52,56,52,57,53,48,53,49,53,50,53,51,53,52,53,53,53,54,53,55,53,56,53,57,54,48,54,49,54,50,54,51,54,52,54,53,54,54,54,55,54,56,54,57,55,48,55,49,55,50,55,51,55,52,55,53,55,54,55,55,55,56,55,57,56,48,56,49,56,50,56,51,56,52,56,53,56,54,56,55,56,56,56,57,57,48,57,49,57,50,57,51,57,52,57,53,57,54,57,55,57,56,57,57])) (.t 64)),ι 66 1 55 57,ω 1 66 63,ι 67 1 58 60,ω 1 67 65] [] [] [0,1,4,10,11]) (.seq (.av [μ 68 0,μ 69 4,γ 70 .sub 69 5,μ 71 0,μ 72 4,γ 73 .sub 72 6,μ 74 11,σ 75 (.bin .add (.t 74) (.c (.int .u32 (.ofNat 1)))),σ 76 (.index (.c (.str [48,48,48,49,48,50,48,51,48,52,48,53,48,54,48,55,48,56,48,57,49,48,49,49,49,50,49,51,49,52,49,53,49,54,49,55,49,56,49,57,50,48,50,49,50,50,50,51,50,52,50,53,50,54,50,55,50,56,50,57,51,48,51,49,51,50,51,51,51,52,51,53,51,54,51,55,51,56,51,57,52,48,52,49,52,50,52,51,52,52,52,53,52,54,52,55,52,56,52,57,53,48,53,49,53,50,53,51,53,52,53,53,53,54,53,55,53,56,53,57,54,48,54,49,54,50,54,51,54,52,54,53,54,54,54,55,54,56,54,57,55,48,55,49,55,50,55,51,55,52,55,53,55,54,55,55,55,56,55,57,56,48,56,49,56,50,56,51,56,52,56,53,56,54,56,55,56,56,56,57,57,48,57,49,57,50,57,51,57,52,57,53,57,54,57,55,57,56,57,57])) (.t 75)),μ 77 11,σ 78 (.index (.c (.str [48,48,48,49,48,50,48,51,48,52,48,53,48,54,48,55,48,56,48,57,49,48,49,49,49,50,49,51,49,52,49,53,49,54,49,55,49,56,49,57,50,48,50,49,50,50,50,51,50,52,50,53,50,54,50,55,50,56,50,57,51,48,51,49,51,50,51,51,51,52,51,53,51,54,51,55,51,56,51,57,52,48,52,49,52,50,52,51,52,52,52,53,52,54,52,55,52,56,52,57,53,48,53,49,53,50,53,51,53,52,53,53,53,54,53,55,53,56,53,57,54,48,54,49,54,50,54,51,54,52,54,53,54,54,54,55,54,56,54,57,55,48,55,49,55,50,55,51,55,52,55,53,55,54,55,55,55,56,55,57,56,48,56,49,56,50,56,51,56,52,56,53,56,54,56,55,56,56,56,57,57,48,57,49,57,50,57,51,57,52,57,53,57,54,57,55,57,56,57,57])) (.t 77)),ι 79 1 68 70,ω 1 79 76,ι 80 1 71 73,ω 1 80 78] [] [] [0,1,4,10]) (.seq (.av [μ 81 0,μ 82 4,γ 83 .sub 82 7,μ 84 0,μ 85 4,γ 86 .sub 85 8,μ 87 10,σ 88 (.bin .add (.t 87) (.c (.int .u32 (.ofNat 1)))),σ 89 (.index (.c (.str [48,48,48,49,48,50,48,51,48,52,48,53,48,54,48,55,48,56,48,57,49,48,49,49,49,50,49,51,49,52,49,53,49,54,49,55,49,56,49,57,50,48,50,49,50,50,50,51,50,52,50,53,50,54,50,55,50,56,50,57,51,48,51,49,51,50,51,51,51,52,51,53,51,54,51,55,51,56,51,57,52,48,52,49,52,50,52,51,52,52,52,53,52,54,52,55,52,56,52,57,53,48,53,49,53,50,53,51,53,52,53,53,53,54,53,55,53,56,53,57,54,48,54,49,54,50,54,51,54,52,54,53,54,54,54,55,54,56,54,57,55,48,55,49,55,50,55,51,55,52,55,53,55,54,55,55,55,56,55,57,56,48,56,49,56,50,56,51,56,52,56,53,56,54,56,55,56,56,56,57,57,48,57,49,57,50,57,51,57,52,57,53,57,54,57,55,57,56,57,57])) (.t 88)),μ 90 10,σ 91 (.index (.c (.str [48,48,48,49,48,50,48,51,48,52,48,53,48,54,48,55,48,56,48,57,49,48,49,49,49,50,49,51,49,52,49,53,49,54,49,55,49,56,49,57,50,48,50,49,50,50,50,51,50,52,50,53,50,54,50,55,50,56,50,57,51,48,51,49,51,50,51,51,51,52,51,53,51,54,51,55,51,56,51,57,52,48,52,49,52,50,52,51,52,52,52,53,52,54,52,55,52,56,52,57,53,48,53,49,53,50,53,51,53,52,53,53,53,54,53,55,53,56,53,57,54,48,54,49,54,50,54,51,54,52,54,53,54,54,54,55,54,56,54,57,55,48,55,49,55,50,55,51,55,52,55,53,55,54,55,55,55,56,55,57,56,48,56,49,56,50,56,51,56,52,56,53,56,54,56,55,56,56,56,57,57,48,57,49,57,50,57,51,57,52,57,53,57,54,57,55,57,56,57,57])) (.t 90)),ι 92 1 81 83,ω 1 92 89,ι 93 1 84 86,ω 1 93 91] [] [] [0,1,4]) (.region [μ 94 4,γ 95 .sub 94 8,μ 4 95] [0,1,4]))))))))))))
def JO:RC:=.loop [0,1,4] Jv
def Mo:aj:=⟨[],(.seq (.region [μ 17 0,ν 18 .slice 17,μ 4 18] [0,1,4]) (.seq (.block 0 JO) (.seq (.region [μ 96 1,σ 97 (.i2i .u32 (.t 96)),μ 12 97] [0,4,12]) (.seq (.seq (.region [μ 98 4,γ 99 .geq 98 4] [0,4,12,99]) (.cond (.t 99) (.seq (.region [μ 100 12,σ 101 (.bin .rem (.t 100) (.c (.int .u32 (.ofNat 10000)))),μ 13 101] [0,4,12,13]) (.seq (.region [μ 102 12,σ 103 (.bin .quo (.t 102) (.c (.int .u32 (.ofNat 10000)))),μ 12 103] [0,4,12,13]) (.seq (.region [μ 104 13,σ 105 (.bin .quo (.t 104) (.c (.int .u32 (.ofNat 100)))),σ 106 (.bin .mul (.t 105) (.c (.int .u32 (.ofNat 2)))),μ 107 13,σ 108 (.bin .rem (.t 107) (.c (.int .u32 (.ofNat 100)))),σ 109 (.bin .mul (.t 108) (.c (.int .u32 (.ofNat 2)))),μ 14 106,μ 15 109] [0,4,12,14,15]) (.seq (.av [μ 110 0,μ 111 4,γ 112 .sub 111 1,μ 113 0,μ 114 4,γ 115 .sub 114 2,μ 116 15,σ 117 (.bin .add (.t 116) (.c (.int .u32 (.ofNat 1)))),σ 118 (.index (.c (.str [48,48,48,49,48,50,48,51,48,52,48,53,48,54,48,55,48,56,48,57,49,48,49,49,49,50,49,51,49,52,49,53,49,54,49,55,49,56,49,57,50,48,50,49,50,50,50,51,50,52,50,53,50,54,50,55,50,56,50,57,51,48,51,49,51,50,51,51,51,52,51,53,51,54,51,55,51,56,51,57,52,48,52,49,52,50,52,51,52,52,52,53,52,54,52,55,52,56,52,57,53,48,53,49,53,50,53,51,53,52,53,53,53,54,53,55,53,56,53,57,54,48,54,49,54,50,54,51,54,52,54,53,54,54,54,55,54,56,54,57,55,48,55,49,55,50,55,51,55,52,55,53,55,54,55,55,55,56,55,57,56,48,56,49,56,50,56,51,56,52,56,53,56,54,56,55,56,56,56,57,57,48,57,49,57,50,57,51,57,52,57,53,57,54,57,55,57,56,57,57])) (.t 117)),μ 119 15,σ 120 (.index (.c (.str [48,48,48,49,48,50,48,51,48,52,48,53,48,54,48,55,48,56,48,57,49,48,49,49,49,50,49,51,49,52,49,53,49,54,49,55,49,56,49,57,50,48,50,49,50,50,50,51,50,52,50,53,50,54,50,55,50,56,50,57,51,48,51,49,51,50,51,51,51,52,51,53,51,54,51,55,51,56,51,57,52,48,52,49,52,50,52,51,52,52,52,53,52,54,52,55,52,56,52,57,53,48,53,49,53,50,53,51,53,52,53,53,53,54,53,55,53,56,53,57,54,48,54,49,54,50,54,51,54,52,54,53,54,54,54,55,54,56,54,57,55,48,55,49,55,50,55,51,55,52,55,53,55,54,55,55,55,56,55,57,56,48,56,49,56,50,56,51,56,52,56,53,56,54,56,55,56,56,56,57,57,48,57,49,57,50,57,51,57,52,57,53,57,54,57,55,57,56,57,57])) (.t 119)),ι 121 1 110 112,ω 1 121 118,ι 122 1 113 115,ω 1 122 120] [] [] [0,4,12,14]) (.seq (.av [μ 123 0,μ 124 4,γ 125 .sub 124 3,μ 126 0,μ 127 4,γ 128 .sub 127 4,μ 129 14,σ 130 (.bin .add (.t 129) (.c (.int .u32 (.ofNat 1)))),σ 131 (.index (.c (.str [48,48,48,49,48,50,48,51,48,52,48,53,48,54,48,55,48,56,48,57,49,48,49,49,49,50,49,51,49,52,49,53,49,54,49,55,49,56,49,57,50,48,50,49,50,50,50,51,50,52,50,53,50,54,50,55,50,56,50,57,51,48,51,49,51,50,51,51,51,52,51,53,51,54,51,55,51,56,51,57,52,48,52,49,52,50,52,51,52,52,52,53,52,54,52,55,52,56,52,57,53,48,53,49,53,50,53,51,53,52,53,53,53,54,53,55,53,56,53,57,54,48,54,49,54,50,54,51,54,52,54,53,54,54,54,55,54,56,54,57,55,48,55,49,55,50,55,51,55,52,55,53,55,54,55,55,55,56,55,57,56,48,56,49,56,50,56,51,56,52,56,53,56,54,56,55,56,56,56,57,57,48,57,49,57,50,57,51,57,52,57,53,57,54,57,55,57,56,57,57])) (.t 130)),μ 132 14,σ 133 (.index (.c (.str [48,48,48,49,48,50,48,51,48,52,48,53,48,54,48,55,48,56,48,57,49,48,49,49,49,50,49,51,49,52,49,53,49,54,49,55,49,56,49,57,50,48,50,49,50,50,50,51,50,52,50,53,50,54,50,55,50,56,50,57,51,48,51,49,51,50,51,51,51,52,51,53,51,54,51,55,51,56,51,57,52,48,52,49,52,50,52,51,52,52,52,53,52,54,52,55,52,56,52,57,53,48,53,49,53,50,53,51,53,52,53,53,53,54,53,55,53,56,53,57,54,48,54,49,54,50,54,51,54,52,54,53,54,54,54,55,54,56,54,57,55,48,55,49,55,50,55,51,55,52,55,53,55,54,55,55,55,56,55,57,56,48,56,49,56,50,56,51,56,52,56,53,56,54,56,55,56,56,56,57,57,48,57,49,57,50,57,51,57,52,57,53,57,54,57,55,57,56,57,57])) (.t 132)),ι 134 1 123 125,ω 1 134 131,ι 135 1 126 128,ω 1 135 133] [] [] [0,4,12]) (.region [μ 136 4,γ 137 .sub 136 4,μ 4 137] [0,4,12])))))) .skip)) (.seq (.seq (.region [μ 138 4,γ 139 .geq 138 2] [0,4,12,139]) (.cond (.t 139) (.seq (.region [μ 140 12,σ 141 (.bin .rem (.t 140) (.c (.int .u32 (.ofNat 100)))),σ 142 (.bin .mul (.t 141) (.c (.int .u32 (.ofNat 2)))),μ 16 142] [0,4,12,16]) (.seq (.region [μ 143 12,σ 144 (.bin .quo (.t 143) (.c (.int .u32 (.ofNat 100)))),μ 12 144] [0,4,12,16]) (.seq (.av [μ 145 0,μ 146 4,γ 147 .sub 146 1,μ 148 0,μ 149 4,γ 150 .sub 149 2,μ 151 16,σ 152 (.bin .add (.t 151) (.c (.int .u32 (.ofNat 1)))),σ 153 (.index (.c (.str [48,48,48,49,48,50,48,51,48,52,48,53,48,54,48,55,48,56,48,57,49,48,49,49,49,50,49,51,49,52,49,53,49,54,49,55,49,56,49,57,50,48,50,49,50,50,50,51,50,52,50,53,50,54,50,55,50,56,50,57,51,48,51,49,51,50,51,51,51,52,51,53,51,54,51,55,51,56,51,57,52,48,52,49,52,50,52,51,52,52,52,53,52,54,52,55,52,56,52,57,53,48,53,49,53,50,53,51,53,52,53,53,53,54,53,55,53,56,53,57,54,48,54,49,54,50,54,51,54,52,54,53,54,54,54,55,54,56,54,57,55,48,55,49,55,50,55,51,55,52,55,53,55,54,55,55,55,56,55,57,56,48,56,49,56,50,56,51,56,52,56,53,56,54,56,55,56,56,56,57,57,48,57,49,57,50,57,51,57,52,57,53,57,54,57,55,57,56,57,57])) (.t 152)),μ 154 16,σ 155 (.index (.c (.str [48,48,48,49,48,50,48,51,48,52,48,53,48,54,48,55,48,56,48,57,49,48,49,49,49,50,49,51,49,52,49,53,49,54,49,55,49,56,49,57,50,48,50,49,50,50,50,51,50,52,50,53,50,54,50,55,50,56,50,57,51,48,51,49,51,50,51,51,51,52,51,53,51,54,51,55,51,56,51,57,52,48,52,49,52,50,52,51,52,52,52,53,52,54,52,55,52,56,52,57,53,48,53,49,53,50,53,51,53,52,53,53,53,54,53,55,53,56,53,57,54,48,54,49,54,50,54,51,54,52,54,53,54,54,54,55,54,56,54,57,55,48,55,49,55,50,55,51,55,52,55,53,55,54,55,55,55,56,55,57,56,48,56,49,56,50,56,51,56,52,56,53,56,54,56,55,56,56,56,57,57,48,57,49,57,50,57,51,57,52,57,53,57,54,57,55,57,56,57,57])) (.t 154)),ι 156 1 145 147,ω 1 156 153,ι 157 1 148 150,ω 1 157 155] [] [] [0,4,12]) (.region [μ 158 4,γ 159 .sub 158 2,μ 4 159] [0,4,12])))) .skip)) (.seq (.region [μ 160 4,γ 161 .gtr 160 0] [0,12,161]) (.cond (.t 161) (.region [μ 162 0,μ 163 12,σ 164 (.bin .add (.c (.int .u32 (.ofNat 48))) (.t 163)),σ 165 (.i2i .u8 (.t 164)),σ 166 (.aY 1 (.t 162) (κ 0)),ω 1 166 165] []) .skip))))))),false⟩
def NY:aj:=⟨[.t 2],(.seq (.region [η 2 0] [0]) (.seq (.region [μ 3 0,γ 4 .mul 3 78913,σ 5 (.bin .shr (.t 4) (.c (.int .u64 (.ofNat 18)))),μ 2 5] [2]) .ret)),true⟩
def Qo:aj:=⟨[.t 2],(.seq (.region [η 2 0] [0]) (.seq (.seq (.region [μ 3 0] [3]) (.cond (.t 3) (.seq (.region [η 2 1] [2]) .ret) .skip)) (.seq (.region [η 2 0] [2]) .ret))),true⟩
def C0:aj:=⟨[.cell 6 13 true,.t 7],(.seq (.region [σ 3 (.box 17 (.t 0)),σ 6 (.alloc [(.str []),(.str []),δ,δ,δ,δ,δ,δ,δ,δ,θ,θ,(.bool false)]),η 7 0] [1,2,3,6]) (.seq (.region [Λ 13 17 3,μ 14 1,μ 15 2,σ 16 (.call 440 [.t 13,.t 14,.t 15]),μ 12 16,ε 17 12 0,ε 18 12 1,μ 8 17,μ 9 18] [1,3,6,8,9]) (.seq (.seq (.region [μ 19 9,γ 20 .neq 19 0] [1,3,6,8,9,20]) (.cond (.t 20) (.seq (.region [σ 21 (.build [(.str []),(.str []),δ,δ,δ,δ,δ,δ,δ,δ,θ,θ,(.bool false)] []),μ 22 9,ω 13 6 21,μ 7 22] [6,7]) .ret) .skip)) (.seq (.av [μ 23 8,φ 24 11 3,σ 25 (.cA 1 3 (.t 24) (.t 23)),ρ 26 25,μ 27 1,σ 28 (.call 439 [.t 26,.t 27]),μ 29 8,φ 30 14 3,σ 31 (.cA 1 3 (.t 30) (.t 29)),ρ 32 31,μ 33 1,σ 34 (.call 439 [.t 32,.t 33]),σ 35 (.build [(.str []),(.str []),δ,δ,δ,δ,δ,δ,δ,δ,θ,θ,(.bool false)] [(0,1,(.t 28)),(1,1,(.t 34))]),σ 10 (.alloc [(.str []),(.str []),δ,δ,δ,δ,δ,δ,δ,δ,θ,θ,(.bool false)]),ω 13 10 35] [] [(3,[1]),(5,[1]),(9,[1]),(11,[1])] [1,3,6,10]) (.seq (.region [Λ 37 17 3,μ 38 1,σ 39 (.call 441 [.t 37,.t 38]),μ 36 39,ε 40 36 0,ε 41 36 1,φ 42 2 10,ω 4 42 40] [1,3,6,10]) (.seq (.region [Λ 44 17 3,μ 45 1,σ 46 (.call 442 [.t 44,.t 45]),μ 43 46,ε 47 43 0,ε 48 43 1,φ 49 6 10,ω 4 49 47] [6,10]) (.seq (.region [σ 50 (.gD 443 [] [.t 10]),μ 11 50] [6,10,11]) (.seq (.region [μ 51 11,φ 52 0 10,ρ 53 52,φ 54 2 10,Λ 55 4 54,σ 56 (.bz (.t 51) [.t 53,.t 55]),φ 57 10 10,ω 1 57 56] [6,10,11]) (.seq (.region [μ 58 11,φ 59 1 10,ρ 60 59,φ 61 6 10,Λ 62 4 61,σ 63 (.bz (.t 58) [.t 60,.t 62]),φ 64 11 10,ω 1 64 63] [6,10]) (.seq (.region [Λ 65 13 10,ω 13 6 65,η 7 0] [6,7]) .ret)))))))))),true⟩
def Rj:aj:=⟨[.cell 0 17 true],(.seq (.region [σ 0 (.alloc [δ,δ,δ,δ,δ,δ,δ,δ,δ,δ,δ,(.str []),(.str []),(.str []),(.str []),(.str []),(.str [])])] [0]) (.seq (.region [σ 2 (.call 444 []),σ 1 (.alloc [δ,δ,δ,δ,δ,δ,δ,δ,δ,δ,δ,(.str []),(.str []),(.str []),(.str []),(.str []),(.str [])]),ω 17 1 2] [0,1]) (.seq (.region [φ 3 11 1,σ 4 (.cA 1 3 (.t 3) (κ 1)),⟨none,.store 1 (.t 4) (.c (.str [45,32,3,32,45])),none⟩] [0,1]) (.seq (.region [Λ 5 17 1,ω 17 0 5] [0]) .ret)))),true⟩
def sE:RC:=(.seq (.region [β 19 .lss 18 17] [0,3,16,17,18,19]) (.seq (.cond (.t 19) .skip (.exit 0)) (.seq (.block 1 (.seq (.region [ι 20 1 16 18,ρ 21 20,μ 8 21] [0,3,8,16,17,18]) (.seq (.region [μ 22 8,σ 23 (.call 438 [.t 22]),σ 24 (.un .not (.t 23))] [0,3,16,17,18,24]) (.cond (.t 24) (.seq (.region [σ 4 (.mv (.c θ)),σ 5 (.mv (.c (.bool false))),η 6 4] [4,5,6]) .ret) .skip)))) (.region [γ 25 .add 18 1,μ 18 25] [0,3,16,17,18]))))
def sf:RC:=.loop [0,3,16,17,18] sE
def rS:aj:=⟨[.t 4,.t 5,.t 6],(.seq (.region [σ 3 (.box 4 (.t 1)),σ 4 (.mv (.c θ)),σ 5 (.mv (.c (.bool false))),η 6 0] [0,3]) (.seq (.seq (.region [μ 12 0,ν 13 .str 12,γ 14 .gtr 13 4096] [0,3,14]) (.cond (.t 14) (.seq (.region [σ 4 (.mv (.c θ)),σ 5 (.mv (.c (.bool false))),η 6 3] [4,5,6]) .ret) .skip)) (.seq (.seq (.region [μ 15 0,σ 16 (.s2b (.t 15)),ν 17 .slice 16,η 18 0] [0,3,16,17,18]) (.block 0 sf)) (.seq (.seq (.region [φ 26 2 3,ρ 27 26,σ 28 (.call 445 [.t 27]),σ 29 (.un .not (.t 28)),μ 30 29,Φ 31 3 3 30 false,Ρ 32 31 30 false,τ 33 (.call 445 [.t 32]) 30 false,τ 34 (.un .not (.t 33)) 30 false,ζ 35 30 34] [0,3,35]) (.cond (.t 35) (.seq (.region [σ 4 (.mv (.c θ)),σ 5 (.mv (.c (.bool false))),η 6 5] [4,5,6]) .ret) .skip)) (.seq (.seq (.region [μ 36 0,σ 37 (.bin .eql (.t 36) (.c (.str [])))] [0,3,37]) (.cond (.t 37) (.seq (.region [σ 4 (.mv (.c θ)),σ 5 (.mv (.c (.bool false))),η 6 0] [4,5,6]) .ret) .skip)) (.seq (.av [μ 39 0,σ 40 (.call 446 [.t 39]),φ 41 2 3,ρ 42 41,σ 43 (.build [δ,δ] [(1,1,(.t 42))]),σ 44 (.call 307 [.t 40,(.c θ),.t 43]),μ 38 44,ε 45 38 0,ε 46 38 1,μ 9 45,μ 10 46] [] [] [3,9]) (.seq (.region [μ 47 9,ν 48 .slice 47,φ 49 3 3,ρ 50 49,γ 51 .quo 50 10,σ 52 (.min [.t 48,.t 51]),μ 11 52] [9,11]) (.seq (.region [μ 53 9,μ 54 11,μ 55 11,σ 56 (.slice false 7 (.t 53) none (some (.t 54)) (some (.t 55))),μ 57 11,μ 58 9,ν 59 .slice 58,β 60 .lss 57 59,μ 4 56,μ 5 60,η 6 0] [4,5,6]) .ret)))))))),true⟩
def OP:aj:=⟨[.t 0],(.seq (.region [σ 0 (.mv (.c (.bool false)))] []) (.seq (.region [σ 4 (.call 415 []),σ 5 (.call 414 [.t 4,(κ 3),(.c (.bool false))]),μ 3 5,ε 6 3 0,ε 7 3 1,σ 1 (.alloc [(.str []),(.str []),δ,δ,δ,δ,δ,δ,δ,δ,θ,θ,(.bool false)]),ω 13 1 6,μ 2 7] [1,2]) (.seq (.region [μ 8 2,γ 9 .eql 8 0,μ 10 9,Φ 11 0 1 10 true,Ρ 12 11 10 true,τ 13 (.bin .eql (.t 12) (.c (.str [45,32,51,32,45]))) 10 true,ξ 14 10 13,μ 15 14,Φ 16 2 1 15 true,τ 17 (.load 4 true (.t 16)) 15 true,τ 18 (.build [δ,δ,δ,δ] [(0,1,(κ 30)),(1,1,(κ 20)),(2,1,(κ 240)),(3,1,(κ 20))]) 15 true,τ 19 (.eq (.agg [.int,.int,.int,.int]) false (.t 17) (.t 18)) 15 true,ξ 20 15 19,μ 21 20,Φ 22 10 1 21 true,Ρ 23 22 21 true,τ 24 (.len .slice (.t 23)) 21 true,τ 25 (.bin .eql (.t 24) (κ 1)) 21 true,ξ 26 21 25,μ 27 26,Φ 28 10 1 27 true,Ρ 29 28 27 true,τ 30 (.aY 7 (.t 29) (κ 0)) 27 true,Φ 31 1 30 27 true,Ρ 32 31 27 true,τ 33 (.bin .eql (.t 32) (κ 5)) 27 true,ξ 34 27 33,μ 35 34,Φ 36 10 1 35 true,Ρ 37 36 35 true,τ 38 (.aY 7 (.t 37) (κ 0)) 35 true,Φ 39 3 38 35 true,Ρ 40 39 35 true,τ 41 (.bin .eql (.t 40) (κ 240)) 35 true,ξ 42 35 41,μ 0 42] [0]) .ret))),true⟩
def BD:aj:=⟨[.t 2],(.seq (.region [σ 2 (.mv (.c (.bool false)))] [0]) (.seq (.region [μ 3 0,σ 4 (.bin .geq (.t 3) (.c (.int .u8 (.ofNat 32)))),μ 5 4,Μ 6 0 5 true,τ 7 (.bin .leq (.t 6) (.c (.int .u8 (.ofNat 126)))) 5 true,ξ 8 5 7,μ 2 8] [2]) .ret)),true⟩
def tD:RC:=(.seq (.region [β 12 .lss 11 10] [1,5,9,10,11,12]) (.seq (.cond (.t 12) .skip (.exit 0)) (.seq (.block 1 (.seq (.region [ι 13 1 9 11,ρ 14 13,μ 7 14] [1,5,7,9,10,11]) (.seq (.region [μ 15 7,σ 16 (.bin .eql (.t 15) (.c (.int .u8 (.ofNat 3))))] [1,5,7,9,10,11,16]) (.cond (.t 16) (.region [μ 17 1,σ 18 (.call 374 [.t 17]),σ 19 (.call 463 [.t 5,.t 18])] [1,5,9,10,11]) (.region [μ 20 7,σ 21 (.call 464 [.t 5,.t 20])] [1,5,9,10,11]))))) (.region [γ 22 .add 11 1,μ 11 22] [1,5,9,10,11]))))
def o9:RC:=.loop [1,5,9,10,11] tD
def D5:aj:=⟨[.t 4],(.seq (.region [σ 4 (.mv (.c (.str [])))] [0,1]) (.seq (.region [σ 5 (.gX 75 [.b5,θ])] [0,1,5]) (.seq (.seq (.region [μ 8 0,σ 9 (.s2b (.t 8)),ν 10 .slice 9,η 11 0] [1,5,9,10,11]) (.block 0 o9)) (.seq (.region [σ 23 (.call 465 [.t 5]),μ 4 23] [4]) .ret)))),true⟩
def qB:aj:=⟨[.t 6,.t 7],(.seq (.region [σ 3 (.box 17 (.t 0)),η 6 0,η 7 0] [1,2,3]) (.seq (.seq (.region [Λ 9 17 3,μ 10 1,σ 11 (.call 466 [.t 9,.t 10,(κ 1)]),μ 8 11] [1,2,3,8]) (.seq (.region [μ 12 8,γ 13 .neq 12 0] [1,2,3,8,13]) (.cond (.t 13) (.seq (.region [μ 14 8,η 6 0,μ 7 14] [6,7]) .ret) .skip))) (.seq (.block 0 (.seq (.region [μ 16 2,μ 17 16,Φ 18 11 3 17 true,τ 19 (.cA 1 3 (.t 18) (κ 0)) 17 true,Ρ 20 19 17 true,τ 21 (.bin .neq (.t 20) (.c (.str []))) 17 true,Μ 22 21 17 true,Φ 23 14 3 22 false,τ 24 (.cA 1 3 (.t 23) (κ 0)) 22 false,Ρ 25 24 22 false,τ 26 (.bin .neq (.t 25) (.c (.str []))) 22 false,τ 27 (.pick (.t 22) (.c (.bool true)) (.t 26)) 17 true,ξ 28 17 27,μ 15 28] [1,15]) (.cond (.t 15) (.seq (.region [η 6 0,η 7 0] [6,7]) .ret) (.seq (.region [μ 30 1,γ 31 .rem 30 2,γ 32 .eql 31 1,μ 29 32] [29]) (.cond (.t 29) (.seq (.region [η 6 1,η 7 0] [6,7]) .ret) .skip))))) (.seq (.region [η 6 2,η 7 0] [6,7]) .ret)))),true⟩
def Hp:aj:=⟨[.cell 4 4 true,.t 5],(.seq (.region [σ 2 (.box 17 (.t 0)),σ 4 (.alloc [δ,δ,δ,δ]),η 5 0] [1,2,4]) (.seq (.seq (.region [Λ 7 17 2,μ 8 1,σ 9 (.call 466 [.t 7,.t 8,(κ 1)]),μ 6 9] [1,2,4,6]) (.seq (.region [μ 10 6,γ 11 .neq 10 0] [1,2,4,6,11]) (.cond (.t 11) (.seq (.region [σ 12 (.build [δ,δ,δ,δ] []),μ 13 6,ω 4 4 12,μ 5 13] [4,5]) .ret) .skip))) (.seq (.region [Λ 14 17 2,μ 15 1,φ 16 2 2,ρ 17 16,γ 18 .quo 17 2,φ 19 2 2,ρ 20 19,φ 21 2 2,ρ 22 21,γ 23 .quo 22 2,β 24 .sub 20 23,σ 25 (.call 467 [.t 14,.t 15,.t 18,.t 24]),ω 4 4 25,η 5 0] [4,5]) .ret))),true⟩
def Ie:aj:=⟨[.cell 4 4 true,.t 5],(.seq (.region [σ 2 (.box 17 (.t 0)),σ 4 (.alloc [δ,δ,δ,δ]),η 5 0] [1,2,4]) (.seq (.seq (.region [Λ 7 17 2,μ 8 1,σ 9 (.call 466 [.t 7,.t 8,(κ 1)]),μ 6 9] [1,2,4,6]) (.seq (.region [μ 10 6,γ 11 .neq 10 0] [1,2,4,6,11]) (.cond (.t 11) (.seq (.region [σ 12 (.build [δ,δ,δ,δ] []),μ 13 6,ω 4 4 12,μ 5 13] [4,5]) .ret) .skip))) (.seq (.region [Λ 14 17 2,μ 15 1,φ 16 1 2,ρ 17 16,φ 18 3 2,ρ 19 18,β 20 .sub 17 19,φ 21 3 2,ρ 22 21,γ 23 .quo 22 2,σ 24 (.call 467 [.t 14,.t 15,.t 20,.t 23]),ω 4 4 24,η 5 0] [4,5]) .ret))),true⟩
def DO:aj:=⟨[.t 5],(.seq (.region [σ 4 (.box 4 (.t 1)),σ 5 (.mv (.c θ))] [0,2,4]) (.seq (.region [μ 10 0,Λ 11 4 4,σ 12 (.call 416 [.t 10,.t 11]),μ 9 12,ε 13 9 0,ε 14 9 1,ε 15 9 2,μ 6 13,μ 7 14,μ 8 15] [2,6,7]) (.seq (.region [φ 16 12 2,ρ 17 16,μ 18 17,Μ 19 7 18 false,ζ 20 18 19,φ 21 12 2,ω 1 21 20] [6]) (.seq (.region [μ 22 6,μ 5 22] [5]) .ret)))),false⟩
def PA:aj:=⟨[.cell 0 17 true],(.seq (.region [σ 0 (.alloc [δ,δ,δ,δ,δ,δ,δ,δ,δ,δ,δ,(.str []),(.str []),(.str []),(.str []),(.str []),(.str [])])] [0]) (.seq (.region [σ 1 (.build [δ,δ,δ,δ,δ,δ,δ,δ,δ,δ,δ,(.str []),(.str []),(.str []),(.str []),(.str []),(.str [])] [(0,1,(κ 300)),(1,1,(κ 400)),(2,1,(κ 40)),(3,1,(κ 40)),(4,1,(κ 30)),(5,1,(κ 30)),(6,1,(κ 1)),(7,1,(κ 10))]),ω 17 0 1] [0]) .ret)),true⟩
def Cw:aj:=⟨[.t 2],(.seq (.region [σ 2 (.mv (.c (.bool false)))] [0]) (.seq (.region [μ 3 0,γ 4 .geq 3 0,μ 5 4,Μ 6 0 5 true,τ 7 (.bin .leq (.t 6) (κ 4095)) 5 true,ξ 8 5 7,μ 2 8] [2]) .ret)),true⟩
def Bv:aj:=⟨[.cell 2 21 true],(.seq (.region [σ 2 (.alloc [(.str []),θ,δ,δ,δ,δ,δ,δ,δ,δ,δ,δ,δ,δ,δ,δ,δ,δ,δ,(.str []),θ])] [0,2]) (.seq (.region [μ 4 0,σ 5 (.build [δ,δ,δ,δ,δ,δ,δ,δ,δ,δ,δ,δ,δ,δ,δ,δ,δ] [(0,1,(κ 8)),(1,1,(κ 10)),(2,1,(κ 3)),(10,1,(κ 1)),(11,1,(κ 1))]),σ 6 (.build [(.str []),θ,δ,δ,δ,δ,δ,δ,δ,δ,δ,δ,δ,δ,δ,δ,δ,δ,δ,(.str []),θ] [(0,1,(.t 4)),(2,17,(.t 5))]),σ 3 (.alloc [(.str []),θ,δ,δ,δ,δ,δ,δ,δ,δ,δ,δ,δ,δ,δ,δ,δ,δ,δ,(.str []),θ]),ω 21 3 6] [0,2,3]) (.seq (.seq (.region [μ 7 0,σ 8 (.bin .neq (.t 7) (.c (.str [])))] [0,2,3,8]) (.cond (.t 8) (.region [μ 9 0,ν 10 .str 9,σ 11 (.build [δ,δ,δ,δ] [(0,1,(.t 10))]),σ 12 (.lit 4 true [δ,δ,δ,δ] 1 [(0,(.t 11))]),φ 13 1 3,ω 1 13 12] [2,3]) .skip)) (.seq (.region [Λ 14 21 3,ω 21 2 14] [2]) .ret)))),true⟩
def DM:aj:=⟨[.t 4,.t 5],(.seq (.region [η 4 0,σ 5 (.mv (.c .aL))] [0,1]) (.seq (.region [μ 6 0,σ 7 (.call 472 [.t 6])] [0,1]) (.seq (.region [μ 8 0,μ 9 0,σ 10 (.aX (.t 9)),φ 11 1 10,ρ 12 11,μ 13 1,σ 14 (.dW 5 1 (.t 12) (.t 13)),σ 15 (.aX (.t 8)),φ 16 1 15,ω 1 16 14] [1]) (.seq (.region [μ 17 1,ν 18 .str 17,μ 4 18,σ 5 (.mv (.c .aL))] [4,5]) .ret)))),false⟩
def EJ:aj:=⟨[.t 4],(.seq (.region [σ 4 (.mv (.c .aL))] [0,1]) (.seq (.region [μ 5 0,σ 6 (.call 472 [.t 5])] [0,1]) (.seq (.region [μ 7 0,μ 8 0,σ 9 (.aX (.t 8)),φ 10 1 9,ρ 11 10,μ 12 1,σ 13 (.lit 1 false [(.int .u8 (.ofNat 0))] 1 [(0,(.t 12))]),σ 14 (.dW 5 1 (.t 11) (.t 13)),σ 15 (.aX (.t 7)),φ 16 1 15,ω 1 16 14] []) (.seq (.region [σ 4 (.mv (.c .aL))] [4]) .ret)))),false⟩
def Fh:aj:=⟨[.t 2],(.seq (.region [σ 2 (.mv (.c (.str [])))] [0]) (.seq (.av [μ 3 0,σ 4 (.aX (.t 3)),φ 5 1 4,ρ 6 5,σ 7 (.gR (.t 6)),μ 8 0,σ 9 (.aX (.t 8)),φ 10 1 9,ρ 11 10,ν 12 .slice 11,σ 13 (.pN 5 (.t 7) (.t 12)),μ 2 13] [] [] [2]) .ret)),false⟩
def xF:aj:=⟨[.t 6],(.seq (.region [σ 3 (.box 17 (.t 0)),η 6 0] [1,2,3]) (.seq (.seq (.region [Λ 8 17 3,σ 9 (.call 473 [.t 8]),μ 7 9] [1,2,7]) (.seq (.region [μ 10 7,γ 11 .neq 10 0] [1,2,7,11]) (.cond (.t 11) (.seq (.region [μ 12 7,μ 6 12] [6]) .ret) .skip))) (.seq (.seq (.region [μ 13 1,μ 14 2,β 15 .lss 13 14,μ 16 15,Μ 17 1 16 false,τ 18 (.bin .gtr (.t 17) (κ 4096)) 16 false,ζ 19 16 18] [19]) (.cond (.t 19) (.seq (.region [η 6 5] [6]) .ret) .skip)) (.seq (.region [η 6 0] [6]) .ret)))),true⟩
def Ge:aj:=⟨[.cell 8 4 true],(.seq (.region [σ 4 (.box 17 (.t 0)),σ 8 (.alloc [δ,δ,δ,δ])] [1,2,3,4,8]) (.seq (.av [Λ 9 17 4,μ 10 1,σ 11 (.call 474 [.t 9,.t 10]),μ 12 2,Λ 13 17 4,σ 14 (.call 475 [.t 13]),φ 15 6 4,ρ 16 15,β 17 .mul 14 16,φ 18 7 4,ρ 19 18,φ 20 6 4,ρ 21 20,γ 22 .sub 21 1,β 23 .mul 19 22,β 24 .add 17 23,μ 25 3,σ 26 (.build [δ,δ,δ,δ] [(0,1,(.t 11)),(1,1,(.t 12)),(2,1,(.t 24)),(3,1,(.t 25))]),ω 4 8 26] [] [] [8]) .ret)),true⟩
def Ee:aj:=⟨[],(.seq (.region [μ 2 0,σ 3 (.aX (.t 2)),φ 4 0 3,ρ 5 4,σ 6 (.eq .ptr false (.t 5) (.c .b5))] [0,6]) (.cond (.t 6) (.region [μ 7 0,μ 8 0,σ 9 (.conv 75 2 (.t 8)),σ 10 (.call 478 [.t 9]),σ 11 (.conv 75 2 (.t 10)),σ 12 (.aX (.t 7)),φ 13 0 12,ω 1 13 11] []) (.seq (.region [μ 14 0,σ 15 (.aX (.t 14)),φ 16 0 15,ρ 17 16,μ 18 0,σ 19 (.eq .ptr true (.t 17) (.t 18))] [19]) (.cond (.t 19) .stuck .skip)))),false⟩
def oA:RC:=(.seq (.region [β 41 .lss 40 39] [1,38,39,40,41]) (.seq (.cond (.t 41) .skip (.exit 0)) (.seq (.block 1 (.seq (.region [ι 42 4 38 40,Λ 43 4 42,σ 4 (.alloc [δ,δ,δ,δ]),ω 4 4 43] [1,4,38,39,40]) (.seq (.region [φ 44 0 4,ρ 45 44,φ 46 1 4,ρ 47 46,β 48 .lss 45 47,μ 49 48,Φ 50 0 4 49 false,Ρ 51 50 49 false,Φ 52 2 4 49 false,Ρ 53 52 49 false,τ 54 (.bin .gtr (.t 51) (.t 53)) 49 false,ζ 55 49 54] [1,4,38,39,40,55]) (.cond (.t 55) (.seq (.region [φ 56 3 4,ρ 57 56,μ 2 57] [2]) .ret) .skip)))) (.region [γ 58 .add 40 1,μ 40 58] [1,38,39,40]))))
def mI:RC:=.loop [1,38,39,40] oA
def wI:aj:=⟨[.t 2],(.seq (.region [σ 1 (.box 17 (.t 0)),η 2 0] [1]) (.seq (.seq (.region [φ 5 0 1,ρ 6 5,σ 7 (.build [δ,δ,δ,δ] [(0,1,(.t 6)),(1,1,(κ 1)),(2,1,(κ 4095)),(3,1,(κ 5))]),φ 8 1 1,ρ 9 8,σ 10 (.build [δ,δ,δ,δ] [(0,1,(.t 9)),(1,1,(κ 1)),(2,1,(κ 4095)),(3,1,(κ 5))]),φ 11 2 1,ρ 12 11,σ 13 (.build [δ,δ,δ,δ] [(0,1,(.t 12)),(1,1,(κ 0)),(2,1,(κ 4095)),(3,1,(κ 5))]),φ 14 3 1,ρ 15 14,σ 16 (.build [δ,δ,δ,δ] [(0,1,(.t 15)),(1,1,(κ 0)),(2,1,(κ 4095)),(3,1,(κ 5))]),φ 17 4 1,ρ 18 17,σ 19 (.build [δ,δ,δ,δ] [(0,1,(.t 18)),(1,1,(κ 0)),(2,1,(κ 4095)),(3,1,(κ 5))]),φ 20 5 1,ρ 21 20,σ 22 (.build [δ,δ,δ,δ] [(0,1,(.t 21)),(1,1,(κ 0)),(2,1,(κ 4095)),(3,1,(κ 5))]),φ 23 7 1,ρ 24 23,σ 25 (.build [δ,δ,δ,δ] [(0,1,(.t 24)),(1,1,(κ 0)),(2,1,(κ 4095)),(3,1,(κ 5))]),φ 26 6 1,ρ 27 26,σ 28 (.build [δ,δ,δ,δ] [(0,1,(.t 27)),(1,1,(κ 1)),(2,1,(κ 8)),(3,1,(κ 2))]),φ 29 8 1,ρ 30 29,σ 31 (.build [δ,δ,δ,δ] [(0,1,(.t 30)),(1,1,(κ 0)),(2,1,(κ 2)),(3,1,(κ 2))]),φ 32 9 1,ρ 33 32,σ 34 (.build [δ,δ,δ,δ] [(0,1,(.t 33)),(1,1,(κ 0)),(2,1,(κ 1)),(3,1,(κ 2))]),φ 35 10 1,ρ 36 35,σ 37 (.build [δ,δ,δ,δ] [(0,1,(.t 36)),(1,1,(κ 0)),(2,1,(κ 1)),(3,1,(κ 2))]),σ 38 (.lit 4 true [δ,δ,δ,δ] 11 [(0,(.t 7)),(1,(.t 10)),(2,(.t 13)),(3,(.t 16)),(4,(.t 19)),(5,(.t 22)),(6,(.t 25)),(7,(.t 28)),(8,(.t 31)),(9,(.t 34)),(10,(.t 37))]),ν 39 .slice 38,η 40 0] [1,38,39,40]) (.block 0 mI)) (.seq (.seq (.region [Λ 59 17 1,σ 60 (.call 475 [.t 59]),γ 61 .lss 60 10,μ 62 61,τ 63 (.load 17 true (.t 1)) 62 false,τ 64 (.call 479 [.t 63]) 62 false,τ 65 (.bin .lss (.t 64) (κ 20)) 62 false,ζ 66 62 65] [1,66]) (.cond (.t 66) (.seq (.region [η 2 5] [2]) .ret) .skip)) (.seq (.av [φ 67 11 1,σ 68 (.gM 1 false 3 (.t 67)),φ 69 14 1,σ 70 (.gM 1 false 3 (.t 69)),σ 71 (.append 1 false 16 (.t 68) (.t 70)),σ 72 (.call 480 [.t 71]),μ 2 72] [] [] [2]) .ret)))),true⟩
def BU:aj:=⟨[.t 4],(.seq (.region [σ 2 (.box 17 (.t 0)),η 4 0] [1,2]) (.seq (.seq (.region [φ 5 10 2,ρ 6 5,γ 7 .eql 6 1,μ 8 7,Μ 9 1 8 true,τ 10 (.bin .rem (.t 9) (κ 2)) 8 true,τ 11 (.bin .eql (.t 10) (κ 0)) 8 true,ξ 12 8 11] [2,12]) (.cond (.t 12) (.seq (.region [φ 13 5 2,ρ 14 13,μ 4 14] [4]) .ret) .skip)) (.seq (.region [φ 15 4 2,ρ 16 15,μ 4 16] [4]) .ret))),true⟩
def Ii:aj:=⟨[.t 2],(.seq (.region [σ 1 (.box 17 (.t 0)),η 2 0] [1]) (.seq (.region [φ 3 0 1,ρ 4 3,φ 5 4 1,ρ 6 5,β 7 .sub 4 6,φ 8 5 1,ρ 9 8,β 10 .sub 7 9,φ 11 7 1,ρ 12 11,φ 13 6 1,ρ 14 13,γ 15 .sub 14 1,β 16 .mul 12 15,β 17 .sub 10 16,φ 18 6 1,ρ 19 18,β 20 .quo 17 19,μ 2 20] [2]) .ret)),true⟩
def Gl:aj:=⟨[.t 2],(.seq (.region [σ 1 (.box 17 (.t 0)),η 2 0] [1]) (.seq (.region [φ 3 1 1,ρ 4 3,φ 5 2 1,ρ 6 5,β 7 .sub 4 6,φ 8 3 1,ρ 9 8,β 10 .sub 7 9,μ 2 10] [2]) .ret)),true⟩
def tL:RC:=(.seq (.region [β 12 .lss 11 10] [0,9,10,11,12]) (.seq (.cond (.t 12) .skip (.exit 0)) (.seq (.block 1 (.seq (.region [ι 13 1 9 11,ρ 14 13,μ 4 14] [0,4,9,10,11]) (.seq (.region [μ 15 4,ν 16 .str 15,γ 17 .gtr 16 100] [0,9,10,11,17]) (.cond (.t 17) (.seq (.region [η 2 3] [2]) .ret) .skip)))) (.region [γ 18 .add 11 1,μ 11 18] [0,9,10,11]))))
def tu:RC:=.loop [0,9,10,11] tL
def mi:RC:=(.seq (.region [β 28 .lss 27 26] [6,19,20,21,26,27,28]) (.seq (.cond (.t 28) .skip (.exit 4)) (.seq (.block 5 (.seq (.region [μ 29 27,μ 7 29] [6,7,19,20,21,26,27]) (.seq (.region [μ 30 6,μ 31 7,σ 32 (.index (.t 30) (.t 31)),μ 8 32] [6,8,19,20,21,26,27]) (.seq (.region [μ 33 8,σ 34 (.bin .neq (.t 33) (.c (.int .u8 (.ofNat 3)))),μ 35 34,Μ 36 8 35 true,τ 37 (.bin .lss (.t 36) (.c (.int .u8 (.ofNat 32)))) 35 true,Μ 38 37 35 true,Μ 39 8 38 false,τ 40 (.bin .gtr (.t 39) (.c (.int .u8 (.ofNat 126)))) 38 false,τ 41 (.pick (.t 38) (.c (.bool true)) (.t 40)) 35 true,ξ 42 35 41] [6,19,20,21,26,27,42]) (.cond (.t 42) (.seq (.region [η 2 4] [2]) .ret) .skip))))) (.region [γ 43 .add 27 1,μ 27 43] [6,19,20,21,26,27]))))
def tI:RC:=.loop [6,19,20,21,26,27] mi
def sJ:RC:=(.seq (.region [β 22 .lss 21 20] [19,20,21,22]) (.seq (.cond (.t 22) .skip (.exit 2)) (.seq (.block 3 (.seq (.region [ι 23 1 19 21,ρ 24 23,μ 6 24] [6,19,20,21]) (.seq (.region [μ 25 6,ν 26 .str 25,η 27 0] [6,19,20,21,26,27]) (.block 4 tI)))) (.region [γ 44 .add 21 1,μ 21 44] [19,20,21]))))
def tn:RC:=.loop [19,20,21] sJ
def AS:aj:=⟨[.t 2],(.seq (.region [η 2 0] [0]) (.seq (.seq (.region [μ 9 0,ν 10 .slice 9,η 11 0] [0,9,10,11]) (.block 0 tu)) (.seq (.seq (.region [μ 19 0,ν 20 .slice 19,η 21 0] [19,20,21]) (.block 2 tn)) (.seq (.region [η 2 0] [2]) .ret)))),true⟩
def CJ:aj:=⟨[.t 6],(.seq (.region [σ 3 (.box 17 (.t 0)),σ 6 (.mv (.c (.bool false)))] [1,2,3]) (.seq (.region [Λ 12 17 3,μ 13 1,μ 14 2,σ 15 (.call 414 [.t 12,.t 13,.t 14]),μ 11 15,ε 16 11 0,ε 17 11 1,σ 7 (.alloc [(.str []),(.str []),δ,δ,δ,δ,δ,δ,δ,δ,θ,θ,(.bool false)]),ω 13 7 16,μ 8 17] [1,2,3,7,8]) (.seq (.region [Λ 19 17 3,μ 20 1,μ 21 2,σ 22 (.call 647 [.t 19,.t 20,.t 21]),μ 18 22,ε 23 18 0,ε 24 18 1,σ 9 (.alloc [(.str []),(.str []),δ,δ,δ,δ,δ,δ,δ,δ,θ,θ,(.bool false)]),ω 13 9 23,μ 10 24] [7,8,9,10]) (.seq (.region [Λ 25 13 7,Λ 26 13 9,σ 27 (.call 648 [.t 25,.t 26]),μ 28 27,Μ 29 8 28 true,Μ 30 10 28 true,τ 31 (.bin .eql (.t 29) (.t 30)) 28 true,ξ 32 28 31,μ 33 32,τ 34 (.call 417 []) 33 true,ξ 35 33 34,μ 6 35] [6]) .ret)))),true⟩
def yb:aj:=⟨[.cell 6 13 true,.t 7],(.seq (.region [σ 3 (.box 17 (.t 0)),σ 6 (.alloc [(.str []),(.str []),δ,δ,δ,δ,δ,δ,δ,δ,θ,θ,(.bool false)]),η 7 0] [1,2,3,6]) (.seq (.region [Λ 13 17 3,σ 14 (.call 651 [.t 13]),μ 8 14] [1,2,3,6,8]) (.seq (.seq (.region [μ 15 8,γ 16 .eql 15 0,μ 17 16,Μ 18 1 17 true,τ 19 (.bin .lss (.t 18) (κ 1)) 17 true,Μ 20 19 17 true,Μ 21 1 20 false,τ 22 (.bin .gtr (.t 21) (κ 4096)) 20 false,τ 23 (.pick (.t 20) (.c (.bool true)) (.t 22)) 17 true,ξ 24 17 23] [1,2,3,6,8,24]) (.cond (.t 24) (.region [η 8 5] [1,2,3,6,8]) .skip)) (.seq (.seq (.region [μ 25 8,γ 26 .neq 25 0] [1,2,3,6,8,26]) (.cond (.t 26) (.seq (.region [σ 27 (.build [(.str []),(.str []),δ,δ,δ,δ,δ,δ,δ,δ,θ,θ,(.bool false)] []),μ 28 8,ω 13 6 27,μ 7 28] [6,7]) .ret) .skip)) (.seq (.region [Λ 29 17 3,μ 30 1,μ 31 2,σ 32 (.call 652 [.t 29,.t 30,.t 31]),μ 9 32] [1,3,6,9]) (.seq (.av [μ 33 9,φ 34 11 3,σ 35 (.cA 1 3 (.t 34) (.t 33)),ρ 36 35,μ 37 1,σ 38 (.call 653 [.t 36,.t 37]),μ 39 9,φ 40 14 3,σ 41 (.cA 1 3 (.t 40) (.t 39)),ρ 42 41,μ 43 1,σ 44 (.call 653 [.t 42,.t 43]),Λ 45 17 3,μ 46 1,σ 47 (.call 654 [.t 45,.t 46]),Λ 48 17 3,μ 49 1,σ 50 (.call 655 [.t 48,.t 49]),σ 51 (.build [(.str []),(.str []),δ,δ,δ,δ,δ,δ,δ,δ,θ,θ,(.bool false)] [(0,1,(.t 38)),(1,1,(.t 44)),(2,4,(.t 47)),(6,4,(.t 50))]),σ 10 (.alloc [(.str []),(.str []),δ,δ,δ,δ,δ,δ,δ,δ,θ,θ,(.bool false)]),ω 13 10 51] [] [(3,[1]),(5,[1]),(9,[1]),(11,[1]),(12,[1]),(14,[1]),(15,[1]),(17,[1])] [6,10]) (.seq (.region [σ 11 (.mv (.c (.bool false))),σ 12 (.mv (.c (.bool false)))] [6,10]) (.seq (.region [φ 53 0 10,ρ 54 53,φ 55 2 10,Λ 56 4 55,σ 57 (.call 656 [.t 54,.t 56]),μ 52 57,ε 58 52 0,ε 59 52 1,φ 60 10 10,ω 1 60 58,μ 11 59] [6,10,11]) (.seq (.region [φ 62 1 10,ρ 63 62,φ 64 6 10,Λ 65 4 64,σ 66 (.call 656 [.t 63,.t 65]),μ 61 66,ε 67 61 0,ε 68 61 1,φ 69 11 10,ω 1 69 67,μ 12 68] [6,10,11,12]) (.seq (.region [μ 70 11,μ 71 70,Μ 72 12 71 false,ζ 73 71 72,φ 74 12 10,ω 1 74 73] [6,10]) (.seq (.region [Λ 75 13 10,ω 13 6 75,η 7 0] [6,7]) .ret))))))))))),true⟩
def GC:aj:=⟨[.t 4],(.seq (.region [σ 2 (.box 13 (.t 0)),σ 3 (.box 13 (.t 1)),σ 4 (.mv (.c (.bool false)))] [2,3]) (.seq (.region [φ 5 0 2,ρ 6 5,φ 7 0 3,ρ 8 7,β 9 .eql 6 8,μ 10 9,Φ 11 1 2 10 true,Ρ 12 11 10 true,Φ 13 1 3 10 true,Ρ 14 13 10 true,τ 15 (.bin .eql (.t 12) (.t 14)) 10 true,ξ 16 10 15,μ 17 16,Φ 18 2 2 17 true,τ 19 (.load 4 true (.t 18)) 17 true,Φ 20 2 3 17 true,τ 21 (.load 4 true (.t 20)) 17 true,τ 22 (.eq (.agg [.int,.int,.int,.int]) false (.t 19) (.t 21)) 17 true,ξ 23 17 22,μ 24 23,Φ 25 6 2 24 true,τ 26 (.load 4 true (.t 25)) 24 true,Φ 27 6 3 24 true,τ 28 (.load 4 true (.t 27)) 24 true,τ 29 (.eq (.agg [.int,.int,.int,.int]) false (.t 26) (.t 28)) 24 true,ξ 30 24 29,μ 31 30,Φ 32 10 2 31 true,Ρ 33 32 31 true,Φ 34 10 3 31 true,Ρ 35 34 31 true,τ 36 (.call 309 [.t 33,.t 35]) 31 true,ξ 37 31 36,μ 38 37,Φ 39 11 2 38 true,Ρ 40 39 38 true,Φ 41 11 3 38 true,Ρ 42 41 38 true,τ 43 (.call 309 [.t 40,.t 42]) 38 true,ξ 44 38 43,μ 45 44,Φ 46 12 2 45 true,Ρ 47 46 45 true,Φ 48 12 3 45 true,Ρ 49 48 45 true,τ 50 (.eq .bool false (.t 47) (.t 49)) 45 true,ξ 51 45 50,μ 4 51] [4]) .ret)),true⟩
end Go.D.Tab
end
section
namespace Go.D.Tab
@[simp] def FK:Ω:=[σ 1 (.box 17 (.t 0)),η 2 0]
@[simp] def C5:Ω:=[φ 7 2 1,ρ 8 7,φ 9 3 1,ρ 10 9,φ 11 4 1,ρ 12 11,φ 13 5 1,ρ 14 13,φ 15 7 1,ρ 16 15,σ 17 (.lit 1 false [δ] 5 [(0,(.t 8)),(1,(.t 10)),(2,(.t 12)),(3,(.t 14)),(4,(.t 16))]),μ 3 17]
@[simp] def Cq:Ω:=[η 4 0]
def pG:RC:=(.seq (.seq (.region [μ 18 4,μ 19 3,ν 20 .slice 19,β 21 .lss 18 20] [1,3,4,21]) (.cond (.t 21) .skip (.exit 0))) (.seq (.block 1 (.seq (.region [μ 24 3,μ 25 4,ι 26 1 24 25,ρ 27 26,γ 28 .lss 27 0,μ 29 28,Μ 30 3 29 false,Μ 31 4 29 false,τ 32 (.aY 1 (.t 30) (.t 31)) 29 false,Ρ 33 32 29 false,τ 34 (.bin .gtr (.t 33) (κ 4095)) 29 false,ζ 35 29 34] [1,3,4,35]) (.cond (.t 35) (.seq (.region [η 2 5] [2]) .ret) .skip))) (.region [μ 22 4,γ 23 .add 22 1,μ 4 23] [1,3,4])))
def p6:RC:=.loop [1,3,4] pG
@[simp] def Cu:Ω:=[φ 36 0 1,ρ 37 36,γ 38 .lss 37 1,μ 39 38,Φ 40 0 1 39 false,Ρ 41 40 39 false,τ 42 (.bin .gtr (.t 41) (κ 4095)) 39 false,ζ 43 39 42,μ 44 43,Φ 45 1 1 44 false,Ρ 46 45 44 false,τ 47 (.bin .lss (.t 46) (κ 1)) 44 false,ζ 48 44 47,μ 49 48,Φ 50 1 1 49 false,Ρ 51 50 49 false,τ 52 (.bin .gtr (.t 51) (κ 4095)) 49 false,ζ 53 49 52]
@[simp] def CF:Ω:=[η 2 5]
@[simp] def B6:Ω:=[φ 54 6 1,ρ 55 54,γ 56 .lss 55 1,μ 57 56,Φ 58 6 1 57 false,Ρ 59 58 57 false,τ 60 (.bin .gtr (.t 59) (κ 8)) 57 false,ζ 61 57 60,μ 62 61,Φ 63 8 1 62 false,Ρ 64 63 62 false,τ 65 (.bin .lss (.t 64) (κ 0)) 62 false,ζ 66 62 65,μ 67 66,Φ 68 8 1 67 false,Ρ 69 68 67 false,τ 70 (.bin .gtr (.t 69) (κ 2)) 67 false,ζ 71 67 70,μ 72 71,Φ 73 9 1 72 false,Ρ 74 73 72 false,τ 75 (.bin .lss (.t 74) (κ 0)) 72 false,ζ 76 72 75,μ 77 76,Φ 78 9 1 77 false,Ρ 79 78 77 false,τ 80 (.bin .gtr (.t 79) (κ 1)) 77 false,ζ 81 77 80,μ 82 81,Φ 83 10 1 82 false,Ρ 84 83 82 false,τ 85 (.bin .lss (.t 84) (κ 0)) 82 false,ζ 86 82 85,μ 87 86,Φ 88 10 1 87 false,Ρ 89 88 87 false,τ 90 (.bin .gtr (.t 89) (κ 1)) 87 false,ζ 91 87 90]
@[simp] def zO:Ω:=[η 2 2]
@[simp] def zu:Ω:=[φ 92 0 1,ρ 93 92,φ 94 4 1,ρ 95 94,β 96 .sub 93 95,φ 97 5 1,ρ 98 97,β 99 .sub 96 98,φ 100 6 1,ρ 101 100,γ 102 .sub 101 1,φ 103 7 1,ρ 104 103,β 105 .mul 102 104,β 106 .sub 99 105,φ 107 6 1,ρ 108 107,σ 109 (.bin .mul (κ 10) (.t 108)),β 110 .lss 106 109,μ 111 110,τ 112 (.load 17 true (.t 1)) 111 false,τ 113 (.call 657 [.t 112]) 111 false,τ 114 (.bin .lss (.t 113) (κ 20)) 111 false,ζ 115 111 114]
@[simp] def As:Ω:=[η 2 5]
@[simp] def zX:Ω:=[η 5 0]
def oS:RC:=(.seq (.seq (.region [μ 116 5,γ 117 .lss 116 3] [1,5,117]) (.cond (.t 117) .skip (.exit 2))) (.seq (.block 3 (.seq (.region [μ 120 5,φ 121 11 1,σ 122 (.cA 1 3 (.t 121) (.t 120)),ρ 123 122,ν 124 .str 123,γ 125 .gtr 124 100,μ 126 125,Μ 127 5 126 false,Φ 128 14 1 126 false,τ 129 (.cA 1 3 (.t 128) (.t 127)) 126 false,Ρ 130 129 126 false,τ 131 (.len .str (.t 130)) 126 false,τ 132 (.bin .gtr (.t 131) (κ 100)) 126 false,ζ 133 126 132] [1,5,133]) (.cond (.t 133) (.seq (.region [η 2 3] [2]) .ret) .skip))) (.region [μ 118 5,γ 119 .add 118 1,μ 5 119] [1,5])))
def kP:RC:=.loop [1,5] oS
@[simp] def Af:Ω:=[η 6 0]
def pB:RC:=(.seq (.seq (.region [μ 134 6,γ 135 .lss 134 3] [1,6,135]) (.cond (.t 135) .skip (.exit 4))) (.seq (.block 5 (.seq (.region [μ 138 6,φ 139 11 1,σ 140 (.cA 1 3 (.t 139) (.t 138)),ρ 141 140,σ 142 (.call 658 [.t 141]),σ 143 (.un .not (.t 142)),μ 144 143,Μ 145 6 144 false,Φ 146 14 1 144 false,τ 147 (.cA 1 3 (.t 146) (.t 145)) 144 false,Ρ 148 147 144 false,τ 149 (.call 658 [.t 148]) 144 false,τ 150 (.un .not (.t 149)) 144 false,ζ 151 144 150] [1,6,151]) (.cond (.t 151) (.seq (.region [η 2 4] [2]) .ret) .skip))) (.region [μ 136 6,γ 137 .add 136 1,μ 6 137] [1,6])))
def kO:RC:=.loop [1,6] pB
@[simp] def zm:Ω:=[η 2 0]
def Hl:aj:=⟨[.t 2],(.seq (.region FK [1]) (.seq (.region C5 [1,3]) (.seq (.seq (.region Cq [1,3,4]) (.block 0 p6)) (.seq (.seq (.region Cu [1,53]) (.cond (.t 53) (.seq (.region CF [2]) .ret) .skip)) (.seq (.seq (.region B6 [1,91]) (.cond (.t 91) (.seq (.region zO [2]) .ret) .skip)) (.seq (.seq (.region zu [1,115]) (.cond (.t 115) (.seq (.region As [2]) .ret) .skip)) (.seq (.seq (.region zX [1,5]) (.block 2 kP)) (.seq (.seq (.region Af [1,6]) (.block 4 kO)) (.seq (.region zm [2]) .ret))))))))),true⟩
def tW:aj:=⟨[.t 6],(.seq (.region [σ 3 (.box 17 (.t 0)),η 6 0] [1,2,3]) (.seq (.seq (.region [μ 7 2,μ 8 7,Φ 9 11 3 8 true,τ 10 (.cA 1 3 (.t 9) (κ 0)) 8 true,Ρ 11 10 8 true,τ 12 (.bin .neq (.t 11) (.c (.str []))) 8 true,Μ 13 12 8 true,Φ 14 14 3 13 false,τ 15 (.cA 1 3 (.t 14) (κ 0)) 13 false,Ρ 16 15 13 false,τ 17 (.bin .neq (.t 16) (.c (.str []))) 13 false,τ 18 (.pick (.t 13) (.c (.bool true)) (.t 17)) 8 true,ξ 19 8 18] [1,19]) (.cond (.t 19) (.seq (.region [η 6 0] [6]) .ret) .skip)) (.seq (.seq (.region [μ 20 1,γ 21 .rem 20 2,γ 22 .eql 21 1] [22]) (.cond (.t 22) (.seq (.region [η 6 1] [6]) .ret) .skip)) (.seq (.region [η 6 2] [6]) .ret)))),true⟩
def s6:RC:=(.seq (.seq (.region [μ 14 8,μ 15 0,ν 16 .str 15,β 17 .lss 14 16] [0,5,7,8,17]) (.cond (.t 17) .skip (.exit 0))) (.seq (.block 1 (.seq (.region [μ 20 0,μ 21 8,σ 22 (.index (.t 20) (.t 21)),σ 23 (.bin .eql (.t 22) (.c (.int .u8 (.ofNat 3))))] [0,5,7,8,23]) (.cond (.t 23) (.region [μ 24 7,μ 25 5,β 26 .add 24 25,μ 7 26] [0,5,7,8]) (.region [μ 27 7,μ 28 0,μ 29 8,μ 30 8,γ 31 .add 30 1,σ 32 (.slice true 1 (.t 28) (some (.t 29)) (some (.t 31)) none),β 33 .add 27 32,μ 7 33] [0,5,7,8])))) (.region [μ 18 8,γ 19 .add 18 1,μ 8 19] [0,5,7,8])))
def sw:RC:=.loop [0,5,7,8] s6
def Fi:aj:=⟨[.t 4],(.seq (.region [σ 4 (.mv (.c (.str [])))] [0,1]) (.seq (.region [μ 10 1,σ 11 (.call 370 [.t 10]),μ 9 11,ε 12 9 0,ε 13 9 1,μ 5 12,μ 6 13] [0,5]) (.seq (.region [σ 7 (.mv (.c (.str [])))] [0,5,7]) (.seq (.seq (.region [η 8 0] [0,5,7,8]) (.block 0 sw)) (.seq (.region [μ 34 7,μ 4 34] [4]) .ret))))),true⟩
def Dj:aj:=⟨[.cell 4 4 true],(.seq (.region [σ 2 (.box 17 (.t 0)),σ 4 (.alloc [δ,δ,δ,δ])] [1,2,4]) (.seq (.av [Λ 5 17 2,μ 6 1,σ 7 (.call 659 [.t 5,.t 6]),φ 8 2 2,ρ 9 8,γ 10 .quo 9 2,Λ 11 17 2,σ 12 (.call 660 [.t 11]),φ 13 2 2,ρ 14 13,φ 15 2 2,ρ 16 15,γ 17 .quo 16 2,β 18 .sub 14 17,σ 19 (.build [δ,δ,δ,δ] [(0,1,(.t 7)),(1,1,(.t 10)),(2,1,(.t 12)),(3,1,(.t 18))]),ω 4 4 19] [] [] [4]) .ret)),true⟩
def CE:aj:=⟨[.cell 4 4 true],(.seq (.region [σ 2 (.box 17 (.t 0)),σ 4 (.alloc [δ,δ,δ,δ])] [1,2,4]) (.seq (.av [Λ 5 17 2,μ 6 1,σ 7 (.call 659 [.t 5,.t 6]),φ 8 1 2,ρ 9 8,φ 10 3 2,ρ 11 10,β 12 .sub 9 11,Λ 13 17 2,σ 14 (.call 660 [.t 13]),φ 15 3 2,ρ 16 15,γ 17 .quo 16 2,σ 18 (.build [δ,δ,δ,δ] [(0,1,(.t 7)),(1,1,(.t 12)),(2,1,(.t 14)),(3,1,(.t 17))]),ω 4 4 18] [] [] [4]) .ret)),true⟩
def E8:aj:=⟨[.t 4,.t 5],(.seq (.region [σ 3 (.box 4 (.t 1)),σ 4 (.mv (.c θ)),σ 5 (.mv (.c (.bool false)))] [0,3]) (.seq (.seq (.region [μ 9 0,σ 10 (.bin .eql (.t 9) (.c (.str [])))] [0,3,10]) (.cond (.t 10) (.seq (.region [σ 4 (.mv (.c θ)),σ 5 (.mv (.c (.bool false)))] [4,5]) .ret) .skip)) (.seq (.av [μ 12 0,σ 13 (.call 661 [.t 12]),φ 14 2 3,ρ 15 14,σ 16 (.build [δ,δ] [(1,1,(.t 15))]),σ 17 (.call 311 [.t 13,(.c θ),.t 16]),μ 11 17,ε 18 11 0,ε 19 11 1,μ 6 18,μ 7 19] [] [] [3,6]) (.seq (.region [μ 20 6,ν 21 .slice 20,φ 22 3 3,ρ 23 22,γ 24 .quo 23 10,σ 25 (.min [.t 21,.t 24]),μ 8 25] [6,8]) (.seq (.region [μ 26 6,μ 27 8,σ 28 (.slice false 7 (.t 26) none (some (.t 27)) none),μ 29 8,μ 30 6,ν 31 .slice 30,β 32 .lss 29 31,μ 4 28,μ 5 32] [4,5]) .ret))))),true⟩
def FY:aj:=⟨[.t 2],(.seq (.region [σ 1 (.box 17 (.t 0)),η 2 0] [1]) (.seq (.region [φ 3 1 1,ρ 4 3,φ 5 2 1,ρ 6 5,β 7 .sub 4 6,φ 8 3 1,ρ 9 8,β 10 .sub 7 9,μ 2 10] [2]) .ret)),true⟩
def mY:RC:=(.seq (.seq (.region [μ 4 3,μ 5 0,ν 6 .str 5,β 7 .lss 4 6] [0,3,7]) (.cond (.t 7) .skip (.exit 0))) (.seq (.block 1 (.seq (.region [μ 10 0,μ 11 3,σ 12 (.index (.t 10) (.t 11)),σ 13 (.bin .neq (.t 12) (.c (.int .u8 (.ofNat 3)))),μ 14 13,Μ 15 0 14 true,Μ 16 3 14 true,τ 17 (.index (.t 15) (.t 16)) 14 true,τ 18 (.bin .lss (.t 17) (.c (.int .u8 (.ofNat 32)))) 14 true,Μ 19 18 14 true,Μ 20 0 19 false,Μ 21 3 19 false,τ 22 (.index (.t 20) (.t 21)) 19 false,τ 23 (.bin .gtr (.t 22) (.c (.int .u8 (.ofNat 126)))) 19 false,τ 24 (.pick (.t 19) (.c (.bool true)) (.t 23)) 14 true,ξ 25 14 24] [0,3,25]) (.cond (.t 25) (.seq (.region [σ 2 (.mv (.c (.bool false)))] [2]) .ret) .skip))) (.region [μ 8 3,γ 9 .add 8 1,μ 3 9] [0,3])))
def s8:RC:=.loop [0,3] mY
def CA:aj:=⟨[.t 2],(.seq (.region [σ 2 (.mv (.c (.bool false)))] [0]) (.seq (.seq (.region [η 3 0] [0,3]) (.block 0 s8)) (.seq (.region [σ 2 (.mv (.c (.bool true)))] [2]) .ret))),true⟩
def AP:aj:=⟨[.t 4],(.seq (.region [σ 2 (.box 17 (.t 0)),η 4 0] [1,2]) (.seq (.seq (.region [φ 5 10 2,ρ 6 5,γ 7 .eql 6 1,μ 8 7,Μ 9 1 8 true,τ 10 (.bin .rem (.t 9) (κ 2)) 8 true,τ 11 (.bin .eql (.t 10) (κ 0)) 8 true,ξ 12 8 11] [2,12]) (.cond (.t 12) (.seq (.region [φ 13 5 2,ρ 14 13,μ 4 14] [4]) .ret) .skip)) (.seq (.region [φ 15 4 2,ρ 16 15,μ 4 16] [4]) .ret))),true⟩
def HK:aj:=⟨[.t 2],(.seq (.region [σ 1 (.box 17 (.t 0)),η 2 0] [1]) (.seq (.av [φ 3 6 1,ρ 4 3,Λ 5 17 1,σ 6 (.call 662 [.t 5]),β 7 .mul 4 6,φ 8 6 1,ρ 9 8,γ 10 .sub 9 1,φ 11 7 1,ρ 12 11,β 13 .mul 10 12,β 14 .add 7 13,μ 2 14] [] [] [2]) .ret)),true⟩
def AQ:aj:=⟨[.cell 2 21 true],(.seq (.region [σ 2 (.alloc [(.str []),θ,δ,δ,δ,δ,δ,δ,δ,δ,δ,δ,δ,δ,δ,δ,δ,δ,δ,(.str []),θ])] [0,2]) (.seq (.region [μ 4 0,σ 5 (.build [δ,δ,δ,δ,δ,δ,δ,δ,δ,δ,δ,δ,δ,δ,δ,δ,δ] [(0,1,(κ 8)),(1,1,(κ 10)),(2,1,(κ 3)),(10,1,(κ 1)),(11,1,(κ 1))]),σ 6 (.build [(.str []),θ,δ,δ,δ,δ,δ,δ,δ,δ,δ,δ,δ,δ,δ,δ,δ,δ,δ,(.str []),θ] [(0,1,(.t 4)),(2,17,(.t 5))]),σ 3 (.alloc [(.str []),θ,δ,δ,δ,δ,δ,δ,δ,δ,δ,δ,δ,δ,δ,δ,δ,δ,δ,(.str []),θ]),ω 21 3 6] [0,2,3]) (.seq (.seq (.region [μ 7 0,ν 8 .str 7,γ 9 .gtr 8 0] [0,2,3,9]) (.cond (.t 9) (.region [μ 10 0,ν 11 .str 10,σ 12 (.build [δ,δ,δ,δ] [(0,1,(.t 11))]),σ 13 (.lit 4 true [δ,δ,δ,δ] 1 [(0,(.t 12))]),φ 14 1 3,ω 1 14 13] [2,3]) .skip)) (.seq (.region [Λ 15 21 3,ω 21 2 15] [2]) .ret)))),true⟩
def Gf:aj:=⟨[.t 2],(.seq (.region [σ 1 (.box 17 (.t 0)),η 2 0] [1]) (.seq (.region [φ 3 0 1,ρ 4 3,φ 5 4 1,ρ 6 5,β 7 .sub 4 6,φ 8 5 1,ρ 9 8,β 10 .sub 7 9,φ 11 6 1,ρ 12 11,γ 13 .sub 12 1,φ 14 7 1,ρ 15 14,β 16 .mul 13 15,β 17 .sub 10 16,φ 18 6 1,ρ 19 18,β 20 .quo 17 19,μ 2 20] [2]) .ret)),true⟩
def tree:TT:=(.node 238 (.node 68 (.node 43 (.node 31 (.node 21 (.node 13 (.node 11 (.leaf 10 (.code f10)) (.leaf 11 (.code f11))) (.node 14 (.leaf 13 (.code f13)) (.node 17 (.leaf 14 (.code f14)) (.leaf 17 (.code f17))))) (.node 27 (.node 22 (.leaf 21 (.code f21)) (.node 23 (.leaf 22 (.code f22)) (.leaf 23 (.code f23)))) (.node 29 (.leaf 27 (.code f27)) (.node 30 (.leaf 29 (.code f29)) (.leaf 30 (.code f30)))))) (.node 37 (.node 34 (.node 32 (.leaf 31 (.code f31)) (.node 33 (.leaf 32 (.code f32)) (.leaf 33 (.code f33)))) (.node 35 (.leaf 34 (.code f34)) (.node 36 (.leaf 35 (.code f35)) (.leaf 36 (.code f36))))) (.node 40 (.node 38 (.leaf 37 (.code f37)) (.node 39 (.leaf 38 (.code f38)) (.leaf 39 (.code f39)))) (.node 41 (.leaf 40 (.code f40)) (.node 42 (.leaf 41 (.code f41)) (.leaf 42 (.code f42))))))) (.node 56 (.node 48 (.node 45 (.node 44 (.leaf 43 (.code f43)) (.leaf 44 (.code f44))) (.node 46 (.leaf 45 (.code f45)) (.node 47 (.leaf 46 (.code f46)) (.leaf 47 (.code f47))))) (.node 53 (.node 51 (.leaf 48 (.code f48)) (.node 52 (.leaf 51 (.code f51)) (.leaf 52 (.code f52)))) (.node 54 (.leaf 53 (.code f53)) (.node 55 (.leaf 54 (.code f54)) (.leaf 55 (.code f55)))))) (.node 62 (.node 59 (.node 57 (.leaf 56 (.code f56)) (.node 58 (.leaf 57 (.code f57)) (.leaf 58 (.code f58)))) (.node 60 (.leaf 59 (.code f59)) (.node 61 (.leaf 60 (.code f60)) (.leaf 61 (.code f61))))) (.node 65 (.node 63 (.leaf 62 (.code f62)) (.node 64 (.leaf 63 (.code f63)) (.leaf 64 (.g9 fi)))) (.node 66 (.leaf 65 (.code f65)) (.node 67 (.leaf 66 (.code f66)) (.leaf 67 (.code f67)))))))) (.node 128 (.node 110 (.node 73 (.node 70 (.node 69 (.leaf 68 (.code f68)) (.leaf 69 (.code f69))) (.node 71 (.leaf 70 (.code f70)) (.node 72 (.leaf 71 (.code f71)) (.leaf 72 (.g9 fy))))) (.node 106 (.node 74 (.leaf 73 (.code f73)) (.node 76 (.leaf 74 (.code f74)) (.leaf 76 (.code f76)))) (.node 108 (.leaf 106 (.code f106)) (.node 109 (.leaf 108 (.code f108)) (.leaf 109 (.code f109)))))) (.node 121 (.node 117 (.node 113 (.leaf 110 (.code f110)) (.node 114 (.leaf 113 (.code f113)) (.leaf 114 (.code f114)))) (.node 118 (.leaf 117 (.code f117)) (.node 120 (.leaf 118 (.code f118)) (.leaf 120 (.code f120))))) (.node 124 (.node 122 (.leaf 121 (.code f121)) (.node 123 (.leaf 122 (.code f122)) (.leaf 123 (.code f123)))) (.node 126 (.leaf 124 (.code f124)) (.node 127 (.leaf 126 (.code f126)) (.leaf 127 (.code f127))))))) (.node 139 (.node 133 (.node 130 (.node 129 (.leaf 128 (.code f128)) (.leaf 129 (.code f129))) (.node 131 (.leaf 130 (.code f130)) (.node 132 (.leaf 131 (.code f131)) (.leaf 132 (.code f132))))) (.node 136 (.node 134 (.leaf 133 (.code f133)) (.node 135 (.leaf 134 (.code f134)) (.leaf 135 (.code f135)))) (.node 137 (.leaf 136 (.code f136)) (.node 138 (.leaf 137 (.code f137)) (.leaf 138 (.code f138)))))) (.node 153 (.node 142 (.node 140 (.leaf 139 (.code f139)) (.node 141 (.leaf 140 (.code f140)) (.leaf 141 (.code f141)))) (.node 145 (.leaf 142 (.code f142)) (.node 146 (.leaf 145 (.code f145)) (.leaf 146 (.code f146))))) (.node 162 (.node 154 (.leaf 153 (.code f153)) (.node 155 (.leaf 154 (.code f154)) (.leaf 155 (.code f155)))) (.node 211 (.leaf 162 (.code f162)) (.node 234 (.leaf 211 (.code f211)) (.leaf 234 (.code f234))))))))) (.node 378 (.node 328 (.node 293 (.node 260 (.node 241 (.node 239 (.leaf 238 (.code f238)) (.leaf 239 (.code f239))) (.node 258 (.leaf 241 (.code f241)) (.node 259 (.leaf 258 (.code f258)) (.leaf 259 (.code f259))))) (.node 263 (.node 261 (.leaf 260 (.code f260)) (.node 262 (.leaf 261 (.code f261)) (.leaf 262 (.code f262)))) (.node 264 (.leaf 263 (.code f263)) (.node 274 (.leaf 264 (.code f264)) (.leaf 274 (.code f274)))))) (.node 321 (.node 311 (.node 307 (.leaf 293 (.code f293)) (.node 309 (.leaf 307 (.code f307)) (.leaf 309 (.code HC)))) (.node 319 (.leaf 311 (.code AL)) (.node 320 (.leaf 319 (.code CV)) (.leaf 320 (.code GD))))) (.node 324 (.node 322 (.leaf 321 (.code Fx)) (.node 323 (.leaf 322 (.code Ft)) (.leaf 323 (.code E7)))) (.node 325 (.leaf 324 (.code Hy)) (.node 327 (.leaf 325 (.code Pu)) (.leaf 327 (.code AT))))))) (.node 343 (.node 333 (.node 330 (.node 329 (.leaf 328 (.code yp)) (.leaf 329 (.code GN))) (.node 331 (.leaf 330 (.code GJ)) (.node 332 (.leaf 331 (.code FP)) (.leaf 332 (.code MK))))) (.node 340 (.node 334 (.leaf 333 (.code Bw)) (.node 339 (.leaf 334 (.code Bm)) (.leaf 339 (.code AD)))) (.node 341 (.leaf 340 (.code Bp)) (.node 342 (.leaf 341 (.code Ff)) (.leaf 342 (.code Hg)))))) (.node 352 (.node 346 (.node 344 (.leaf 343 (.code HG)) (.node 345 (.leaf 344 (.code B3)) (.leaf 345 (.code D6)))) (.node 347 (.leaf 346 (.code Fk)) (.node 348 (.leaf 347 (.code yg)) (.leaf 348 (.code Eg))))) (.node 374 (.node 353 (.leaf 352 (.code Bu)) (.node 370 (.leaf 353 (.code wk)) (.leaf 370 (.code Ic)))) (.node 375 (.leaf 374 (.code PI)) (.node 377 (.leaf 375 (.code DN)) (.leaf 377 (.code Nc)))))))) (.node 467 (.node 439 (.node 384 (.node 380 (.node 379 (.leaf 378 (.code Py)) (.leaf 379 (.code Nr))) (.node 381 (.leaf 380 (.code Ri)) (.node 383 (.leaf 381 (.code Mo)) (.leaf 383 (.code NY))))) (.node 416 (.node 414 (.leaf 384 (.code Qo)) (.node 415 (.leaf 414 (.code C0)) (.leaf 415 (.code Rj)))) (.node 417 (.leaf 416 (.code rS)) (.node 438 (.leaf 417 (.code OP)) (.leaf 438 (.code BD)))))) (.node 445 (.node 442 (.node 440 (.leaf 439 (.code D5)) (.node 441 (.leaf 440 (.code qB)) (.leaf 441 (.code Hp)))) (.node 443 (.leaf 442 (.code Ie)) (.node 444 (.leaf 443 (.code DO)) (.leaf 444 (.code PA))))) (.node 464 (.node 446 (.leaf 445 (.code Cw)) (.node 463 (.leaf 446 (.code Bv)) (.leaf 463 (.code DM)))) (.node 465 (.leaf 464 (.code EJ)) (.node 466 (.leaf 465 (.code Fh)) (.leaf 466 (.code xF))))))) (.node 651 (.node 478 (.node 473 (.node 472 (.leaf 467 (.code Ge)) (.leaf 472 (.code Ee))) (.node 474 (.leaf 473 (.code wI)) (.node 475 (.leaf 474 (.code BU)) (.leaf 475 (.code Ii))))) (.node 645 (.node 479 (.leaf 478 (.g9 jd)) (.node 480 (.leaf 479 (.code Gl)) (.leaf 480 (.code AS)))) (.node 647 (.leaf 645 (.code CJ)) (.node 648 (.leaf 647 (.code yb)) (.leaf 648 (.code GC)))))) (.node 657 (.node 654 (.node 652 (.leaf 651 (.code Hl)) (.node 653 (.leaf 652 (.code tW)) (.leaf 653 (.code Fi)))) (.node 655 (.leaf 654 (.code Dj)) (.node 656 (.leaf 655 (.code CE)) (.leaf 656 (.code E8))))) (.node 660 (.node 658 (.leaf 657 (.code FY)) (.node 659 (.leaf 658 (.code CA)) (.leaf 659 (.code AP)))) (.node 661 (.leaf 660 (.code HK)) (.node 662 (.leaf 661 (.code AQ)) (.leaf 662 (.code Gf))))))))))
def fms:List (Nat×FuncId):=[(10,108),(11,133),(13,68),(14,79),(17,166),(21,205),(22,139),(23,165),(27,101),(29,159),(30,160),(31,161),(32,162),(33,182),(34,183),(35,184),(36,185),(37,86),(38,186),(39,187),(40,102),(41,103),(42,104),(43,105),(44,106),(45,128),(46,129),(47,130),(48,131),(51,213),(52,192),(53,138),(54,152),(55,153),(56,204),(57,206),(58,179),(59,226),(60,227),(61,154),(62,155),(63,156),(64,157),(65,158),(66,180),(67,181),(68,199),(69,200),(70,201),(71,225),(72,202),(73,203),(74,233),(75,234),(76,235),(77,236),(106,49),(108,75),(109,122),(110,215),(113,74),(114,52),(117,70),(118,71),(120,168),(121,77),(122,214),(123,78),(124,243),(126,69),(127,123),(128,124),(129,125),(130,126),(131,109),(132,110),(133,111),(645,3),(134,112),(135,113),(647,6),(136,114),(648,7),(137,115),(138,116),(139,256),(651,17),(140,107),(652,18),(141,169),(653,19),(142,170),(654,20),(143,163),(655,21),(144,164),(656,22),(145,270),(657,35),(146,271),(658,36),(659,38),(660,39),(661,41),(662,55),(153,277),(154,278),(155,221),(162,248),(186,137),(188,136),(211,117),(218,127),(234,167),(238,57),(239,141),(241,196),(258,134),(259,81),(260,82),(261,83),(262,84),(263,85),(264,87),(274,135),(293,148),(307,33),(309,23),(311,40),(319,48),(320,50),(321,51),(322,53),(323,56),(324,58),(325,59),(326,60),(327,61),(328,62),(329,63),(330,72),(331,73),(332,76),(333,80),(334,88),(339,93),(340,94),(341,95),(342,96),(343,118),(344,119),(345,120),(346,121),(347,132),(348,140),(352,145),(353,146),(370,37),(374,27),(375,54),(377,45),(378,67),(379,97),(380,98),(381,99),(382,100),(383,147),(384,149),(414,5),(415,24),(416,16),(417,8),(438,31),(439,12),(440,11),(441,13),(442,14),(443,15),(444,42),(445,32),(446,34),(463,26),(464,28),(465,29),(466,25),(467,30),(472,44),(473,43),(474,46),(475,47),(478,66),(479,64),(480,65)]
def env:List (Nat×IntKind×List Nat):=[(4,.u8,kg),(0,.u64,pe)]
end Go.D.Tab
end
section
namespace Go.D.Tab
open Go.Proofs
def ae (n:Nat) (e:Def):Prop:=∀ f,kZ fms env n=some f→eo Tryz.prog (kZ fms env) tree.get e f
theorem nY {n:Nat} {i:FuncId} {e:Def} (hi:kZ fms env n=some i) (h:eo Tryz.prog (kZ fms env) tree.get e i):ae n e:=by
 intro f hf;rw[hi] at hf;cases hf;exact h
theorem aa {n:Nat} {i:FuncId} {F:aj} {fn:Func} (hi:kZ fms env n=some i) (hg:Tryz.prog.funcs[i]? = some fn) (h:Cp Tryz.prog (kZ fms env) (al tree.get) F fn=true):ae n (.code F):=nY hi (Cj hg h)
theorem Un:ae 10 (.code f10):=aa (by kernel_rfl) Tryz.func108 (by kernel_rfl)
theorem Tr:ae 11 (.code f11):=aa (by kernel_rfl) Tryz.func133 (by kernel_rfl)
theorem S6:ae 13 (.code f13):=aa (by kernel_rfl) Tryz.func68 (by kernel_rfl)
theorem SD:ae 14 (.code f14):=aa (by kernel_rfl) Tryz.func79 (by kernel_rfl)
theorem SK:ae 17 (.code f17):=aa (by kernel_rfl) Tryz.func166 (by kernel_rfl)
theorem Ti:ae 21 (.code f21):=aa (by kernel_rfl) Tryz.func205 (by kernel_rfl)
theorem SH:ae 22 (.code f22):=aa (by kernel_rfl) Tryz.func139 (by kernel_rfl)
theorem SU:ae 23 (.code f23):=aa (by kernel_rfl) Tryz.func165 (by kernel_rfl)
theorem Sy:ae 27 (.code f27):=aa (by kernel_rfl) Tryz.func101 (by kernel_rfl)
theorem Tm:ae 29 (.code f29):=aa (by kernel_rfl) Tryz.func159 (by kernel_rfl)
theorem S4:ae 30 (.code f30):=aa (by kernel_rfl) Tryz.func160 (by kernel_rfl)
theorem Sz:ae 31 (.code f31):=aa (by kernel_rfl) Tryz.func161 (by kernel_rfl)
theorem Tc:ae 32 (.code f32):=aa (by kernel_rfl) Tryz.func162 (by kernel_rfl)
theorem Up:ae 33 (.code f33):=aa (by kernel_rfl) Tryz.func182 (by kernel_rfl)
theorem Se:ae 34 (.code f34):=aa (by kernel_rfl) Tryz.func183 (by kernel_rfl)
theorem Tb:ae 35 (.code f35):=aa (by kernel_rfl) Tryz.func184 (by kernel_rfl)
theorem Tj:ae 36 (.code f36):=aa (by kernel_rfl) Tryz.func185 (by kernel_rfl)
theorem TL:ae 37 (.code f37):=aa (by kernel_rfl) Tryz.func86 (by kernel_rfl)
theorem S7:ae 38 (.code f38):=aa (by kernel_rfl) Tryz.func186 (by kernel_rfl)
theorem TE:ae 39 (.code f39):=aa (by kernel_rfl) Tryz.func187 (by kernel_rfl)
theorem Sc:ae 40 (.code f40):=aa (by kernel_rfl) Tryz.func102 (by kernel_rfl)
theorem Sq:ae 41 (.code f41):=aa (by kernel_rfl) Tryz.func103 (by kernel_rfl)
theorem Tg:ae 42 (.code f42):=aa (by kernel_rfl) Tryz.func104 (by kernel_rfl)
theorem TI:ae 43 (.code f43):=aa (by kernel_rfl) Tryz.func105 (by kernel_rfl)
theorem Ud:ae 44 (.code f44):=aa (by kernel_rfl) Tryz.func106 (by kernel_rfl)
theorem T9:ae 45 (.code f45):=aa (by kernel_rfl) Tryz.func128 (by kernel_rfl)
theorem Sv:ae 46 (.code f46):=aa (by kernel_rfl) Tryz.func129 (by kernel_rfl)
theorem TP:ae 47 (.code f47):=aa (by kernel_rfl) Tryz.func130 (by kernel_rfl)
theorem Sa:ae 48 (.code f48):=aa (by kernel_rfl) Tryz.func131 (by kernel_rfl)
theorem Sb:ae 51 (.code f51):=aa (by kernel_rfl) Tryz.func213 (by kernel_rfl)
theorem SW:ae 52 (.code f52):=aa (by kernel_rfl) Tryz.func192 (by kernel_rfl)
theorem T0:ae 53 (.code f53):=aa (by kernel_rfl) Tryz.func138 (by kernel_rfl)
theorem Sk:ae 54 (.code f54):=aa (by kernel_rfl) Tryz.func152 (by kernel_rfl)
theorem Ty:ae 55 (.code f55):=aa (by kernel_rfl) Tryz.func153 (by kernel_rfl)
theorem Te:ae 56 (.code f56):=aa (by kernel_rfl) Tryz.func204 (by kernel_rfl)
theorem SE:ae 57 (.code f57):=aa (by kernel_rfl) Tryz.func206 (by kernel_rfl)
theorem Tf:ae 58 (.code f58):=aa (by kernel_rfl) Tryz.func179 (by kernel_rfl)
theorem TQ:ae 59 (.code f59):=aa (by kernel_rfl) Tryz.func226 (by kernel_rfl)
theorem To:ae 60 (.code f60):=aa (by kernel_rfl) Tryz.func227 (by kernel_rfl)
theorem Sj:ae 61 (.code f61):=aa (by kernel_rfl) Tryz.func154 (by kernel_rfl)
theorem T4:ae 62 (.code f62):=aa (by kernel_rfl) Tryz.func155 (by kernel_rfl)
theorem S5:ae 63 (.code f63):=aa (by kernel_rfl) Tryz.func156 (by kernel_rfl)
theorem Sn:ae 65 (.code f65):=aa (by kernel_rfl) Tryz.func158 (by kernel_rfl)
theorem TN:ae 66 (.code f66):=aa (by kernel_rfl) Tryz.func180 (by kernel_rfl)
theorem Ss:ae 67 (.code f67):=aa (by kernel_rfl) Tryz.func181 (by kernel_rfl)
theorem Sx:ae 68 (.code f68):=aa (by kernel_rfl) Tryz.func199 (by kernel_rfl)
theorem SY:ae 69 (.code f69):=aa (by kernel_rfl) Tryz.func200 (by kernel_rfl)
theorem TX:ae 70 (.code f70):=aa (by kernel_rfl) Tryz.func201 (by kernel_rfl)
theorem SQ:ae 71 (.code f71):=aa (by kernel_rfl) Tryz.func225 (by kernel_rfl)
theorem Ts:ae 73 (.code f73):=aa (by kernel_rfl) Tryz.func203 (by kernel_rfl)
theorem Tp:ae 74 (.code f74):=aa (by kernel_rfl) Tryz.func233 (by kernel_rfl)
theorem Uf:ae 76 (.code f76):=aa (by kernel_rfl) Tryz.func235 (by kernel_rfl)
theorem My:ae 106 (.code f106):=aa (by kernel_rfl) Tryz.func49 (by kernel_rfl)
theorem Oi:ae 108 (.code f108):=aa (by kernel_rfl) Tryz.func75 (by kernel_rfl)
theorem OY:ae 109 (.code f109):=aa (by kernel_rfl) Tryz.func122 (by kernel_rfl)
theorem Ng:ae 110 (.code f110):=aa (by kernel_rfl) Tryz.func215 (by kernel_rfl)
theorem P7:ae 113 (.code f113):=aa (by kernel_rfl) Tryz.func74 (by kernel_rfl)
theorem Mw:ae 114 (.code f114):=aa (by kernel_rfl) Tryz.func52 (by kernel_rfl)
theorem OO:ae 117 (.code f117):=aa (by kernel_rfl) Tryz.func70 (by kernel_rfl)
theorem PQ:ae 118 (.code f118):=aa (by kernel_rfl) Tryz.func71 (by kernel_rfl)
theorem Ps:ae 120 (.code f120):=aa (by kernel_rfl) Tryz.func168 (by kernel_rfl)
theorem OZ:ae 121 (.code f121):=aa (by kernel_rfl) Tryz.func77 (by kernel_rfl)
theorem Ms:ae 122 (.code f122):=aa (by kernel_rfl) Tryz.func214 (by kernel_rfl)
theorem Nv:ae 123 (.code f123):=aa (by kernel_rfl) Tryz.func78 (by kernel_rfl)
theorem QQ:ae 124 (.code f124):=aa (by kernel_rfl) Tryz.func243 (by kernel_rfl)
theorem MJ:ae 126 (.code f126):=aa (by kernel_rfl) Tryz.func69 (by kernel_rfl)
theorem Q8:ae 127 (.code f127):=aa (by kernel_rfl) Tryz.func123 (by kernel_rfl)
theorem Qu:ae 128 (.code f128):=aa (by kernel_rfl) Tryz.func124 (by kernel_rfl)
theorem Mv:ae 129 (.code f129):=aa (by kernel_rfl) Tryz.func125 (by kernel_rfl)
theorem Rq:ae 130 (.code f130):=aa (by kernel_rfl) Tryz.func126 (by kernel_rfl)
theorem QP:ae 131 (.code f131):=aa (by kernel_rfl) Tryz.func109 (by kernel_rfl)
theorem Rm:ae 132 (.code f132):=aa (by kernel_rfl) Tryz.func110 (by kernel_rfl)
theorem Og:ae 133 (.code f133):=aa (by kernel_rfl) Tryz.func111 (by kernel_rfl)
theorem QU:ae 134 (.code f134):=aa (by kernel_rfl) Tryz.func112 (by kernel_rfl)
theorem Pf:ae 135 (.code f135):=aa (by kernel_rfl) Tryz.func113 (by kernel_rfl)
theorem On:ae 136 (.code f136):=aa (by kernel_rfl) Tryz.func114 (by kernel_rfl)
theorem Qw:ae 137 (.code f137):=aa (by kernel_rfl) Tryz.func115 (by kernel_rfl)
theorem OD:ae 138 (.code f138):=aa (by kernel_rfl) Tryz.func116 (by kernel_rfl)
theorem Pz:ae 139 (.code f139):=aa (by kernel_rfl) Tryz.func256 (by kernel_rfl)
theorem N1:ae 140 (.code f140):=aa (by kernel_rfl) Tryz.func107 (by kernel_rfl)
theorem Rh:ae 141 (.code f141):=aa (by kernel_rfl) Tryz.func169 (by kernel_rfl)
theorem OB:ae 142 (.code f142):=aa (by kernel_rfl) Tryz.func170 (by kernel_rfl)
theorem O0:ae 145 (.code f145):=aa (by kernel_rfl) Tryz.func270 (by kernel_rfl)
theorem MS:ae 146 (.code f146):=aa (by kernel_rfl) Tryz.func271 (by kernel_rfl)
theorem M0:ae 153 (.code f153):=aa (by kernel_rfl) Tryz.func277 (by kernel_rfl)
theorem PW:ae 154 (.code f154):=aa (by kernel_rfl) Tryz.func278 (by kernel_rfl)
theorem Rb:ae 155 (.code f155):=aa (by kernel_rfl) Tryz.func221 (by kernel_rfl)
theorem QO:ae 162 (.code f162):=aa (by kernel_rfl) Tryz.func248 (by kernel_rfl)
theorem OS:ae 211 (.code f211):=aa (by kernel_rfl) Tryz.func117 (by kernel_rfl)
theorem PJ:ae 234 (.code f234):=aa (by kernel_rfl) Tryz.func167 (by kernel_rfl)
theorem NW:ae 238 (.code f238):=aa (by kernel_rfl) Tryz.func57 (by kernel_rfl)
theorem PY:ae 239 (.code f239):=aa (by kernel_rfl) Tryz.func141 (by kernel_rfl)
theorem PV:ae 241 (.code f241):=aa (by kernel_rfl) Tryz.func196 (by kernel_rfl)
theorem QR:ae 258 (.code f258):=aa (by kernel_rfl) Tryz.func134 (by kernel_rfl)
theorem QX:ae 259 (.code f259):=aa (by kernel_rfl) Tryz.func81 (by kernel_rfl)
theorem MT:ae 260 (.code f260):=aa (by kernel_rfl) Tryz.func82 (by kernel_rfl)
theorem Ma:ae 261 (.code f261):=aa (by kernel_rfl) Tryz.func83 (by kernel_rfl)
theorem Ol:ae 262 (.code f262):=aa (by kernel_rfl) Tryz.func84 (by kernel_rfl)
theorem PZ:ae 263 (.code f263):=aa (by kernel_rfl) Tryz.func85 (by kernel_rfl)
theorem Nm:ae 264 (.code f264):=aa (by kernel_rfl) Tryz.func87 (by kernel_rfl)
theorem Oy:ae 274 (.code f274):=aa (by kernel_rfl) Tryz.func135 (by kernel_rfl)
theorem O8:ae 293 (.code f293):=aa (by kernel_rfl) Tryz.func148 (by kernel_rfl)
theorem Rd:ae 307 (.code f307):=aa (by kernel_rfl) Tryz.func33 (by kernel_rfl)
theorem Ru:ae 309 (.code HC):=aa (by kernel_rfl) Tryz.func23 (by kernel_rfl)
theorem NJ:ae 311 (.code AL):=aa (by kernel_rfl) Tryz.func40 (by kernel_rfl)
theorem P9:ae 319 (.code CV):=aa (by kernel_rfl) Tryz.func48 (by kernel_rfl)
theorem Rz:ae 320 (.code GD):=aa (by kernel_rfl) Tryz.func50 (by kernel_rfl)
theorem Mk:ae 321 (.code Fx):=aa (by kernel_rfl) Tryz.func51 (by kernel_rfl)
theorem Oe:ae 322 (.code Ft):=aa (by kernel_rfl) Tryz.func53 (by kernel_rfl)
theorem Pg:ae 323 (.code E7):=aa (by kernel_rfl) Tryz.func56 (by kernel_rfl)
theorem QG:ae 324 (.code Hy):=aa (by kernel_rfl) Tryz.func58 (by kernel_rfl)
theorem No:ae 325 (.code Pu):=aa (by kernel_rfl) Tryz.func59 (by kernel_rfl)
theorem M1:ae 327 (.code AT):=aa (by kernel_rfl) Tryz.func61 (by kernel_rfl)
theorem P6:ae 328 (.code yp):=aa (by kernel_rfl) Tryz.func62 (by kernel_rfl)
theorem PR:ae 329 (.code GN):=aa (by kernel_rfl) Tryz.func63 (by kernel_rfl)
theorem Pt:ae 330 (.code GJ):=aa (by kernel_rfl) Tryz.func72 (by kernel_rfl)
theorem Nl:ae 331 (.code FP):=aa (by kernel_rfl) Tryz.func73 (by kernel_rfl)
theorem QJ:ae 332 (.code MK):=aa (by kernel_rfl) Tryz.func76 (by kernel_rfl)
theorem QE:ae 333 (.code Bw):=aa (by kernel_rfl) Tryz.func80 (by kernel_rfl)
theorem MM:ae 334 (.code Bm):=aa (by kernel_rfl) Tryz.func88 (by kernel_rfl)
theorem Rf:ae 339 (.code AD):=aa (by kernel_rfl) Tryz.func93 (by kernel_rfl)
theorem Q4:ae 340 (.code Bp):=aa (by kernel_rfl) Tryz.func94 (by kernel_rfl)
theorem OA:ae 341 (.code Ff):=aa (by kernel_rfl) Tryz.func95 (by kernel_rfl)
theorem NT:ae 342 (.code Hg):=aa (by kernel_rfl) Tryz.func96 (by kernel_rfl)
theorem Qp:ae 343 (.code HG):=aa (by kernel_rfl) Tryz.func118 (by kernel_rfl)
theorem MQ:ae 344 (.code B3):=aa (by kernel_rfl) Tryz.func119 (by kernel_rfl)
theorem Ob:ae 345 (.code D6):=aa (by kernel_rfl) Tryz.func120 (by kernel_rfl)
theorem M9:ae 346 (.code Fk):=aa (by kernel_rfl) Tryz.func121 (by kernel_rfl)
theorem Mn:ae 347 (.code yg):=aa (by kernel_rfl) Tryz.func132 (by kernel_rfl)
theorem QV:ae 348 (.code Eg):=aa (by kernel_rfl) Tryz.func140 (by kernel_rfl)
theorem N2:ae 352 (.code Bu):=aa (by kernel_rfl) Tryz.func145 (by kernel_rfl)
theorem NF:ae 353 (.code wk):=aa (by kernel_rfl) Tryz.func146 (by kernel_rfl)
theorem Oh:ae 370 (.code Ic):=aa (by kernel_rfl) Tryz.func37 (by kernel_rfl)
theorem Ow:ae 374 (.code PI):=aa (by kernel_rfl) Tryz.func27 (by kernel_rfl)
theorem Ot:ae 375 (.code DN):=aa (by kernel_rfl) Tryz.func54 (by kernel_rfl)
theorem Np:ae 377 (.code Nc):=aa (by kernel_rfl) Tryz.func45 (by kernel_rfl)
theorem MC:ae 378 (.code Py):=aa (by kernel_rfl) Tryz.func67 (by kernel_rfl)
theorem ON:ae 379 (.code Nr):=aa (by kernel_rfl) Tryz.func97 (by kernel_rfl)
theorem Q7:ae 380 (.code Ri):=aa (by kernel_rfl) Tryz.func98 (by kernel_rfl)
theorem N3:ae 381 (.code Mo):=aa (by kernel_rfl) Tryz.func99 (by kernel_rfl)
theorem Oc:ae 383 (.code NY):=aa (by kernel_rfl) Tryz.func147 (by kernel_rfl)
theorem Nf:ae 384 (.code Qo):=aa (by kernel_rfl) Tryz.func149 (by kernel_rfl)
theorem Qy:ae 414 (.code C0):=aa (by kernel_rfl) Tryz.func5 (by kernel_rfl)
theorem Nk:ae 415 (.code Rj):=aa (by kernel_rfl) Tryz.func24 (by kernel_rfl)
theorem Ni:ae 416 (.code rS):=aa (by kernel_rfl) Tryz.func16 (by kernel_rfl)
theorem NG:ae 417 (.code OP):=aa (by kernel_rfl) Tryz.func8 (by kernel_rfl)
theorem Mj:ae 438 (.code BD):=aa (by kernel_rfl) Tryz.func31 (by kernel_rfl)
theorem O1:ae 439 (.code D5):=aa (by kernel_rfl) Tryz.func12 (by kernel_rfl)
theorem O4:ae 440 (.code qB):=aa (by kernel_rfl) Tryz.func11 (by kernel_rfl)
theorem M7:ae 441 (.code Hp):=aa (by kernel_rfl) Tryz.func13 (by kernel_rfl)
theorem Qq:ae 442 (.code Ie):=aa (by kernel_rfl) Tryz.func14 (by kernel_rfl)
theorem PF:ae 443 (.code DO):=aa (by kernel_rfl) Tryz.func15 (by kernel_rfl)
theorem Pr:ae 444 (.code PA):=aa (by kernel_rfl) Tryz.func42 (by kernel_rfl)
theorem QC:ae 445 (.code Cw):=aa (by kernel_rfl) Tryz.func32 (by kernel_rfl)
theorem Ou:ae 446 (.code Bv):=aa (by kernel_rfl) Tryz.func34 (by kernel_rfl)
theorem PT:ae 463 (.code DM):=aa (by kernel_rfl) Tryz.func26 (by kernel_rfl)
theorem MU:ae 464 (.code EJ):=aa (by kernel_rfl) Tryz.func28 (by kernel_rfl)
theorem P2:ae 465 (.code Fh):=aa (by kernel_rfl) Tryz.func29 (by kernel_rfl)
theorem Qn:ae 466 (.code xF):=aa (by kernel_rfl) Tryz.func25 (by kernel_rfl)
theorem NP:ae 467 (.code Ge):=aa (by kernel_rfl) Tryz.func30 (by kernel_rfl)
theorem Rs:ae 472 (.code Ee):=aa (by kernel_rfl) Tryz.func44 (by kernel_rfl)
theorem Nq:ae 473 (.code wI):=aa (by kernel_rfl) Tryz.func43 (by kernel_rfl)
theorem Na:ae 474 (.code BU):=aa (by kernel_rfl) Tryz.func46 (by kernel_rfl)
theorem MP:ae 475 (.code Ii):=aa (by kernel_rfl) Tryz.func47 (by kernel_rfl)
theorem PO:ae 479 (.code Gl):=aa (by kernel_rfl) Tryz.func64 (by kernel_rfl)
theorem MW:ae 480 (.code AS):=aa (by kernel_rfl) Tryz.func65 (by kernel_rfl)
theorem Re:ae 645 (.code CJ):=aa (by kernel_rfl) Tryz.func3 (by kernel_rfl)
theorem PM:ae 647 (.code yb):=aa (by kernel_rfl) Tryz.func6 (by kernel_rfl)
theorem PS:ae 648 (.code GC):=aa (by kernel_rfl) Tryz.func7 (by kernel_rfl)
theorem OM:ae 651 (.code Hl):=aa (by kernel_rfl) Tryz.func17 (by kernel_rfl)
theorem Nw:ae 652 (.code tW):=aa (by kernel_rfl) Tryz.func18 (by kernel_rfl)
theorem Ph:ae 653 (.code Fi):=aa (by kernel_rfl) Tryz.func19 (by kernel_rfl)
theorem NK:ae 654 (.code Dj):=aa (by kernel_rfl) Tryz.func20 (by kernel_rfl)
theorem Qs:ae 655 (.code CE):=aa (by kernel_rfl) Tryz.func21 (by kernel_rfl)
theorem Rk:ae 656 (.code E8):=aa (by kernel_rfl) Tryz.func22 (by kernel_rfl)
theorem RB:ae 657 (.code FY):=aa (by kernel_rfl) Tryz.func35 (by kernel_rfl)
theorem Mg:ae 658 (.code CA):=aa (by kernel_rfl) Tryz.func36 (by kernel_rfl)
theorem MG:ae 659 (.code AP):=aa (by kernel_rfl) Tryz.func38 (by kernel_rfl)
theorem Pl:ae 660 (.code HK):=aa (by kernel_rfl) Tryz.func39 (by kernel_rfl)
theorem Pn:ae 661 (.code AQ):=aa (by kernel_rfl) Tryz.func41 (by kernel_rfl)
theorem Ny:ae 662 (.code Gf):=aa (by kernel_rfl) Tryz.func55 (by kernel_rfl)
theorem OK:ae 478 (.g9 jd):=nY (i:=66) (by kernel_rfl) (qu Tryz.func66 (by kernel_rfl) (by kernel_rfl) (by kernel_rfl) (by kernel_rfl))
theorem Uj:ae 72 (.g9 fy):=nY (i:=202) (by kernel_rfl) (oN Tryz.func202 (by kernel_rfl) (by kernel_rfl) (by kernel_rfl) (by kernel_rfl))
theorem T3:ae 64 (.g9 fi):=nY (i:=157) (by kernel_rfl) (pI Tryz.func157 (by kernel_rfl) (by kernel_rfl) (by kernel_rfl) (by kernel_rfl))
theorem QW:dn Tryz.prog (kZ fms env) tree.get:=tZ (t:=tree) ⟨⟨⟨⟨⟨⟨⟨Un,Tr⟩,⟨S6,⟨SD,SK⟩⟩⟩,⟨⟨Ti,⟨SH,SU⟩⟩,⟨Sy,⟨Tm,S4⟩⟩⟩⟩,⟨⟨⟨Sz,⟨Tc,Up⟩⟩,⟨Se,⟨Tb,Tj⟩⟩⟩,⟨⟨TL,⟨S7,TE⟩⟩,⟨Sc,⟨Sq,Tg⟩⟩⟩⟩⟩,⟨⟨⟨⟨TI,Ud⟩,⟨T9,⟨Sv,TP⟩⟩⟩,⟨⟨Sa,⟨Sb,SW⟩⟩,⟨T0,⟨Sk,Ty⟩⟩⟩⟩,⟨⟨⟨Te,⟨SE,Tf⟩⟩,⟨TQ,⟨To,Sj⟩⟩⟩,⟨⟨T4,⟨S5,T3⟩⟩,⟨Sn,⟨TN,Ss⟩⟩⟩⟩⟩⟩,⟨⟨⟨⟨⟨Sx,SY⟩,⟨TX,⟨SQ,Uj⟩⟩⟩,⟨⟨Ts,⟨Tp,Uf⟩⟩,⟨My,⟨Oi,OY⟩⟩⟩⟩,⟨⟨⟨Ng,⟨P7,Mw⟩⟩,⟨OO,⟨PQ,Ps⟩⟩⟩,⟨⟨OZ,⟨Ms,Nv⟩⟩,⟨QQ,⟨MJ,Q8⟩⟩⟩⟩⟩,⟨⟨⟨⟨Qu,Mv⟩,⟨Rq,⟨QP,Rm⟩⟩⟩,⟨⟨Og,⟨QU,Pf⟩⟩,⟨On,⟨Qw,OD⟩⟩⟩⟩,⟨⟨⟨Pz,⟨N1,Rh⟩⟩,⟨OB,⟨O0,MS⟩⟩⟩,⟨⟨M0,⟨PW,Rb⟩⟩,⟨QO,⟨OS,PJ⟩⟩⟩⟩⟩⟩⟩,⟨⟨⟨⟨⟨⟨NW,PY⟩,⟨PV,⟨QR,QX⟩⟩⟩,⟨⟨MT,⟨Ma,Ol⟩⟩,⟨PZ,⟨Nm,Oy⟩⟩⟩⟩,⟨⟨⟨O8,⟨Rd,Ru⟩⟩,⟨NJ,⟨P9,Rz⟩⟩⟩,⟨⟨Mk,⟨Oe,Pg⟩⟩,⟨QG,⟨No,M1⟩⟩⟩⟩⟩,⟨⟨⟨⟨P6,PR⟩,⟨Pt,⟨Nl,QJ⟩⟩⟩,⟨⟨QE,⟨MM,Rf⟩⟩,⟨Q4,⟨OA,NT⟩⟩⟩⟩,⟨⟨⟨Qp,⟨MQ,Ob⟩⟩,⟨M9,⟨Mn,QV⟩⟩⟩,⟨⟨N2,⟨NF,Oh⟩⟩,⟨Ow,⟨Ot,Np⟩⟩⟩⟩⟩⟩,⟨⟨⟨⟨⟨MC,ON⟩,⟨Q7,⟨N3,Oc⟩⟩⟩,⟨⟨Nf,⟨Qy,Nk⟩⟩,⟨Ni,⟨NG,Mj⟩⟩⟩⟩,⟨⟨⟨O1,⟨O4,M7⟩⟩,⟨Qq,⟨PF,Pr⟩⟩⟩,⟨⟨QC,⟨Ou,PT⟩⟩,⟨MU,⟨P2,Qn⟩⟩⟩⟩⟩,⟨⟨⟨⟨NP,Rs⟩,⟨Nq,⟨Na,MP⟩⟩⟩,⟨⟨OK,⟨PO,MW⟩⟩,⟨Re,⟨PM,PS⟩⟩⟩⟩,⟨⟨⟨OM,⟨Nw,Ph⟩⟩,⟨NK,⟨Qs,Rk⟩⟩⟩,⟨⟨RB,⟨Mg,MG⟩⟩,⟨Pl,⟨Pn,Ny⟩⟩⟩⟩⟩⟩⟩⟩
end Go.D.Tab
end
section
namespace Go.D
structure Rec where
 C:RC→Fr→St→Option (Ex×Fr×St)
 O:List ak→Fr→St→Option (Fr×St)
 S:List ak→Fr→St→List St→Option (Fr×List St)
 N:ak→Fr→St→Option (DV×St)
 A:Fr→List ak→List St→List (Nat×List Nat)→Bool
 K:Fr→ak→List St→List Nat→Bool
 F:Nat→List DV→St→Option (DV×St)
 V:DV→List DV→St→Option (DV×St)
def cT (T:Tab) (R:Rec):RC→Fr→St→Option (Ex×Fr×St)
 | c,fr,st=>
   match c with
   | .skip=>some (.normal,fr,st)
   | .region ops live=>match R.O ops fr st with | some (fr',st')=>some (.normal,fr'.bG live,st') | none=>none
   | .av ops hs chk live=>
     match gI fr hs st ops with
     | some (st1,ops2)=>
       match R.S ops2 fr st1 [st1] with
       | some (fr',sts)=>if R.A fr' ops2 sts.reverse chk then (match sts with | st'::_=>some (.normal,fr'.bG live,st') | []=>none) else none
       | none=>none
     | none=>none
   | .seq a b=>
     match R.C a fr st with
     | some (.normal,fr',st')=>R.C b fr' st'
     | r=>r
   | .cond x a b=>match x.ev fr with | .bool true=>R.C a fr st | .bool false=>R.C b fr st | _=>none
   | .block id a=>
     match R.C a fr st with
     | some (.exit id',fr',st')=>if id'=id then some (.normal,fr',st') else some (.exit id',fr',st')
     | r=>r
   | .loop live a=>
     match R.C a (fr.bG live) st with
     | some (.normal,fr',st')=>R.C (.loop live a) fr' st'
     | r=>r
   | .exit id=>some (.exit id,fr,st)
   | .ret=>some (.ret,fr,st)
   | .stuck=>none
   | .gK f params assign body live=>
     let l:=st.heap.length
     let fr0:=fr.bG live
     match f.ev fr0 with
     | .fn g first captured=>
       if ez T g then
        match R.F g (first++[.yield l]++captured) (st.push (.loop ⟨fr0,params,assign,body,0,none⟩)) with
        | some (_,st')=>
          match st'.heap[l]? with
          | some (.loop lo)=>
            if lo.state=1 then none else
            match lo.pending with
            | none=>some (.normal,fr0,{ st' with heap:=st'.heap.set l (.loop { lo with state:=3 }) })
            | some e=>some (e,fr0,{ st' with heap:=st'.heap.set l (.loop { lo with state:=3 }) })
          | _=>none
        | none=>none
       else none
     | _=>none
def jh (_T:Tab) (R:Rec):List ak→Fr→St→Option (Fr×St)
 | [],fr,st=>some (fr,st)
 | o::r,fr,st=>
   match R.N o fr st with
   | some (v,st')=>R.O r (fr.put o.dst v) st'
   | none=>none
def fK (T:Tab) (R:Rec):List ak→Fr→St→List St→Option (Fr×List St)
 | [],fr,_,sts=>some (fr,sts)
 | o::r,fr,st,sts=>
   match R.N o fr st with
   | some (v,st')=>if aH (al T) o.op then R.S r (fr.put o.dst v) st' (st'::sts) else R.S r (fr.put o.dst v) st sts
   | none=>none
def dX (T:Tab) (R:Rec):ak→Fr→St→Option (DV×St)
 | o,fr,st=>
   match eb fr o.guard with
   | none=>none
   | some false=>some (.tuple [],st)
   | some true=>
     match o.op with
     | .call g args=>R.F g (args.map (X.ev fr)) st
     | .bz f args=>R.V (f.ev fr) (args.map (X.ev fr)) st
     | .dp f args=>
       match f.ev fr with
       | .fn g first captured=>if al T g then R.F g (first++args.map (X.ev fr)++captured) st else none
       | _=>none
     | op=>an st fr op
def ju (_T:Tab) (R:Rec):Fr→List ak→List St→List (Nat×List Nat)→Bool
 | _,_,_,[]=>true
 | fr,ops,sts,(i,vs)::r=>
   (match ops[i]? with
    | some o=>R.K fr o sts vs
    | none=>false)&&R.A fr ops sts r
def ji (_T:Tab) (R:Rec):Fr→ak→List St→List Nat→Bool
 | _,_,_,[]=>true
 | fr,o,sts,j::r=>
   (match sts[j]? with
    | some st=>(match R.N o fr st,o.dst with | some (v,_),some d=>DV.beq v (fr.get d) | _,_=>false)
    | none=>false)&&R.K fr o sts r
def dA (T:Tab) (R:Rec):Nat→List DV→St→Option (DV×St)
 | g,args,st=>
   match T g with
   | none=>none
   | some (.g9 p)=>p args st
   | some (.dy p)=>(p args).map fun v=>(v,st)
   | some (.code f)=>
     if f.dh then
      match R.C f.body (bq args 0) st.enter with
      | some (.exit _,_,_)=>none
      | some (_,fr,st')=>
        match eO st' fr f.results with
        | some v=>(bB st st' v).map fun v'=>(v',st)
        | none=>none
      | none=>none
     else
      match R.C f.body (bq args 0) st with
      | some (.exit _,_,_)=>none
      | some (_,fr,st')=>(eO st' fr f.results).map fun v=>(v,st')
      | none=>none
def jm (_T:Tab) (R:Rec):DV→List DV→St→Option (DV×St)
 | f,args,st=>
   match f with
   | .fn g first captured=>R.F g (first++args++captured) st
   | .yield l=>
     match st.heap[l]? with
     | some (.loop lo)=>
       if st.base≤l∧args.length=lo.params.length then
        match R.C lo.assign (c6 lo.fr lo.params args) st with
        | some (.normal,fr1,st1)=>
          match st1.heap[l]? with
          | some (.loop lo1)=>
            if lo1.state=0 then
             match R.C lo.body fr1 { st1 with heap:=st1.heap.set l (.loop { lo1 with state:=1 }) } with
             | some (e,_,st2)=>
               match st2.heap[l]? with
               | some (.loop lo2)=>
                 match e with
                 | .normal=>some (.bool true,{ st2 with heap:=st2.heap.set l (.loop { lo2 with state:=0,pending:=none }) })
                 | e=>some (.bool false,{ st2 with heap:=st2.heap.set l (.loop { lo2 with state:=2,pending:=some e }) })
               | _=>none
             | none=>none
            else none
          | _=>none
        | _=>none
       else none
     | _=>none
   | _=>none
def vp:Rec:=⟨fun _ _ _=>none,fun _ _ _=>none,fun _ _ _ _=>none,fun _ _ _=>none,fun _ _ _ _=>false,fun _ _ _ _=>false,fun _ _ _=>none,fun _ _ _=>none⟩
def dO (T:Tab) (R:Rec):Rec:=⟨cT T R,jh T R,fK T R,dX T R,ju T R,ji T R,dA T R,jm T R⟩
def dq (T:Tab):Nat→Rec
 | 0=>vp
 | n+1=>dO T (dq T n)
def qV (T:Tab) (n:Nat):Rec:=⟨dL T n,gO T n,dJ T n,cH T n,iG T n,iA T n,eB T n,jX T n⟩
theorem Cg (T:Tab):qV T 0=vp:=by
 unfold qV vp;rw[Rec.mk.injEq];refine⟨?_,?_,?_,?_,?_,?_,?_,?_⟩
 · funext c fr st;cases c<;>simp[dL]
 · funext a b c;simp[gO]
 · funext a b c d;simp[dJ]
 · funext a b c;simp[cH]
 · funext a b c d;simp[iG]
 · funext a b c d;simp[iA]
 · funext a b c;simp[eB]
 · funext a b c;simp[jX]
theorem Eb (T:Tab) (n:Nat):qV T (n+1)=dO T (qV T n):=by
 unfold qV dO;rw[Rec.mk.injEq];refine⟨?_,?_,?_,?_,?_,?_,?_,?_⟩
 · funext c fr st;cases c<;>first | rfl | (simp only[dL,cT];done) | (simp only[dL,cT];rfl)
 · funext a b c;cases a<;>first | rfl | (simp only[gO,jh];done) | (simp only[gO,jh];rfl)
 · funext a b c d;cases a<;>first | rfl | (simp only[dJ,fK];done) | (simp only[dJ,fK];rfl)
 · funext a b c;first | rfl | (simp only[cH,dX];done) | (simp only[cH,dX];rfl)
 · funext a b c d;cases d<;>first | rfl | (simp only[iG,ju];done) | (simp only[iG,ju];rfl)
 · funext a b c d;cases d<;>first | rfl | (simp only[iA,ji];done) | (simp only[iA,ji];rfl)
 · funext a b c;first | rfl | (simp only[eB,dA];done) | (simp only[eB,dA];rfl)
 · funext a b c;first | rfl | (simp only[jX,jm];done) | (simp only[jX,jm];rfl)
theorem nX (T:Tab):∀ n,dq T n=qV T n
 | 0=>(Cg T).symm
 | n+1=>by rw[Eb,← nX T n];rfl
theorem pE {T:Tab} {n g:Nat} {args:List DV} {st:St} {r:Option (DV×St)} (h:(dq T n).F g args st=r):eB T n g args st=r:=by
 rw[nX] at h;exact h
end Go.D
end
section
namespace Go.D
noncomputable section
section
variable {α:Type}
def fN (n:Nat) (k:Nat→α):α:=Nat.rec (motive:=fun _=>α) (k 0) (fun m _=>k (abv m)) n
@[simp] theorem kE (n:Nat) (k:Nat→α):fN n k=k n:=by cases n<;>rfl
def fI (x:Int) (k:Int→α):α:=Int.rec (motive:=fun _=>α) (fun n=>fN n fun n=>k (abs n)) (fun n=>fN n fun n=>k (Int.negSucc n)) x
@[simp] theorem I0 (x:Int) (k:Int→α):fI x k=k x:=by cases x<;>simp[fI]
def fB (b:Bool) (k:Bool→α):α:=Bool.rec (motive:=fun _=>α) (k false) (k true) b
@[simp] theorem Uv (b:Bool) (k:Bool→α):fB b k=k b:=by cases b<;>rfl
def fL {β:Type} (xs:List β):(List β→α)→α:=List.rec (motive:=fun _=>(List β→α)→α) (fun k=>k []) (fun x _ ih k=>ih fun t=>k (x::t)) xs
@[simp] theorem Ir {β:Type} (xs:List β) (k:List β→α):fL xs k=k xs:=by
  induction xs generalizing k with
  | nil=>rfl
  | cons x t ih=>exact ih _
def fON (o:Option Nat) (k:Option Nat→α):α:=Option.rec (motive:=fun _=>α) (k none) (fun n=>fN n fun n=>k (some n)) o
@[simp] theorem Th (o:Option Nat) (k:Option Nat→α):fON o k=k o:=by cases o<;>simp[fON]
def fTk (t:Tk) (k:Tk→α):α:=Tk.rec (motive:=fun _=>α) (k .no) (k .tight) (fun a b=>fN a fun a=>fN b fun b=>k (.own a b)) t
@[simp] theorem TK (t:Tk) (k:Tk→α):fTk t k=k t:=by cases t<;>simp[fTk]
def f0 (v:DV) (k:DV→α):α:=
 DV.casesOn (motive_1:=fun _=>α) v (k .undef) (fun b=>k (.bool b)) (fun a b=>k (.int a b)) (fun s=>k (.str s)) (fun a b=>k (.ptr a b)) (k .b5) (fun a=>k (.bW a))
  (fun a b c d e=>k (.list a b c d e)) (fun a b c d e f=>k (.hsl a b c d e f)) (fun a=>k (.map a)) (k .bn) (fun a b c=>k (.fn a b c)) (fun a=>k (.yield a)) (k .bO)
  (fun a b=>k (.iface a b)) (k .aL) (fun a=>k (.agg a)) (fun a=>k (.tuple a))
@[simp] theorem IP (v:DV) (k:DV→α):f0 v k=k v:=by cases v<;>rfl
def fX (f:DV→(DV→α)→α) (xs:List DV):(List DV→α)→α:=List.rec (motive:=fun _=>(List DV→α)→α) (fun k=>k []) (fun x _ ih k=>f x fun x=>ih fun t=>k (x::t)) xs
theorem DP {f:DV→(DV→α)→α} (hf:∀ v k,f v k=k v) (xs:List DV) (k:List DV→α):fX f xs k=k xs:=by
 induction xs generalizing k with
 | nil=>rfl
 | cons x t ih=>exact(hf x fun x=>fX f t fun t=>k (x::t)).trans (ih _)
def fS (f:DV→(DV→α)→α) (v:DV) (k:DV→α):α:=
 DV.casesOn (motive_1:=fun _=>α) v (k .undef) (fun b=>fB b fun b=>k (.bool b)) (fun a b=>fI b fun b=>k (.int a b)) (fun s=>fL s fun s=>k (.str s)) (fun a b=>fN a fun a=>fN b fun b=>k (.ptr a b)) (k .b5) (fun a=>fX f a fun a=>k (.bW a))
  (fun a b c d e=>fN a fun a=>fN b fun b=>fTk c fun c=>fB d fun d=>fX f e fun e=>k (.list a b c d e)) (fun a b c d e g=>fN a fun a=>fB b fun b=>fN c fun c=>fN d fun d=>fN e fun e=>fON g fun g=>k (.hsl a b c d e g)) (fun a=>fN a fun a=>k (.map a)) (k .bn)
  (fun a b c=>fN a fun a=>fX f b fun b=>fX f c fun c=>k (.fn a b c)) (fun a=>fN a fun a=>k (.yield a)) (k .bO)
  (fun a b=>fN a fun a=>f b fun b=>k (.iface a b)) (k .aL) (fun a=>fX f a fun a=>k (.agg a)) (fun a=>fX f a fun a=>k (.tuple a))
theorem uk {f:DV→(DV→α)→α} (hf:∀ v k,f v k=k v) (v:DV) (k:DV→α):fS f v k=k v:=by cases v<;>simp[fS,DP hf,hf]
def fD:DV→(DV→α)→α:=fS (fS (fS (fS f0)))
@[simp] theorem NH (v:DV) (k:DV→α):fD v k=k v:=uk (uk (uk (uk IP))) v k
def fDs:List DV→(List DV→α)→α:=fX fD
@[simp] theorem Ji (v:List DV) (k:List DV→α):fDs v k=k v:=DP NH v k
end
def rD (m n:Nat):Int:=Bool.rec (abs (Nat.sub m n)) (Int.negSucc (Nat.sub (Nat.sub n m) 1)) (Nat.ble (abv m) n)
theorem vQ (m n:Nat):rD m n=(m:Int)-n:=by
 unfold rD;cases h:Nat.ble (abv m) n
 · have:n≤m:=by
    rcases Nat.lt_or_ge m n with h1|h1
    · rw[Nat.ble_eq_true_of_le h1] at h;cases h
    · exact h1
   show ((m-n:Nat):Int)=_;omega
 · have:m<n:=aaG h;show Int.negSucc (n-m-1)=_;rw[aaO];omega
def KH (a b:Int):Int:=
 Int.rec (motive:=fun _=>Int) (fun m=>Int.rec (motive:=fun _=>Int) (fun n=>.ofNat (Nat.add m n)) (fun n=>rD m (abv n)) b) (fun m=>Int.rec (motive:=fun _=>Int) (fun n=>rD n (abv m)) (fun n=>.negSucc (abv (Nat.add m n))) b) a
theorem HQ (a b:Int):KH a b=a+b:=by
 cases a<;>cases b<;>simp only[KH,vQ]
 · rfl
 · rename_i m n;show (m:Int)-((n+1:Nat):Int)=_;rw[aaO];simp;omega
 · rename_i m n;show (n:Int)-((m+1:Nat):Int)=_;rw[aaO];simp;omega
 · rfl
def Kj (a b:Int):Int:=
 Int.rec (motive:=fun _=>Int) (fun m=>Int.rec (motive:=fun _=>Int) (fun n=>rD m n) (fun n=>.ofNat (Nat.add m (abv n))) b) (fun m=>Int.rec (motive:=fun _=>Int) (fun n=>.negSucc (Nat.add m n)) (fun n=>rD n m) b) a
theorem FQ (a b:Int):Kj a b=a-b:=by
 cases a<;>cases b<;>simp only[Kj,vQ]
 · rfl
 · rename_i m n;show ((m+(n+1):Nat):Int)=_;rw[aaO];simp
 · rename_i m n;show Int.negSucc (m+n)=_;rw[aaO,aaO];simp only[aaI];omega
 · rename_i m n;rw[aaO,aaO];omega
def QB (a b:Int):Int:=
 Int.rec (motive:=fun _=>Int) (fun m=>Int.rec (motive:=fun _=>Int) (fun n=>.ofNat (Nat.mul m n)) (fun n=>Int.mul (.ofNat m) (.negSucc n)) b) (fun m=>Int.mul (.negSucc m) b) a
theorem HN (a b:Int):QB a b=a*b:=by cases a<;>cases b<;>rfl
def iLe (a b:Int):Bool:=
 Int.rec (motive:=fun _=>Bool) (fun m=>Int.rec (motive:=fun _=>Bool) (fun n=>Nat.ble m n) (fun _=>false) b) (fun m=>Int.rec (motive:=fun _=>Bool) (fun _=>true) (fun n=>Nat.ble n m) b) a
theorem su (a b:Int):iLe a b=decide (a≤b):=by
 cases a<;>cases b<;>simp only[iLe]<;>rename_i m n
 · rw[aaW,Nat.ble_eq,decide_eq_true_eq];simp
 · simp;omega
 · simp;omega
 · rw[aaW,Nat.ble_eq,decide_eq_true_eq,aaO,aaO];omega
def iLt (a b:Int):Bool:=Bool.rec true false (iLe b a)
theorem DB (a b:Int):iLt a b=decide (a<b):=by
 unfold iLt;rw[su];by_cases h:a<b
 · simp[h,show ¬ b≤a by omega]
 · simp[h,show b≤a by omega]
def iEq (a b:Int):Bool:=
 Int.rec (motive:=fun _=>Bool) (fun m=>Int.rec (motive:=fun _=>Bool) (fun n=>aaD m n) (fun _=>false) b) (fun m=>Int.rec (motive:=fun _=>Bool) (fun _=>false) (fun n=>aaD m n) b) a
theorem yn (a b:Int):iEq a b=(a==b):=by
 cases a<;>cases b<;>simp only[iEq]<;>rename_i m n<;>rw[aaW]<;>simp<;>try omega
def ikN (k:IntKind):Nat:=IntKind.rec (motive:=fun _=>Nat) 0 1 2 3 4 5 6 7 k
def BT (a b:IntKind):Bool:=aaD (ikN a) (ikN b)
theorem sV (a b:IntKind):BT a b=decide (a=b):=by cases a<;>cases b<;>rfl
def nw (k:IntKind):Nat:=IntKind.rec (motive:=fun _=>Nat) 127 32767 2147483647 9223372036854775807 255 65535 4294967295 18446744073709551615 k
def sgn (k:IntKind):Bool:=IntKind.rec (motive:=fun _=>Bool) true true true true false false false false k
def inK (k:IntKind) (n:Int):Bool:=
 Int.rec (motive:=fun _=>Bool) (fun m=>Nat.ble m (nw k)) (fun m=>Bool.rec false (Nat.ble m (nw k)) (sgn k)) n
def qK (k:IntKind) (n:Int):Int:=Bool.rec (k.wrap n) n (inK k n)
theorem vg (k:IntKind) (n:Int):qK k n=k.wrap n:=by
 unfold qK;cases h:inK k n
 · rfl
 · show n=k.wrap n;symm
   cases n with
   | ofNat m=>
     have hm:m≤nw k:=aaG h;cases k<;>simp only[nw] at hm
     · exact IntWalk.i8_in _ (by simp only[aaI];omega)
     · exact IntWalk.i16_in _ (by simp only[aaI];omega)
     · exact IntWalk.i32_in _ (by simp only[aaI];omega)
     · exact IntWalk.i64_in _ (by simp only[aaI];omega)
     · exact IntWalk.u8_in _ (by simp only[aaI];omega)
     · exact IntWalk.u16_in _ (by simp only[aaI];omega)
     · exact IntWalk.u32_in _ (by simp only[aaI];omega)
     · exact IntWalk.u64_in _ (by simp only[aaI];omega)
   | negSucc m=>
     cases k<;>simp only[inK,sgn] at h
     · have hm:=aaG h;simp only[nw] at hm;exact IntWalk.i8_in _ (by rw[aaO];omega)
     · have hm:=aaG h;simp only[nw] at hm;exact IntWalk.i16_in _ (by rw[aaO];omega)
     · have hm:=aaG h;simp only[nw] at hm;exact IntWalk.i32_in _ (by rw[aaO];omega)
     · have hm:=aaG h;simp only[nw] at hm;exact IntWalk.i64_in _ (by rw[aaO];omega)
     all_goals cases h
section
variable {β:Type}
def elA (v:DV) (B:Bool→β) (I:IntKind→Int→β) (S:List UInt8→β) (P:Nat→Nat→β) (C:List DV→β) (L:Nat→Nat→Tk→Bool→List DV→β)
    (H:Nat→Bool→Nat→Nat→Nat→Option Nat→β) (M:Nat→β) (F:Nat→List DV→List DV→β) (A:List DV→β) (U:List DV→β) (D:β):β:=
 DV.rec (motive_1:=fun _=>β) (motive_2:=fun _=>PUnit) D B I S P D (fun c _=>C c) (fun a b c d e _=>L a b c d e) H M D (fun f a b _ _=>F f a b) (fun _=>D) D (fun _ _ _=>D) D
  (fun a _=>A a) (fun a _=>U a) .unit (fun _ _ _ _=>.unit) v
end
section
variable {α:Type}
def wi (fr:Fr) (t:Nat):(DV→α)→α:=List.rec (motive:=fun _=>(DV→α)→α) (fun k=>k .undef) (fun p _ ih k=>Prod.rec (fun u v=>Bool.rec (ih k) (k v) (aaD u t)) p) fr
theorem lF (fr:Fr) (t:Nat) (k:DV→α):wi fr t k=k (fr.get t):=by
 induction fr with
 | nil=>rfl
 | cons p r ih=>
   obtain⟨u,v⟩:=p;show Bool.rec (wi r t k) (k v) (aaD u t)=k (if u=t then v else Fr.get r t);by_cases h:u=t
   · rw[if_pos h,h,show aaD t t=true from Nat.beq_refl t]
   · rw[if_neg h,show aaD u t=false from by cases e:aaD u t with | false=>rfl | true=>exact absurd (aaJ e) h,ih]
def evC (fr:Fr) (x:X) (k:DV→α):α:=X.rec (motive:=fun _=>α) (fun n=>wi fr n k) k (fun g=>k (.fn g [] [])) x
theorem aM (fr:Fr) (x:X) (k:DV→α):evC fr x k=k (x.ev fr):=by cases x<;>first | rfl | exact lF _ _ _
def yw (fr:Fr) (xs:List X):(List DV→α)→α:=List.rec (motive:=fun _=>(List DV→α)→α) (fun k=>k []) (fun x _ ih k=>evC fr x fun v=>ih fun t=>k (v::t)) xs
theorem lO (fr:Fr) (xs:List X) (k:List DV→α):yw fr xs k=k (xs.map (X.ev fr)):=by
 induction xs generalizing k with
 | nil=>rfl
 | cons x t ih=>
   refine(aM fr x fun v=>yw fr t fun t=>k (v::t)).trans ?_;exact ih _
def Dd (fr:Fr) (d:Option Nat) (v:DV) (k:Fr→α):α:=Option.rec (motive:=fun _=>α) (k fr) (fun t=>k ((t,v)::fr)) d
theorem zK (fr:Fr) (d:Option Nat) (v:DV) (k:Fr→α):Dd fr d v k=k (fr.put d v):=by cases d<;>rfl
def ru (fr:Fr) (live:List Nat):(Fr→α)→α:=List.rec (motive:=fun _=>(Fr→α)→α) (fun k=>k []) (fun x _ ih k=>wi fr x fun v=>ih fun t=>k ((x,v)::t)) live
theorem o5 (fr:Fr) (live:List Nat) (k:Fr→α):ru fr live k=k (fr.bG live):=by
 induction live generalizing k with
 | nil=>rfl
 | cons x t ih=>
   refine(lF fr x fun v=>ru fr t fun t=>k ((x,v)::t)).trans ?_;exact ih _
end
def kS {β:Type} (xs:List β):Nat→Option β:=List.rec (motive:=fun _=>Nat→Option β) (fun _=>none) (fun x _ ih i=>Nat.rec (motive:=fun _=>Option β) (some x) (fun i' _=>ih i') i) xs
def gf {β:Type} (xs:List β):Nat:=List.rec (motive:=fun _=>Nat) 0 (fun _ _ ih=>abv ih) xs
def vA {β:Type} (xs:List β):Nat→List β:=List.rec (motive:=fun _=>Nat→List β) (fun _=>[]) (fun x t ih i=>Nat.rec (motive:=fun _=>List β) (x::t) (fun i' _=>ih i') i) xs
section
variable {α β:Type}
def zT (xs:List β):Nat→(List β→α)→α:=List.rec (motive:=fun _=>Nat→(List β→α)→α) (fun _ k=>k []) (fun x _ ih i k=>Nat.rec (motive:=fun _=>α) (k []) (fun i' _=>ih i' fun t=>k (x::t)) i) xs
def ow (xs ys:List β):(List β→α)→α:=List.rec (motive:=fun _=>(List β→α)→α) (fun k=>k ys) (fun x _ ih k=>ih fun t=>k (x::t)) xs
def H7 (xs:List β) (o:β):Nat→(List β→α)→α:=List.rec (motive:=fun _=>Nat→(List β→α)→α) (fun _ k=>k []) (fun x t ih i k=>Nat.rec (motive:=fun _=>α) (k (o::t)) (fun i' _=>ih i' fun t=>k (x::t)) i) xs
theorem gn (xs:List β) (i:Nat):kS xs i=xs[i]?:=by
 induction xs generalizing i with
 | nil=>rfl
 | cons x t ih=>cases i with
   | zero=>rfl
   | succ i=>exact(ih i).trans (by simp)
theorem fF (xs:List β):gf xs=xs.length:=by
 induction xs with
 | nil=>rfl
 | cons x t ih=>exact congrArg abv ih
theorem oo (xs:List β) (i:Nat):vA xs i=xs.drop i:=by
 induction xs generalizing i with
 | nil=>simp[vA]
 | cons x t ih=>cases i with
   | zero=>rfl
   | succ i=>exact(ih i).trans (by simp)
theorem vm (xs:List β) (i:Nat) (k:List β→α):zT xs i k=k (xs.take i):=by
 induction xs generalizing i k with
 | nil=>simp[zT]
 | cons x t ih=>cases i with
   | zero=>rfl
   | succ i=>exact(ih i fun t=>k (x::t)).trans (by simp)
theorem jl (xs ys:List β) (k:List β→α):ow xs ys k=k (xs++ys):=by
 induction xs generalizing k with
 | nil=>rfl
 | cons x t ih=>exact ih fun t=>k (x::t)
theorem yy (xs:List β) (o:β) (i:Nat) (k:List β→α):H7 xs o i k=k (xs.set i o):=by
 induction xs generalizing i k with
 | nil=>simp[H7]
 | cons x t ih=>cases i with
   | zero=>rfl
   | succ i=>exact(ih i fun t=>k (x::t)).trans (by simp)
end
abbrev Out:=Option (DV×St)
def xt (st:St) (k:IntKind) (n:Int):Out:=fI n fun n=>some (.int k n,st)
def qe (st:St) (b:Bool):Out:=Bool.rec (some (.bool false,st)) (some (.bool true,st)) b
def BZ (st:St) (v:Option DV):Out:=Option.rec none (fun v=>fD v fun v=>some (v,st)) v
def fQ {α:Type} (v:DV) (k:DV→α):α:=
 elA v (fun b=>fB b fun b=>k (.bool b)) (fun a b=>fI b fun b=>k (.int a b)) (fun s=>fL s fun s=>k (.str s)) (fun a b=>fN a fun a=>fN b fun b=>k (.ptr a b)) (fun a=>fL a fun a=>k (.bW a))
  (fun a b c d e=>fN a fun a=>fN b fun b=>fTk c fun c=>fB d fun d=>fL e fun e=>k (.list a b c d e)) (fun a b c d e g=>fN a fun a=>fB b fun b=>fN c fun c=>fN d fun d=>fN e fun e=>fON g fun g=>k (.hsl a b c d e g)) (fun a=>fN a fun a=>k (.map a))
  (fun a b c=>fN a fun a=>fL b fun b=>fL c fun c=>k (.fn a b c)) (fun a=>fL a fun a=>k (.agg a)) (fun a=>fL a fun a=>k (.tuple a)) (f0 v k)
theorem I7 {α:Type} (v:DV) (k:DV→α):fQ v k=k v:=by cases v<;>simp[fQ,elA]
def xQ (st:St) (v:Option DV):Out:=Option.rec none (fun v=>fQ v fun v=>some (v,st)) v
theorem lX (st:St) (v:Option DV):xQ st v=v.map fun v=>(v,st):=by cases v<;>simp[xQ,I7]
theorem tB (st:St) (v:Option DV):BZ st v=v.map fun v=>(v,st):=by cases v<;>simp[BZ]
theorem s7 (st:St) (b:Bool):qe st b=some (.bool b,st):=by cases b<;>rfl
def HW (b:Bool):Bool:=Bool.rec true false b
theorem Ak (b:Bool):HW b = !b:=by cases b<;>rfl
def jQ (a b:Bool):Bool:=Bool.rec false b a
theorem il (a b:Bool):jQ a b=(a&&b):=by cases a<;>rfl
def ifK {β:Type} (b:Bool) (k:Option β):Option β:=Bool.rec none k b
abbrev Cv:=St→IntKind→IntKind→Int→Int→Out
inductive KI where
 | mk (f:Cv)
def kF (f:St→IntKind→Int→Int→Out):KI:=.mk fun st k k' a b=>ifK (BT k k') (f st k a b)
def G7 (op:BinOp):KI:=
 match op with
 | .add=>kF fun st k a b=>xt st k (qK k (KH a b))
 | .sub=>kF fun st k a b=>xt st k (qK k (Kj a b))
 | .mul=>kF fun st k a b=>xt st k (qK k (QB a b))
 | .eql=>kF fun st _ a b=>qe st (iEq a b)
 | .neq=>kF fun st _ a b=>qe st (HW (iEq a b))
 | .lss=>kF fun st _ a b=>qe st (iLt a b)
 | .leq=>kF fun st _ a b=>qe st (iLe a b)
 | .gtr=>kF fun st _ a b=>qe st (iLt b a)
 | .geq=>kF fun st _ a b=>qe st (iLe b a)
 | op=>.mk fun st k k' a b=>BZ st (nK op (.int k a) (.int k' b))
abbrev nB:Bool→Out:=fun _=>none
abbrev nI:IntKind→Int→Out:=fun _ _=>none
abbrev nS:List UInt8→Out:=fun _=>none
abbrev nP:Nat→Nat→Out:=fun _ _=>none
abbrev nC:List DV→Out:=fun _=>none
abbrev nL:Nat→Nat→Tk→Bool→List DV→Out:=fun _ _ _ _ _=>none
abbrev nH:Nat→Bool→Nat→Nat→Nat→Option Nat→Out:=fun _ _ _ _ _ _=>none
abbrev nM:Nat→Out:=fun _=>none
abbrev nF:Nat→List DV→List DV→Out:=fun _ _ _=>none
def Qz (f:Cv) (op:BinOp) (x y:DV) (st:St):Out:=
 elA x nB (fun k a=>elA y nB (fun k' b=>f st k k' a b) nS nP nC nL nH nM nF nC nC none)
  (fun s=>BZ st (nK op (.str s) y)) nP nC nL nH nM nF nC nC none
def sN (st:St) (b:Nat) (k:CK→List DV→Out):Out:=
 Option.rec none (fun o=>HO.rec k (fun _=>none) (fun _=>none) none o) (kS st.heap b)
def Fe (st:St) (v:Option DV):Out:=Option.rec none (fun v=>some (v,st)) v
def oF (vs:List DV) (off n:Nat) (ag:Bool) (st:St):Out:=
 Bool.rec (Fe st (kS vs off)) (ifK (Nat.ble (Nat.add off n) (gf vs)) (zT (vA vs off) n fun c=>some (.agg c,st))) ag
def ED (n:Nat) (ag:Bool) (v:DV) (st:St):Out:=
 elA v nB nI nS (fun b off=>sN st b fun _ vs=>oF vs off n ag st) (fun cs=>oF cs 0 n ag st) nL nH nM nF nC nC none
section
variable {β:Type}
def l3 (v:DV) (k:List DV→β):β:=
 (fun (d:β)=>DV.rec (motive_1:=fun _=>β) (motive_2:=fun _=>PUnit) d (fun _=>d) (fun _ _=>d) (fun _=>d) (fun _ _=>d) d (fun _ _=>d) (fun _ _ _ _ _ _=>d) (fun _ _ _ _ _ _=>d) (fun _=>d) d (fun _ _ _ _ _=>d) (fun _=>d) d (fun _ _ _=>d) d
  (fun a _=>k a) (fun _ _=>d) .unit (fun _ _ _ _=>.unit) v) (k [v])
end
def n5 (vs:List DV):Bool:=List.rec (motive:=fun _=>Bool) true (fun v _ ih=>jQ (DV.bp v) ih) vs
def sA {α:Type} (vs:List DV) (off:Nat) (news:List DV) (k:List DV→α):α:=zT vs off fun a=>ow news (vA vs (Nat.add off (gf news))) fun b=>ow a b k
def DE (n:Nat) (p v:DV) (st:St):Out:=
 elA p nB nI nS (fun b off=>St.rec (fun h tk cur base tb=>
     Option.rec none (fun o=>HO.rec (fun g vs=>
      l3 v fun ls=>
       ifK (jQ (CK.wr g) (jQ (Nat.ble base b) (jQ (aaD (gf ls) n) (jQ (Nat.ble (Nat.add off n) (gf vs)) (n5 ls)))))
        (sA vs off ls fun vs'=>H7 h (.cells g vs') b fun h'=>some (.undef,⟨h',tk,cur,base,tb⟩)))
      (fun _=>none) (fun _=>none) none o) (kS h b)) st) nC nL nH nM nF nC nC none
def tK (i:Int):Nat:=Int.rec (motive:=fun _=>Nat) (fun n=>n) (fun _=>0) i
def zv (st:St) (o:HO) (k:Nat→St→Out):Out:=
 St.rec (fun h tk cur base tb=>fN (gf h) fun n=>ow h [o] fun h'=>k n ⟨h',tk,cur,base,tb⟩) st
inductive KF where
 | mk (f:Fr→St→Out)
 | call (g:Nat) (args:List X)
 | bz (f:X) (args:List X)
 | dp (f:X) (args:List X)
def G6 {β:Type} (xs:List β) (st:St):Out:=fN (gf xs) fun n=>some (.int .i64 (.ofNat n),st)
def Td (k:wU) (x:X):KF:=
 match k with
 | .str=>.mk fun fr st=>evC fr x fun v=>elA v nB nI (fun s=>G6 s st) nP nC nL nH nM nF nC nC none
 | .slice=>.mk fun fr st=>evC fr x fun v=>elA v nB nI nS nP nC (fun _ _ _ _ xs=>G6 xs st) (fun _ _ _ _ len _=>some (.int .i64 (.ofNat len),st)) nM nF nC nC none
 | .map=>.mk fun fr st=>BZ st ((an st fr (.len .map x)).map (·.1))
def CQ (n:Nat) (x i:DV) (st:St):Out:=
 elA i nB (fun _ j=>ifK (iLe (.ofNat 0) j)
  (elA x nB nI nS nP nC (fun _ n' _ _ xs=>ifK (aaD n' n) (Option.rec none (fun v=>l3 v fun ls=>some (.bW ls,st)) (kS xs (tK j))))
   (fun n' _ b off len _=>ifK (aaD n' n) (ifK (iLt j (.ofNat len)) (fN (Nat.add off (Nat.mul (tK j) n)) fun o=>some (.ptr b o,st)))) nM nF nC nC none))
  nS nP nC nL nH nM nF nC nC none
def EM (st:St) (k:St→Out):Out:=St.rec (fun h tks cur base tb=>fL h fun h=>fL tks fun tks=>k ⟨h,tks,cur,base,tb⟩) st
def fHO {α:Type} (o:HO) (k:HO→α):α:=
 HO.rec (fun g vs=>fL vs fun vs=>k (.cells g vs)) (fun es=>fL es fun es=>k (.map es)) (fun l=>k (.loop l)) (k .gone) o
theorem Kd {α:Type} (o:HO) (k:HO→α):fHO o k=k o:=by cases o<;>simp[fHO]
def fOb {α:Type} (h:List HO):Nat→(List HO→α)→α:=
 List.rec (motive:=fun _=>Nat→(List HO→α)→α) (fun _ k=>k []) (fun x _ ih i k=>Nat.rec (motive:=fun _=>α) (fHO x fun x=>ih 1000000 fun t=>k (x::t)) (fun i' _=>ih i' fun t=>k (x::t)) i) h
theorem Kr {α:Type} (h:List HO) (i:Nat) (k:List HO→α):fOb h i k=k h:=by
 induction h generalizing i k with
 | nil=>rfl
 | cons x t ih=>
   cases i with
   | zero=>exact(Kd x fun x=>fOb t 1000000 fun t=>k (x::t)).trans (ih _ _)
   | succ i=>exact ih _ _
def mL (i:Nat) (r:Out):Out:=
 Option.rec none (fun p=>Prod.rec (fun v st'=>fQ v fun v=>St.rec (fun h tks cur base tb=>fOb h i fun h=>fL tks fun tks=>some (v,⟨h,tks,cur,base,tb⟩)) st') p) r
theorem ee (i:Nat) (r:Out):mL i r=r:=by
 rcases r with _|⟨v,h,tks,cur,base,tb⟩
 · rfl
 · exact(I7 v _).trans ((Kr h i _).trans (Ir tks _))
def DI (v:DV):Nat:=elA v (fun _=>0) (fun _ _=>0) (fun _=>0) (fun b _=>b) (fun _=>0) (fun _ _ _ _ _=>0) (fun _ _ b _ _ _=>b) (fun b=>b) (fun _ _ _=>0) (fun _=>0) (fun _=>0) 0
def Lh (r:Out):Out:=Option.rec none (fun p=>Prod.rec (fun v st'=>fD v fun v=>EM st' fun st'=>some (v,st')) p) r
theorem yM (r:Out):Lh r=r:=by rcases r with _ | ⟨v,st⟩<;>simp[Lh,EM]
def Je (n m:Nat) (ag:Bool) (bytes:Nat) (news:List DV) (tag n':Nat) (tk:Tk) (nn:Bool) (xs:List DV) (st:St):Out:=
 Nat.rec (some (.list tag n' tk nn xs,st)) (fun _ _=>
  if n=0∨(nn=true∧n'≠n)∨(xs.length+m)*bytes>aD∨xs.length+m>aD ∨ !(news.map DV.aP).all DV.pure then none else
  fDs (chunk n ag m (news.map DV.aP)) fun ys=>ow xs ys fun zs=>
   St.rec (fun h tks cur base tb=>
    (fun (fresh:Out)=>Bool.rec fresh (Tk.rec none fresh (fun t s=>if tb≤t∧tks[t]? = some s then fN (abv s) fun s'=>H7 tks s' t fun tks'=>some (.list cur n (.own t s') true zs,⟨h,tks',cur,base,tb⟩) else none) tk) nn)
     (fN (gf tks) fun l=>ow tks [0] fun tks'=>some (.list cur n (.own l 0) true zs,⟨h,tks',cur,base,tb⟩))) st) m
def zH (n:Nat) (ag:Bool) (bytes:Nat) (x y:DV) (st:St):Out:=
 elA x nB nI nS nP nC (fun tag n' tk nn xs=>Option.rec none (fun p=>Prod.rec (fun m news=>Je n m ag bytes news tag n' tk nn xs st) p) (cd st n y))
  (fun _ _ b _ _ cap=>mL (Option.rec (gf st.heap) (fun _=>b) cap) (mL (gf st.heap) (bL st n ag bytes x y))) nM nF nC nC none
def Lm (op:ROp) (fr:Fr) (st:St):Out:=Lh (an st fr op)
def KX (n:Nat) (ag:Bool) (off:Nat) (v:DV) (st:St):Out:=elA v nB nI nS nP nC nL nH nM nF (fun vs=>oF vs off n ag st) nC none
def tg (fr:Fr) (parts:List (Nat×Nat×X)):(List (Nat×Nat×DV)→Out)→Out:=
 List.rec (motive:=fun _=>(List (Nat×Nat×DV)→Out)→Out) (fun k=>k []) (fun p _ ih k=>evC fr p.2.2 fun v=>ih fun t=>k ((p.1,p.2.1,v)::t)) parts
def evO {α:Type} (fr:Fr) (x:Option X) (k:Option DV→α):α:=Option.rec (k none) (fun x=>evC fr x fun v=>k (some v)) x
theorem xL {α:Type} (fr:Fr) (x:Option X) (k:Option DV→α):evO fr x k=k (x.map (X.ev fr)):=by cases x<;>first | rfl | exact aM _ _ _
def xf (fr:Fr) (n:Nat) (parts:List (Nat×X)):(List (Nat×Nat×DV)→Out)→Out:=
 List.rec (motive:=fun _=>(List (Nat×Nat×DV)→Out)→Out) (fun k=>k []) (fun p _ ih k=>evC fr p.2 fun v=>ih fun t=>k ((p.1*n,n,v)::t)) parts
theorem BL (fr:Fr) (n:Nat) (parts:List (Nat×X)) (k:List (Nat×Nat×DV)→Out):xf fr n parts k=k (parts.map fun (i,x)=>(i*n,n,x.ev fr)):=by
 induction parts generalizing k with
 | nil=>rfl
 | cons p r ih=>
   refine(aM fr p.2 fun v=>xf fr n r fun t=>k ((p.1*n,n,v)::t)).trans ?_;exact ih _
def NZ (st:St) (n:Nat) (ag:Bool) (zs:List DV) (len:Nat) (ps:List (Nat×Nat×DV)):Out:=
 match iL (aK zs len) ps with
 | some cs=>some (.hsl n ag st.heap.length 0 len (some len),st.push (.cells .plain cs))
 | none=>none
def Uc (v:DV) (st:St):Out:=
 DV.rec (motive_1:=fun _=>Out) (motive_2:=fun _=>PUnit) none (fun b=>some (.bool b,st)) (fun a b=>some (.int a b,st)) (fun s=>some (.str s,st)) (fun a b=>some (.ptr a b,st)) none (fun c _=>some (.bW c,st))
  (fun a b c d e _=>some (.list a b c d e,st)) (fun a b c d e f=>some (.hsl a b c d e f,st)) (fun a=>some (.map a,st)) (some (.bn,st)) (fun _ _ _ _ _=>none) (fun _=>none) none (fun _ _ _=>none) none
  (fun a _=>some (.agg a,st)) (fun a _=>some (.tuple a,st)) .unit (fun _ _ _ _=>.unit) v
def zG (k:LK) (a b:DV):Option Bool:=
 LK.rec (gQ .bool a b)
  (elA a (fun _=>none) (fun k x=>elA b (fun _=>none) (fun k' y=>Bool.rec none (some (iEq x y)) (BT k k')) (fun _=>none) (fun _ _=>none) (fun _=>none) (fun _ _ _ _ _=>none) (fun _ _ _ _ _ _=>none) (fun _=>none) (fun _ _ _=>none) (fun _=>none) (fun _=>none) none)
   (fun _=>none) (fun _ _=>none) (fun _=>none) (fun _ _ _ _ _=>none) (fun _ _ _ _ _ _=>none) (fun _=>none) (fun _ _ _=>none) (fun _=>none) (fun _=>none) none)
  (gQ .str a b) k
theorem ug (k:LK) (a b:DV):zG k a b=gQ k a b:=by
 cases k<;>try rfl
 cases a<;>try (cases b<;>rfl)
 cases b<;>try rfl
 rename_i k x k' y;show Bool.rec none (some (iEq x y)) (BT k k')=if k=k' then some (x==y) else none
 rw[sV,yn];by_cases h:k=k'<;>simp[h]
def kt (ks:List LK):List DV→List DV→Option Bool:=
 List.rec (motive:=fun _=>List DV→List DV→Option Bool) (fun as_ bs=>bk [] as_ bs)
  (fun k _ ih as_ bs=>List.rec none (fun a as_ _=>List.rec none (fun b bs _=>Option.rec none (fun x=>Option.rec none (fun y=>some (jQ x y)) (ih as_ bs)) (zG k a b)) bs) as_) ks
theorem mb:∀ (ks:List LK) (as_ bs:List DV),kt ks as_ bs=bk ks as_ bs
 | [],as_,bs=>rfl
 | k::ks,[],bs=>by cases bs<;>rfl
 | k::ks,a::as_,[]=>rfl
 | k::ks,a::as_,b::bs=>by
   show (Option.rec none (fun x=>Option.rec none (fun y=>some (jQ x y)) (kt ks as_ bs)) (zG k a b):Option Bool)=_;rw[mb ks as_ bs,ug];simp only[bk]
   cases gQ k a b with
   | none=>rfl
   | some x=>cases bk ks as_ bs with
     | none=>rfl
     | some y=>simp[il]
def wW (ks:List LK) (a b:DV):Option Bool:=
 List.rec (zt [] a b) (fun k r _=>List.rec (zG k a b) (fun _ _ _=>
  elA a (fun _=>none) (fun _ _=>none) (fun _=>none) (fun _ _=>none) (fun _=>none) (fun _ _ _ _ _=>none) (fun _ _ _ _ _ _=>none) (fun _=>none) (fun _ _ _=>none)
   (fun xs=>elA b (fun _=>none) (fun _ _=>none) (fun _=>none) (fun _ _=>none) (fun _=>none) (fun _ _ _ _ _=>none) (fun _ _ _ _ _ _=>none) (fun _=>none) (fun _ _ _=>none) (fun ys=>kt ks xs ys) (fun _=>none) none)
   (fun _=>none) none) r) ks
theorem AK (ks:List LK) (a b:DV):wW ks a b=zt ks a b:=by
 cases ks with
 | nil=>rfl
 | cons k r=>
   cases r with
   | nil=>exact ug _ _ _
   | cons k2 r=>
     cases a<;>try (cases b<;>rfl)
     cases b<;>try rfl
     rename_i xs ys;show kt (k::k2::r) xs ys=bk (k::k2::r) xs ys;exact mb _ _ _
def yW (ks:List LK) (k:DV) (es:List (DV×DV)):Nat→Option (Option (Nat×DV)):=
 List.rec (motive:=fun _=>Nat→Option (Option (Nat×DV))) (fun _=>some none)
  (fun p _ ih i=>Prod.rec (fun a v=>Option.rec none (fun b=>Bool.rec (ih (abv i)) (some (some (i,v))) b) (wW ks k a)) p) es
theorem we (ks:List LK) (k:DV):∀ (es:List (DV×DV)) (i:Nat),yW ks k es i=findD ks k es i
 | [],i=>rfl
 | (a,v)::es,i=>by
   show (Option.rec none (fun b=>Bool.rec (yW ks k es (abv i)) (some (some (i,v))) b) (wW ks k a):Option (Option (Nat×DV)))=_;rw[AK,we ks k es];simp only[findD]
   cases zt ks k a with
   | none=>rfl
   | some b=>cases b<;>rfl
def IL (zero:DV) (ok:Bool) (r:Option (Nat×DV)) (st:St):Out:=
 Option.rec (Bool.rec (some (zero,st)) (some (.tuple [zero,.bool false],st)) ok) (fun p=>Prod.rec (fun _ v=>Bool.rec (some (v,st)) (some (.tuple [v,.bool true],st)) ok) p) r
def z4 (st:St) (ks:List LK) (zero:DV) (m k:DV) (ok:Bool):Out:=
 (fun (go:List (DV×DV)→Out)=>DV.rec (motive_1:=fun _=>Out) (motive_2:=fun _=>PUnit) none (fun _=>none) (fun _ _=>none) (fun _=>none) (fun _ _=>none) none (fun _ _=>none) (fun _ _ _ _ _ _=>none) (fun _ _ _ _ _ _=>none)
  (fun b=>Option.rec none (fun o=>HO.rec (fun _ _=>none) go (fun _=>none) none o) (kS st.heap b)) (go []) (fun _ _ _ _ _=>none) (fun _=>none) none (fun _ _ _=>none) none (fun _ _=>none) (fun _ _=>none) .unit (fun _ _ _ _=>.unit) m)
  fun es=>Option.rec none (fun r=>IL zero ok r st) (yW ks k es 0)
theorem xI (st:St) (ks:List LK) (zero:DV) (m k:DV) (ok:Bool):z4 st ks zero m k ok=(ti st ks zero m k ok).map fun v=>(v,st):=by
 have key:∀ es:List (DV×DV),(Option.rec none (fun r=>IL zero ok r st) (yW ks k es 0):Out)=(match findD ks k es 0 with
  | none=>none
  | some r=>let (v,there):=match r with | some (_,v)=>(v,true) | none=>(zero,false)
            some (if ok then DV.tuple [v,.bool there] else v)).map fun v=>(v,st):=by
  intro es;rw[we]
  cases findD ks k es 0 with
  | none=>rfl
  | some r=>cases r with
    | none=>cases ok<;>rfl
    | some p=>cases ok<;>rfl
 unfold ti;cases m<;>try rfl
 · rename_i b;simp only;show (Option.rec none _ (kS st.heap b):Out)=_;rw[gn]
   cases st.heap[b]? with
   | none=>rfl
   | some o=>
     cases o<;>try rfl
     exact key _
 · exact key []
def zQ (op:ROp):KF:=
 match op with
 | .mv x=>.mk fun fr st=>evC fr x fun v=>some (v,st)
 | .pick c a b=>.mk fun fr st=>evC fr c fun v=>elA v (fun t=>Bool.rec (evC fr b fun v=>some (v,st)) (evC fr a fun v=>some (v,st)) t) nI nS nP nC nL nH nM nF nC nC none
 | .alloc zs=>.mk fun _ st=>zv st (.cells .plain zs) fun n st'=>some (.ptr n 0,st')
 | .load n ag x=>.mk fun fr st=>evC fr x fun v=>ED n ag v st
 | .store n x v=>.mk fun fr st=>evC fr x fun p=>evC fr v fun v=>DE n p v st
 | .bin op x y=>KI.rec (fun f=>.mk fun fr st=>evC fr x fun a=>evC fr y fun b=>Qz f op a b st) (G7 op)
 | .i2i k x=>.mk fun fr st=>evC fr x fun v=>elA v nB (fun _ n=>xt st k (qK k n)) nS nP nC nL nH nM nF nC nC none
 | .un .not x=>.mk fun fr st=>evC fr x fun v=>elA v (fun b=>qe st (HW b)) nI nS nP nC nL nH nM nF nC nC none
 | .gU off x=>.mk fun fr st=>evC fr x fun v=>elA v nB nI nS (fun b o=>fN (Nat.add o off) fun o=>some (.ptr b o,st)) (fun cs=>ifK (Nat.ble off (gf cs)) (some (.bW (vA cs off),st))) nL nH nM nF nC nC none
 | .aY n x i=>.mk fun fr st=>evC fr x fun x=>evC fr i fun i=>CQ n x i st
 | .index x i=>.mk fun fr st=>evC fr x fun x=>evC fr i fun i=>elA x nB nI (fun s=>elA i nB (fun _ j=>ifK (iLe (.ofNat 0) j) (Option.rec none (fun b=>fN b.toNat fun n=>some (.int .u8 (.ofNat n),st)) (kS s (tK j)))) nS nP nC nL nH nM nF nC nC none) nP nC nL nH nM nF nC nC none
 | .extract x i=>.mk fun fr st=>evC fr x fun v=>elA v nB nI nS nP nC nL nH nM nF nC (fun vs=>Fe st (kS vs i)) none
 | .iface t x=>.mk fun fr st=>evC fr x fun v=>some (.iface t v,st)
 | .gD g first captured=>.mk fun fr st=>yw fr first fun a=>yw fr captured fun b=>some (.fn g a b,st)
 | .len k x=>Td k x
 | .dW ty bytes x y=>.mk fun fr st=>evC fr x fun x=>evC fr y fun y=>mL (gf st.heap) (mL (DI x) (dR st ty bytes x y))
 | .pN ty x l=>.mk fun fr st=>evC fr x fun x=>evC fr l fun l=>xQ st (wu st ty x l)
 | .gR x=>.mk fun fr st=>evC fr x fun x=>xQ st (lu x)
 | .conv ty n x=>.mk fun fr st=>evC fr x fun x=>xQ st (uh st ty n x)
 | .gX ty zs=>.mk fun _ st=>zv st (.cells (.typed ty) zs) fun n st'=>some (.ptr n 0,st')
 | .gl n ag bytes x y=>.mk fun fr st=>evC fr x fun x=>evC fr y fun y=>mL (gf st.heap) (mL (DI x) (vi st n ag bytes x y))
 | .append n ag bytes x y=>.mk fun fr st=>evC fr x fun x=>evC fr y fun y=>zH n ag bytes x y st
 | .eq k neg x y=>.mk fun fr st=>evC fr x fun x=>evC fr y fun y=>Option.rec none (fun b=>qe st (neg != b)) (eqD k x y)
 | .field n ag off x=>.mk fun fr st=>evC fr x fun v=>KX n ag off v st
 | .slice str n x lo hi mx=>.mk fun fr st=>evC fr x fun x=>evO fr lo fun lo=>evO fr hi fun hi=>evO fr mx fun mx=>xQ st (bS str n x lo hi mx)
 | .build zs parts=>.mk fun fr st=>tg fr parts fun ps=>xQ st ((iL zs ps).map .agg)
 | .lookup ks zero x i ok=>.mk fun fr st=>evC fr x fun x=>evC fr i fun i=>ifK (tG ks i) (z4 st ks zero x i ok)
 | .copy n x y=>.mk fun fr st=>evC fr x fun x=>evC fr y fun y=>mL (DI x) (IZ st n x y)
 | .clear n zs x=>.mk fun fr st=>evC fr x fun x=>mL (DI x) (CO st n zs x)
 | .box n x=>.mk fun fr st=>evC fr x fun v=>l3 v fun ls=>ifK (jQ (aaD (gf ls) n) (n5 ls)) (zv st (.cells .plain ls) fun b st'=>some (.ptr b 0,st'))
 | .iI ks m k v=>.mk fun fr st=>evC fr m fun m=>evC fr k fun k=>evC fr v fun v=>ifK (tG ks k) (mL (DI m) ((zx st ks m k v).map fun s=>(.undef,s)))
 | .aX x=>.mk fun fr st=>evC fr x fun v=>Uc v st
 | .s2b x=>.mk fun fr st=>evC fr x fun v=>elA v nB nI (fun s=>fX (fS f0) (s.map fun b=>.int .u8 b.toNat) fun l=>some (.list st.cur 1 .no true l,st)) nP nC nL nH nM nF nC nC none
 | .cE n ag bytes zs len cap=>.mk fun fr st=>mL (gf st.heap) (an st fr (.cE n ag bytes zs len cap))
 | .s2h x=>.mk fun fr st=>mL (gf st.heap) (an st fr (.s2h x))
 | .nE n ag zs len parts=>.mk fun fr st=>xf fr n parts fun ps=>mL (gf st.heap) (NZ st n ag zs len ps)
 | .call g args=>.call g args
 | .bz g args=>.bz g args
 | .dp g args=>.dp g args
 | op=>.mk fun fr st=>Lm op fr st
def q8 {β:Type} (r:Out) (k:DV→St→Option β):Option β:=Option.rec none (fun p=>Prod.rec k p) r
def Ef (T:Tab) (R:Rec) (v:DV) (as_:List DV) (st:St):Out:=
 elA v nB nI nS nP nC nL nH nM (fun g a c=>ifK (al T g) (ow as_ c fun x=>ow a x fun x=>R.F g x st)) nC nC none
def opK (T:Tab) (R:Rec) (op:ROp) (fr:Fr) (st:St):Out:=
 KF.rec (fun f=>f fr st) (fun g args=>yw fr args fun as_=>R.F g as_ st) (fun f args=>yw fr args fun as_=>evC fr f fun f=>R.V f as_ st)
  (fun f args=>yw fr args fun as_=>evC fr f fun f=>Ef T R f as_ st) (zQ op)
def tE (T:Tab) (R:Rec) (o:ak) (fr:Fr) (st:St):Out:=
 Option.rec (opK T R o.op fr st) (fun g=>Option.rec none (fun b=>Bool.rec (some (.tuple [],st)) (opK T R o.op fr st) b) (eb fr (some g))) o.guard
def zJ (R:Rec) (ops:List ak) (fr:Fr) (st:St):Option (Fr×St):=
 List.rec (some (fr,st)) (fun o r _=>q8 (R.N o fr st) fun v st'=>Dd fr o.dst v fun fr'=>R.O r fr' st') ops
def v5 (T:Tab) (R:Rec) (ops:List ak) (fr:Fr) (st:St) (sts:List St):Option (Fr×List St):=
 List.rec (some (fr,sts)) (fun o r _=>q8 (R.N o fr st) fun v st'=>Dd fr o.dst v fun fr'=>Bool.rec (R.S r fr' st sts) (R.S r fr' st' (st'::sts)) (aH (al T) o.op)) ops
abbrev jO:=Option (Ex×Fr×St)
def DK (r:jO) (k:Fr→St→jO):jO:=
 Option.rec none (fun p=>Prod.rec (fun e q=>Ex.rec (Prod.rec k q) (fun id=>some (.exit id,q)) (some (.ret,q)) e) p) r
def tv (R:Rec) (ops:List ak) (live:List Nat) (fr:Fr) (st:St):jO:=
 Option.rec none (fun p=>Prod.rec (fun fr' st'=>ru fr' live fun fr'=>some (.normal,fr',st')) p) (R.O ops fr st)
def iV (R:Rec) (ops:List ak) (chk:List (Nat×List Nat)) (live:List Nat) (fr:Fr) (st:St):jO:=
 Option.rec none (fun p=>Prod.rec (fun fr' sts=>ifK (R.A fr' ops sts.reverse chk) (List.rec none (fun st' _ _=>ru fr' live fun fr'=>some (.normal,fr',st')) sts)) p) (R.S ops fr st [st])
def Oa (st:St) (k:St→jO):jO:=St.rec (fun h tks cur base tb=>fL h fun h=>k ⟨h,tks,cur,base,tb⟩) st
def uF (R:Rec) (ops:List ak) (hs:List Nat) (chk:List (Nat×List Nat)) (live:List Nat) (fr:Fr) (st:St):jO:=
 List.rec (iV R ops chk live fr st) (fun _ _ _=>Option.rec none (fun p=>Prod.rec (fun st1 ops2=>Oa st1 fun st1=>iV R ops2 chk live fr st1) p) (gI fr hs st ops)) hs
def RE (R:Rec) (x:X) (a b:RC) (fr:Fr) (st:St):jO:=
 evC fr x fun v=>elA v (fun t=>Bool.rec (R.C b fr st) (R.C a fr st) t) (fun _ _=>none) (fun _=>none) (fun _ _=>none) (fun _=>none) (fun _ _ _ _ _=>none) (fun _ _ _ _ _ _=>none) (fun _=>none) (fun _ _ _=>none) (fun _=>none) (fun _=>none) none
def xV (R:Rec) (id:Nat) (a:RC) (fr:Fr) (st:St):jO:=
 Option.rec none (fun p=>Prod.rec (fun e q=>Ex.rec (some (.normal,q)) (fun id'=>Bool.rec (some (.exit id',q)) (some (.normal,q)) (aaD id' id)) (some (.ret,q)) e) p) (R.C a fr st)
def OF (R:Rec) (live:List Nat) (a:RC) (fr:Fr) (st:St):jO:=ru fr live fun fr=>DK (R.C a fr st) fun fr' st'=>R.C (.loop live a) fr' st'
inductive KC where
 | mk (f:Rec→Fr→St→jO)
def codeF (T:Tab) (c:RC):KC:=
 RC.casesOn c (.mk fun _ fr st=>some (.normal,fr,st)) (fun ops live=>.mk fun R fr st=>tv R ops live fr st) (fun ops hs chk live=>.mk fun R fr st=>uF R ops hs chk live fr st)
  (fun a b=>.mk fun R fr st=>DK (R.C a fr st) fun fr' st'=>R.C b fr' st')
  (fun x a b=>.mk fun R fr st=>RE R x a b fr st) (fun id a=>.mk fun R fr st=>xV R id a fr st) (fun live a=>.mk fun R fr st=>OF R live a fr st) (fun id=>.mk fun _ fr st=>some (.exit id,fr,st))
  (.mk fun _ fr st=>some (.ret,fr,st)) (fun f params assign body live=>.mk fun R fr st=>cT T R (.gK f params assign body live) fr st) (.mk fun _ _ _=>none)
def I2 (T:Tab) (R:Rec) (c:RC) (fr:Fr) (st:St):jO:=KC.rec (fun f=>f R fr st) (codeF T c)
def sQ {α:Type} (as_:List DV):Nat→(Fr→α)→α:=List.rec (motive:=fun _=>Nat→(Fr→α)→α) (fun _ k=>k []) (fun v _ ih i k=>fN i fun i=>ih (abv i) fun t=>k ((i,v)::t)) as_
def DZ (R:Rec) (f:aj) (args:List DV) (st:St) (k:Fr→St→Out):Out:=
 sQ args 0 fun fr0=>Option.rec none (fun p=>Prod.rec (fun e q=>Ex.rec (Prod.rec k q) (fun _=>none) (Prod.rec k q) e) p) (R.C f.body fr0 st)
def DR (st:St) (k:St→Out):Out:=
 St.rec (fun h tks cur _ _=>fN (gf h) fun b=>fN (gf tks) fun tb=>k ⟨h,tks,cur,b,tb⟩) st
def zq (st:St) (fr:Fr) (r:fa) (k:DV→Out):Out:=
 fa.rec (fun n=>wi fr n k) (fun a n ag=>wi fr a fun p=>q8 (ED n ag p st) fun v _=>k v) r
def sx (st:St) (fr:Fr) (rs:List fa):(List DV→Out)→Out:=
 List.rec (motive:=fun _=>(List DV→Out)→Out) (fun k=>k []) (fun r _ ih k=>zq st fr r fun v=>ih fun t=>k (v::t)) rs
def Jk (st:St) (fr:Fr) (rs:List fa) (k:DV→Out):Out:=
 sx st fr rs fun vs=>List.rec (k (.tuple vs)) (fun v t _=>List.rec (k v) (fun _ _ _=>k (.tuple vs)) t) vs
def Gi (st0 st:St) (v:DV) (k:DV→Out):Out:=
 (fun (gen:Out)=>elA v (fun b=>k (.bool b)) (fun a b=>k (.int a b)) (fun s=>k (.str s)) (fun _ _=>gen) (fun c=>k (.bW c))
  (fun tag n tk nn xs=>Tk.rec (k (.list tag n .no nn xs)) (k (.list tag n .tight nn xs)) (fun _ _=>k (.list tag n .no nn xs)) tk) (fun _ _ _ _ _ _=>gen) (fun _=>gen) (fun _ _ _=>gen) (fun _=>gen) (fun _=>gen) gen)
  (Option.rec none (fun v=>fD v k) (aV st0 st v))
theorem yJ (st0 st:St) (v:DV) (k:DV→Out):Gi st0 st v k=match aV st0 st v with | some v=>k v | none=>none:=by
 have gen:(Option.rec none (fun v=>fD v k) (aV st0 st v):Out)=match aV st0 st v with | some v=>k v | none=>none:=by
  cases aV st0 st v<;>simp
 cases v<;>first | exact gen | rfl | skip
 rename_i tag n tk nn xs;cases tk<;>rfl
def EX (st0 st:St) (vs:List DV):(List DV→Out)→Out:=
 List.rec (motive:=fun _=>(List DV→Out)→Out) (fun k=>k []) (fun v _ ih k=>Gi st0 st v fun v=>ih fun t=>k (v::t)) vs
theorem Dm (st0 st:St) (vs:List DV) (k:List DV→Out):EX st0 st vs k=match cJ st0 st vs with | some vs=>k vs | none=>none:=by
 induction vs generalizing k with
 | nil=>rfl
 | cons v r ih=>
   refine(yJ st0 st v fun v=>EX st0 st r fun t=>k (v::t)).trans ?_;simp only[cJ]
   cases aV st0 st v with
   | none=>rfl
   | some a=>
     refine(ih _).trans ?_;cases cJ st0 st r<;>rfl
def Cn (st0 st:St) (v:DV) (k:DV→Out):Out:=
 (fun (gen:Out)=>elA v (fun _=>gen) (fun _ _=>gen) (fun _=>gen) (fun _ _=>gen) (fun _=>gen) (fun _ _ _ _ _=>gen) (fun _ _ _ _ _ _=>gen) (fun _=>gen) (fun _ _ _=>gen) (fun vs=>EX st0 st vs fun vs=>k (.agg vs)) (fun _=>gen) gen) (Gi st0 st v k)
theorem zP (st0 st:St) (v:DV) (k:DV→Out):Cn st0 st v k=match bP st0 st v with | some v=>k v | none=>none:=by
 have other:(∀ vs,v≠.agg vs)→Cn st0 st v k=Gi st0 st v k∧bP st0 st v=aV st0 st v:=by
  intro h;cases v<;>first | exact⟨rfl,rfl⟩ | exact absurd rfl (h _)
 by_cases h:∃ vs,v=.agg vs
 · obtain⟨vs,rfl⟩:=h;refine(Dm st0 st vs fun vs=>k (.agg vs)).trans ?_;simp only[bP];cases cJ st0 st vs<;>rfl
 · obtain⟨h1,h2⟩:=other fun vs e=>h ⟨vs,e⟩;rw[h1,h2];exact yJ st0 st v k
def DW (st0 st:St) (vs:List DV):(List DV→Out)→Out:=
 List.rec (motive:=fun _=>(List DV→Out)→Out) (fun k=>k []) (fun v _ ih k=>Cn st0 st v fun v=>ih fun t=>k (v::t)) vs
theorem Cy (st0 st:St) (vs:List DV) (k:List DV→Out):DW st0 st vs k=match c5 st0 st vs with | some vs=>k vs | none=>none:=by
 induction vs generalizing k with
 | nil=>rfl
 | cons v r ih=>
   refine(zP st0 st v fun v=>DW st0 st r fun t=>k (v::t)).trans ?_;simp only[c5]
   cases bP st0 st v with
   | none=>rfl
   | some a=>
     refine(ih _).trans ?_;cases c5 st0 st r<;>rfl
def Hk (st0 st:St) (v:DV) (k:DV→Out):Out:=
 (fun (gen:Out)=>elA v (fun _=>gen) (fun _ _=>gen) (fun _=>gen) (fun _ _=>gen) (fun _=>gen) (fun _ _ _ _ _=>gen) (fun _ _ _ _ _ _=>gen) (fun _=>gen) (fun _ _ _=>gen) (fun _=>gen) (fun vs=>DW st0 st vs fun vs=>k (.tuple vs)) gen) (Cn st0 st v k)
theorem F6 (st0 st:St) (v:DV) (k:DV→Out):Hk st0 st v k=match bB st0 st v with | some v=>k v | none=>none:=by
 have other:(∀ vs,v≠.tuple vs)→Hk st0 st v k=Cn st0 st v k∧bB st0 st v=bP st0 st v:=by
  intro h;cases v<;>first | exact⟨rfl,rfl⟩ | exact absurd rfl (h _)
 by_cases h:∃ vs,v=.tuple vs
 · obtain⟨vs,rfl⟩:=h;refine(Cy st0 st vs fun vs=>k (.tuple vs)).trans ?_;simp only[bB];cases c5 st0 st vs<;>rfl
 · obtain⟨h1,h2⟩:=other fun vs e=>h ⟨vs,e⟩;rw[h1,h2];exact zP st0 st v k
def Kx (v u:DV):Bool:=
 (fun (gen:Bool)=>elA v (fun a=>elA u (fun b=>Bool.rec (HW b) b a) (fun _ _=>false) (fun _=>false) (fun _ _=>false) (fun _=>false) (fun _ _ _ _ _=>false) (fun _ _ _ _ _ _=>false) (fun _=>false) (fun _ _ _=>false) (fun _=>false) (fun _=>false) false)
  (fun k a=>elA u (fun _=>false) (fun k' b=>jQ (BT k k') (iEq a b)) (fun _=>false) (fun _ _=>false) (fun _=>false) (fun _ _ _ _ _=>false) (fun _ _ _ _ _ _=>false) (fun _=>false) (fun _ _ _=>false) (fun _=>false) (fun _=>false) false)
  (fun _=>gen) (fun b o=>elA u (fun _=>false) (fun _ _=>false) (fun _=>false) (fun b' o'=>jQ (aaD b b') (aaD o o')) (fun _=>false) (fun _ _ _ _ _=>false) (fun _ _ _ _ _ _=>false) (fun _=>false) (fun _ _ _=>false) (fun _=>false) (fun _=>false) false)
  (fun _=>gen) (fun _ _ _ _ _=>gen) (fun _ _ _ _ _ _=>gen) (fun _=>gen) (fun _ _ _=>gen) (fun _=>gen) (fun _=>gen) gen) (DV.beq v u)
theorem HU (v u:DV):Kx v u=DV.beq v u:=by
 cases v<;>try rfl
 · cases u<;>try rfl
   rename_i a b;cases a<;>cases b<;>rfl
 · cases u<;>try rfl
   rename_i k a k' b;show jQ (BT k k') (iEq a b)=(k==k'&&a==b);rw[il,sV,yn];by_cases h:k=k'<;>simp[h]
 · cases u<;>try rfl
   rename_i b o b' o';show jQ (aaD b b') (aaD o o')=(b==b'&&o==o');rw[il,aaW];simp
def zS (R:Rec) (fr:Fr) (o:ak) (sts:List St) (vs:List Nat):Bool:=
 List.rec true (fun j r _=>jQ (Option.rec false (fun st=>Option.rec false (fun p=>Prod.rec (fun v _=>Option.rec false (fun d=>wi fr d fun u=>Kx v u) o.dst) p) (R.N o fr st)) (kS sts j)) (R.K fr o sts r)) vs
def zy (R:Rec) (fr:Fr) (ops:List ak) (sts:List St) (chk:List (Nat×List Nat)):Bool:=
 List.rec true (fun p r _=>Prod.rec (fun i vs=>jQ (Option.rec false (fun o=>R.K fr o sts vs) (kS ops i)) (R.A fr ops sts r)) p) chk
def wX (T:Tab) (R:Rec) (g:Nat) (args:List DV) (st:St):Out:=
 Option.rec none (fun d=>Def.rec (fun f=>
  Bool.rec (DZ R f args st fun fr st'=>Jk st' fr f.results fun v=>some (v,st'))
   (DR st fun st1=>DZ R f args st1 fun fr st'=>Jk st' fr f.results fun v=>Hk st st' v fun v=>some (v,st)) f.dh)
  (fun p=>p args st) (fun p=>Option.rec none (fun v=>fD v fun v=>some (v,st)) (p args)) d) (T g)
def x5 (T:Tab) (R:Rec):Rec:=⟨I2 T R,zJ R,v5 T R,tE T R,zy R,zS R,wX T R,jm T R⟩
def DU (T:Tab) (n:Nat):Rec:=Nat.rec vp (fun _ R=>x5 T R) n
def iR (T:Tab) (n g:Nat) (args:List DV) (st:St) (v:DV):Bool:=
 Option.rec false (fun p=>Prod.rec (fun u _=>DV.beq u v) p) ((DU T n).F g args st)
end
end Go.D
end
section
namespace Go.D
theorem fu {β:Type} (b:Bool) (k:Option β):ifK b k=if b=true then k else none:=by cases b<;>rfl
theorem FR (op:BinOp) (st:St) (k k':IntKind) (a b:Int):(KI.rec (motive:=fun _=>Out) (fun f=>f st k k' a b) (G7 op))=(nK op (.int k a) (.int k' b)).map fun v=>(v,st):=by
 cases op<;>simp only[G7,kF,nK,jw,sV,xt,s7,Ak,I0,vg,HQ,FQ,HN,yn,DB,su,tB,fu]<;>by_cases h:k=k'<;>simp[h]<;>first | rfl | (cases h:(a==b)<;>simp_all[bne])
theorem HL (op:BinOp) (x y:DV) (st:St) (f:Cv) (hf:∀ k k' a b,f st k k' a b=(nK op (.int k a) (.int k' b)).map fun v=>(v,st)) :
 Qz f op x y st=(nK op x y).map fun v=>(v,st):=by
 cases x<;>try (first | rfl | (cases y<;>rfl))
 · cases y<;>first | rfl | exact hf _ _ _ _
 · exact tB _ _
theorem Au (st:St) (b:Nat) (k:CK→List DV→Out):sN st b k=match st.cells b with | some (g,vs)=>k g vs | none=>none:=by
 unfold sN St.cells;rw[gn]
 cases st.heap[b]? with
 | none=>rfl
 | some o=>cases o<;>rfl
theorem mh (vs:List DV) (off n:Nat) (ag:Bool) (st:St):oF vs off n ag st=(takeN vs off n ag).map fun v=>(v,st):=by
 unfold oF takeN;cases ag
 · simp only[gn,Fe];show _=Option.map _ (vs[off]?);cases vs[off]? <;> rfl
 · simp only[fu,vm,oo,fF,Nat.ble_eq,if_true];show (if off+n≤vs.length then _ else none)=_;split<;>rfl
theorem vX (n:Nat) (ag:Bool) (v:DV) (st:St):ED n ag v st=(c7 st n ag v).map fun v=>(v,st):=by
 cases v<;>try rfl
 · rename_i b off;show sN st b _=_;rw[Au];simp only[c7]
   cases st.cells b with
   | none=>rfl
   | some p=>exact mh _ _ _ _ _
 · exact mh _ _ _ _ _
theorem kX {β:Type} (v:DV) (k:List DV→β):l3 v k=k v.leaves:=by cases v<;>rfl
theorem pU (vs:List DV):n5 vs=vs.all DV.bp:=by
 induction vs with
 | nil=>rfl
 | cons v t ih=>show jQ v.bp (n5 t)=_;rw[il,ih];simp
theorem xu {α:Type} (vs:List DV) (off:Nat) (news:List DV) (k:List DV→α):sA vs off news k=k (cP vs off news):=by
 unfold sA cP;rw[vm,jl,jl,oo,fF,aas];rfl
theorem AN (n:Nat) (p v:DV) (st:St):DE n p v st=(kU st n p v).map fun s=>(.undef,s):=by
 cases p<;>try rfl
 rename_i b off;obtain⟨h,tk,cur,base,tb⟩:=st;simp only[kU,St.ll,St.cells];show (Option.rec none _ (kS h b):Out)=_;rw[gn]
 cases h[b]? with
 | none=>rfl
 | some o=>
   cases o<;>try rfl
   rename_i g vs;show l3 v _=_;rw[kX,fu,xu,yy];simp only[il,aac,Nat.ble_eq,Nat.beq_eq,fF,pU];by_cases hw:g.wr=true
   · rw[if_pos hw];show (if g.wr=true∧base≤b∧v.leaves.length=n∧off+n≤vs.length∧v.leaves.all DV.bp=true then _ else none)=_;by_cases hc:base≤b∧v.leaves.length=n∧off+n≤vs.length∧v.leaves.all DV.bp=true
     · rw[if_pos ⟨hw,hc⟩];simp only;rw[if_pos hc];rfl
     · rw[if_neg (fun h=>hc h.2)];simp only;rw[if_neg hc];rfl
   · rw[if_neg hw,if_neg (fun h=>hw h.1)];rfl
theorem pC (st:St) (o:HO) (k:Nat→St→Out):zv st o k=k st.heap.length (st.push o):=by
 obtain⟨h,tk,cur,base,tb⟩:=st;refine(kE (gf h) fun n=>ow h [o] fun h'=>k n ⟨h',tk,cur,base,tb⟩).trans ?_;rw[jl,fF];rfl
theorem mM (i:Int):tK i=i.toNat:=by cases i<;>rfl
theorem G0 {β:Type} (xs:List β) (st:St):G6 xs st=some (.int .i64 xs.length,st):=by
 unfold G6;rw[kE,fF];rfl
theorem AV (n:Nat) (x i:X) (fr:Fr) (st:St):CQ n (x.ev fr) (i.ev fr) st=an st fr (.aY n x i):=by
 simp only[an];cases i.ev fr<;>try (cases x.ev fr<;>rfl)
 rename_i k j;show ifK (iLe (.ofNat 0) j) _=_;rw[fu,su];cases x.ev fr<;>try (show (if _ then none else none)=_;split<;>rfl)
 · rename_i tag n' tk nn xs;show (if _ then ifK (aaD n' n) _ else none)=_;simp only[fu,Nat.beq_eq,gn,mM,decide_eq_true_eq,aaI,Int.natCast_zero];by_cases h1:0≤j<;>by_cases h2:n'=n<;>simp only[h1,h2,if_true,if_false,and_true,and_false]
   cases xs[j.toNat]? with
   | none=>rfl
   | some v=>exact kX _ _
 · rename_i n' ag b off len cap;show (if _ then ifK (aaD n' n) _ else none)=_;simp only[fu,Nat.beq_eq,mM,decide_eq_true_eq,aaI,Int.natCast_zero,DB,kE];by_cases h1:0≤j<;>by_cases h2:n'=n<;>simp only[h1,h2,if_true,if_false,true_and,and_false,false_and]
   rfl
theorem Cb (n m:Nat) (ag:Bool) (bytes:Nat) (news:List DV) (tag n':Nat) (tk:Tk) (nn:Bool) (xs:List DV) (y:DV) (st:St) (h:cd st n y=some (m,news)) :
 Je n m ag bytes news tag n' tk nn xs st=bL st n ag bytes (.list tag n' tk nn xs) y:=by
 simp only[bL,h];obtain⟨hp,tks,cur,base,tb⟩:=st
 cases m with
 | zero=>rfl
 | succ m=>
   rw[if_neg (by omega)];show (if _ then none else _)=_;split
   · rfl
   · rw[Ji,jl]
     have hfresh:∀ (zs:List DV),fN (gf tks) (fun l=>ow tks [0] fun tks'=>(some (DV.list cur n (.own l 0) true zs,(⟨hp,tks',cur,base,tb⟩:St)):Out))=some (.list cur n (.own tks.length 0) true zs,⟨hp,tks++[0],cur,base,tb⟩):=by
      intro zs;rw[kE,jl,fF]
     cases nn
     · exact hfresh _
     · cases tk with
       | no=>rfl
       | tight=>exact hfresh _
       | own t s=>
         show (if tb≤t∧tks[t]? = some s then _ else none)=if tb≤t∧tks[t]? = some s then _ else none
         split
         · rw[kE,yy]
         · rfl
theorem xm (n:Nat) (ag:Bool) (bytes:Nat) (x y:DV) (st:St):zH n ag bytes x y st=bL st n ag bytes x y:=by
 cases x<;>try (simp only[bL];cases cd st n y<;>rfl)
 · rename_i tag n' tk nn xs;show (Option.rec none _ (cd st n y):Out)=_
   cases h:cd st n y with
   | none=>simp only[bL,h]
   | some p=>
     obtain⟨m,news⟩:=p;exact Cb _ _ _ _ _ _ _ _ _ _ _ _ h
 · exact(ee _ _).trans (ee _ _)
theorem yt (fr:Fr) (parts:List (Nat×Nat×X)) (k:List (Nat×Nat×DV)→Out):tg fr parts k=k (parts.map fun (o,n,x)=>(o,n,x.ev fr)):=by
 induction parts generalizing k with
 | nil=>rfl
 | cons p r ih=>
   refine(aM fr p.2.2 fun v=>tg fr r fun t=>k ((p.1,p.2.1,v)::t)).trans ?_;exact ih _
def F5:ROp→Bool
 | .call .. | .bz .. | .dp .. => true
 | _=>false
def TY (op:ROp):KF→Prop
 | .mk f=>(∀ fr st,f fr st=an st fr op)∧F5 op=false
 | .call g args=>op=.call g args
 | .bz g args=>op=.bz g args
 | .dp g args=>op=.dp g args
theorem CB (op:ROp):TY op (zQ op):=by
 cases op
 case call=>rfl
 case bz=>rfl
 case dp=>rfl
 case mv x=>exact⟨fun fr st=>aM _ _ _,rfl⟩
 case pick c a b=>
  refine⟨fun fr st=>(aM _ _ _).trans ?_,rfl⟩;simp only[an];cases c.ev fr<;>try rfl
  rename_i t;cases t
  · exact aM _ _ _
  · exact aM _ _ _
 case alloc zs=>exact⟨fun fr st=>pC _ _ _,rfl⟩
 case load n ag x=>exact⟨fun fr st=>(aM _ _ _).trans (vX _ _ _ _),rfl⟩
 case store n x v=>exact⟨fun fr st=>(aM _ _ _).trans ((aM _ _ _).trans (AN _ _ _ _)),rfl⟩
 case bin op x y=>
  have h:=fun st k k' a b=>FR op st k k' a b;unfold zQ;dsimp only
  revert h
  generalize G7 op=ki
  cases ki with
  | mk f=>exact fun h=>⟨fun fr st=>(aM _ _ _).trans ((aM _ _ _).trans (HL _ _ _ _ _ fun k k' a b=>h st k k' a b)),rfl⟩
 case i2i k x=>
  refine⟨fun fr st=>(aM _ _ _).trans ?_,rfl⟩;simp only[an];cases x.ev fr<;>try rfl
  show xt _ _ _=_;unfold xt;rw[I0,vg]
 case un op x=>
  cases op
  case not=>
   refine⟨fun fr st=>(aM _ _ _).trans ?_,rfl⟩;simp only[an];cases x.ev fr<;>try rfl
   show qe _ _=_;rw[s7,Ak];rfl
  all_goals exact⟨fun fr st=>yM _,rfl⟩
 case gU off x=>
  refine⟨fun fr st=>(aM _ _ _).trans ?_,rfl⟩;simp only[an];cases x.ev fr<;>try rfl
  · rename_i b o;exact kE (Nat.add o off) fun o=>(some (DV.ptr b o,st):Out)
  · show ifK _ _=_;rw[fu,oo,fF];simp only[Nat.ble_eq]
 case aY n x i=>exact⟨fun fr st=>(aM _ _ _).trans ((aM _ _ _).trans (AV _ _ _ _ _)),rfl⟩
 case index x i=>
  refine⟨fun fr st=>(aM _ _ _).trans ((aM _ _ _).trans ?_),rfl⟩;simp only[an];cases x.ev fr<;>try (cases i.ev fr<;>rfl)
  cases i.ev fr<;>try rfl
  show ifK _ _=_;rw[fu,su,gn,mM];simp only[decide_eq_true_eq];show (if (0:Int)≤_ then _ else none)=_;split
  · rename_i s _ j _
    cases s[j.toNat]? with
    | none=>rfl
    | some b=>exact kE _ _
  · rfl
 case extract x i=>
  refine⟨fun fr st=>(aM _ _ _).trans ?_,rfl⟩;simp only[an];cases x.ev fr<;>try rfl
  rename_i vs;show Fe st (kS vs i)=_;rw[gn];show Fe st vs[i]? = Option.map _ vs[i]?;cases vs[i]? <;> rfl
 case iface t x=>exact⟨fun fr st=>aM _ _ _,rfl⟩
 case gD g a b=>exact⟨fun fr st=>(lO _ _ _).trans (lO _ _ _),rfl⟩
 case len k x=>
  cases k
  case map=>
   refine⟨fun fr st=>(tB _ _).trans ?_,rfl⟩;cases h:x.ev fr<;>simp only[an,h,abw,abg]
   rename_i b
   cases st.heap[b]? with
   | none=>rfl
   | some o=>cases o<;>rfl
  all_goals
   refine⟨fun fr st=>(aM _ _ _).trans ?_,rfl⟩;simp only[an];cases x.ev fr<;>first | rfl | exact G0 _ _
 case dW ty bytes x y=>exact⟨fun fr st=>(aM _ _ _).trans ((aM _ _ _).trans ((ee _ _).trans (ee _ _))),rfl⟩
 case pN ty x l=>exact⟨fun fr st=>(aM _ _ _).trans ((aM _ _ _).trans (lX _ _)),rfl⟩
 case gR x=>exact⟨fun fr st=>(aM _ _ _).trans (lX _ _),rfl⟩
 case conv ty n x=>exact⟨fun fr st=>(aM _ _ _).trans (lX _ _),rfl⟩
 case gX ty zs=>exact⟨fun fr st=>pC _ _ _,rfl⟩
 case gl n ag bytes x y=>exact⟨fun fr st=>(aM _ _ _).trans ((aM _ _ _).trans ((ee _ _).trans (ee _ _))),rfl⟩
 case append n ag bytes x y=>exact⟨fun fr st=>(aM _ _ _).trans ((aM _ _ _).trans (xm _ _ _ _ _ _)),rfl⟩
 case eq k neg x y=>
  refine⟨fun fr st=>(aM _ _ _).trans ((aM _ _ _).trans ?_),rfl⟩;simp only[an]
  cases eqD k (x.ev fr) (y.ev fr) with
  | none=>rfl
  | some b=>exact s7 _ _
 case field n ag off x=>
  refine⟨fun fr st=>(aM _ _ _).trans ?_,rfl⟩;simp only[an];cases x.ev fr<;>try rfl
  exact mh _ _ _ _ _
 case slice str n x lo hi mx=>exact⟨fun fr st=>(aM _ _ _).trans ((xL _ _ _).trans ((xL _ _ _).trans ((xL _ _ _).trans (lX _ _)))),rfl⟩
 case build zs parts=>exact⟨fun fr st=>(yt _ _ _).trans ((lX _ _).trans (Option.map_map ..)),rfl⟩
 case lookup ks zero x i ok=>
  refine⟨fun fr st=>(aM _ _ _).trans ((aM _ _ _).trans ?_),rfl⟩;rw[fu,xI];rfl
 case copy n x y=>exact⟨fun fr st=>(aM _ _ _).trans ((aM _ _ _).trans (ee _ _)),rfl⟩
 case clear n zs x=>exact⟨fun fr st=>(aM _ _ _).trans (ee _ _),rfl⟩
 case box n x=>
  refine⟨fun fr st=>(aM _ _ _).trans ?_,rfl⟩;rw[kX,fu,pC];simp only[il,aac,Nat.beq_eq,fF,pU,an]
 case iI ks m k v=>
  refine⟨fun fr st=>(aM _ _ _).trans ((aM _ _ _).trans ((aM _ _ _).trans ?_)),rfl⟩;rw[fu,ee];rfl
 case aX x=>
  refine⟨fun fr st=>(aM _ _ _).trans ?_,rfl⟩;simp only[an];cases x.ev fr<;>rfl
 case s2b x=>
  refine⟨fun fr st=>(aM _ _ _).trans ?_,rfl⟩;simp only[an];cases x.ev fr<;>try rfl
  exact DP (uk IP) _ _
 case cE n ag bytes zs len cap=>exact⟨fun fr st=>ee _ _,rfl⟩
 case s2h x=>exact⟨fun fr st=>ee _ _,rfl⟩
 case nE n ag zs len parts=>exact⟨fun fr st=>(BL _ _ _ _).trans (ee _ _),rfl⟩
 all_goals exact⟨fun fr st=>yM _,rfl⟩
theorem n7 {β:Type} (r:Out) (k:DV→St→Option β):q8 r k=match r with | some (v,st)=>k v st | none=>none:=by
 rcases r with _|⟨v,st⟩<;>rfl
theorem BA (T:Tab) (R:Rec) (v:DV) (as_:List DV) (st:St) :
 Ef T R v as_ st=match v with | .fn g first captured=>if al T g then R.F g (first++as_++captured) st else none | _=>none:=by
 cases v<;>try rfl
 show ifK _ (ow _ _ _)=_;rw[fu,jl,jl,← aas]
theorem DH (T:Tab) (R:Rec) (op:ROp) (fr:Fr) (st:St):opK T R op fr st =
 match op with
  | .call g args=>R.F g (args.map (X.ev fr)) st
  | .bz f args=>R.V (f.ev fr) (args.map (X.ev fr)) st
  | .dp f args=>
    match f.ev fr with
    | .fn g first captured=>if al T g then R.F g (first++args.map (X.ev fr)++captured) st else none
    | _=>none
  | op=>an st fr op:=by
 have h:=CB op;unfold opK
 revert h
 generalize zQ op=kf
 cases kf with
 | mk f=>
   intro h;obtain⟨h1,h2⟩:=h;show f fr st=_;rw[h1];cases op<;>first | rfl | cases h2
 | call g args=>
   intro h;cases h;exact lO _ _ _
 | bz g args=>
   intro h;cases h;exact(lO _ _ _).trans (aM _ _ _)
 | dp g args=>
   intro h;cases h;exact(lO _ _ _).trans ((aM _ _ _).trans (BA _ _ _ _ _))
theorem xJ (T:Tab) (R:Rec):tE T R=dX T R:=by
 funext o fr st
 obtain⟨d,op,g⟩:=o
 cases g with
 | none=>
   refine(DH T R op fr st).trans ?_;cases op<;>rfl
 | some g=>
   unfold tE dX;dsimp only
   cases eb fr (some g) with
   | none=>rfl
   | some b=>
     cases b
     · rfl
     · refine(DH T R op fr st).trans ?_;cases op<;>rfl
theorem xP (T:Tab) (R:Rec):zJ R=jh T R:=by
 funext ops fr st
 cases ops with
 | nil=>rfl
 | cons o r=>
   show q8 (R.N o fr st) (fun v st'=>Dd fr o.dst v fun fr'=>R.O r fr' st')=_;rw[n7];simp only[jh,zK];cases R.N o fr st<;>rfl
theorem uB (T:Tab) (R:Rec):v5 T R=fK T R:=by
 funext ops fr st sts
 cases ops with
 | nil=>rfl
 | cons o r=>
   show q8 (R.N o fr st) (fun v st'=>Dd fr o.dst v fun fr'=>Bool.rec (R.S r fr' st sts) (R.S r fr' st' (st'::sts)) (aH (al T) o.op))=_;rw[n7];simp only[fK,zK];cases aH (al T) o.op<;>simp<;>cases R.N o fr st<;>rfl
theorem tX (r:jO) (k:Fr→St→jO):DK r k=match r with | some (.normal,fr,st)=>k fr st | r=>r:=by
 rcases r with _|⟨e,fr,st⟩
 · rfl
 · cases e<;>rfl
theorem xd (R:Rec) (ops:List ak) (live:List Nat) (fr:Fr) (st:St):tv R ops live fr st=match R.O ops fr st with | some (fr',st')=>some (.normal,fr'.bG live,st') | none=>none:=by
 unfold tv
 cases R.O ops fr st with
 | none=>rfl
 | some p=>exact o5 _ _ _
theorem lK (R:Rec) (ops:List ak) (chk:List (Nat×List Nat)) (live:List Nat) (fr:Fr) (st:St):iV R ops chk live fr st =
 match R.S ops fr st [st] with
  | some (fr',sts)=>if R.A fr' ops sts.reverse chk then (match sts with | st'::_=>some (.normal,fr'.bG live,st') | []=>none) else none
  | none=>none:=by
 unfold iV
 cases R.S ops fr st [st] with
 | none=>rfl
 | some p=>
   obtain⟨fr',sts⟩:=p;show ifK _ _=_;rw[fu]
   cases sts with
   | nil=>rfl
   | cons s r=>
     have:(List.rec (motive:=fun _=>jO) none (fun st' _ _=>ru fr' live fun fr'=>some (.normal,fr',st')) (s::r))=some (.normal,fr'.bG live,s):=o5 _ _ _;rw[this]
theorem vr (R:Rec) (ops:List ak) (hs:List Nat) (chk:List (Nat×List Nat)) (live:List Nat) (fr:Fr) (st:St):uF R ops hs chk live fr st =
 match gI fr hs st ops with
  | some (st1,ops2)=>
    match R.S ops2 fr st1 [st1] with
    | some (fr',sts)=>if R.A fr' ops2 sts.reverse chk then (match sts with | st'::_=>some (.normal,fr'.bG live,st') | []=>none) else none
    | none=>none
  | none=>none:=by
 cases hs with
 | nil=>exact lK R ops chk live fr st
 | cons h t=>
   show (Option.rec none _ (gI fr (h::t) st ops):jO)=_
   cases gI fr (h::t) st ops with
   | none=>rfl
   | some p=>
     obtain⟨⟨hp,tks,cur,base,tb⟩,ops2⟩:=p;refine(Ir hp fun h=>iV R ops2 chk live fr ⟨h,tks,cur,base,tb⟩).trans ?_;exact lK _ _ _ _ _ _
theorem BN (R:Rec) (id:Nat) (a:RC) (fr:Fr) (st:St):xV R id a fr st =
 match R.C a fr st with
  | some (.exit id',fr',st')=>if id'=id then some (.normal,fr',st') else some (.exit id',fr',st')
  | r=>r:=by
 unfold xV
 cases R.C a fr st with
 | none=>rfl
 | some p=>
   obtain⟨e,fr',st'⟩:=p
   cases e with
   | normal=>rfl
   | ret=>rfl
   | exit id'=>
     show (Bool.rec (some (.exit id',fr',st')) (some (.normal,fr',st')) (aaD id' id):jO)=if id'=id then _ else _
     by_cases h:id'=id
     · rw[if_pos h,h,show aaD id id=true from Nat.beq_refl id]
     · rw[if_neg h,show aaD id' id=false from by cases e:aaD id' id with | false=>rfl | true=>exact absurd (aaJ e) h]
theorem Cm (T:Tab) (R:Rec):I2 T R=cT T R:=by
 funext c fr st
 cases c with
 | skip=>rfl
 | region ops live=>exact xd R ops live fr st
 | av ops hs chk live=>exact vr R ops hs chk live fr st
 | seq a b=>
   refine(tX _ _).trans ?_;simp only[cT];rfl
 | cond x a b=>
   refine(aM _ _ _).trans ?_;simp only[cT];cases x.ev fr<;>try rfl
   rename_i t;cases t<;>rfl
 | block id a=>exact BN R id a fr st
 | loop live a=>
   refine(o5 _ _ _).trans ((tX _ _).trans ?_);simp only[cT];rfl
 | exit id=>rfl
 | ret=>rfl
 | stuck=>rfl
 | gK f params assign body live=>rfl
theorem wz {α:Type} (as_:List DV) (i:Nat) (k:Fr→α):sQ as_ i k=k (bq as_ i):=by
 induction as_ generalizing i k with
 | nil=>rfl
 | cons v t ih=>
   refine(kE i fun i=>sQ t (abv i) fun t=>k ((i,v)::t)).trans ?_;exact ih _ _
theorem xc (st:St) (fr:Fr) (r:fa) (k:DV→Out):zq st fr r k=match iH st fr r with | some v=>k v | none=>none:=by
 cases r with
 | t n=>exact lF _ _ _
 | cell a n ag=>
   refine(lF _ _ _).trans ((n7 _ _).trans ?_);rw[vX];simp only[iH];cases c7 st n ag (fr.get a)<;>rfl
theorem xK (st:St) (fr:Fr) (rs:List fa) (k:List DV→Out):sx st fr rs k=match eW st fr rs with | some vs=>k vs | none=>none:=by
 induction rs generalizing k with
 | nil=>rfl
 | cons r rs ih=>
   refine(xc st fr r fun v=>sx st fr rs fun t=>k (v::t)).trans ?_;simp only[eW]
   cases iH st fr r with
   | none=>rfl
   | some v=>
     refine(ih _).trans ?_;cases eW st fr rs<;>rfl
theorem yD (st:St) (fr:Fr) (rs:List fa) (k:DV→Out):Jk st fr rs k=match eO st fr rs with | some v=>k v | none=>none:=by
 refine(xK _ _ _ _).trans ?_;unfold eO
 cases eW st fr rs with
 | none=>rfl
 | some vs=>
   cases vs with
   | nil=>rfl
   | cons v t=>cases t<;>rfl
theorem vh (R:Rec) (f:aj) (args:List DV) (st:St) (k:Fr→St→Out):DZ R f args st k =
 match R.C f.body (bq args 0) st with
  | some (.exit _,_,_)=>none
  | some (_,fr,st')=>k fr st'
  | none=>none:=by
 refine(wz _ _ _).trans ?_
 cases R.C f.body (bq args 0) st with
 | none=>rfl
 | some p=>obtain⟨e,fr,st'⟩:=p;cases e<;>rfl
theorem AU (st:St) (k:St→Out):DR st k=k st.enter:=by
 obtain⟨h,tks,cur,base,tb⟩:=st;refine(kE (gf h) fun b=>fN (gf tks) fun tb=>k ⟨h,tks,cur,b,tb⟩).trans ((kE (gf tks) fun tb=>k ⟨h,tks,cur,gf h,tb⟩).trans ?_);rw[fF,fF];rfl
theorem BC (T:Tab) (R:Rec):wX T R=dA T R:=by
 funext g args st
 unfold wX;simp only[dA]
 cases T g with
 | none=>rfl
 | some d=>
   cases d with
   | g9 p=>rfl
   | dy p=>
     show (Option.rec none _ (p args):Out)=Option.map _ (p args);cases p args<;>simp
   | code f=>
     obtain⟨results,body,dh⟩:=f;cases dh
     · refine(vh _ _ _ _ _).trans ?_;dsimp only;rw[if_neg (by simp)];simp only[yD];rcases R.C body (bq args 0) st with _ | ⟨e,fr,st'⟩
       · rfl
       · cases e<;>first | rfl | (simp only;cases eO st' fr results<;>rfl)
     · refine(AU _ _).trans ((vh _ _ _ _ _).trans ?_);dsimp only;rw[if_pos rfl];simp only[yD];rcases R.C body (bq args 0) st.enter with _ | ⟨e,fr,st'⟩
       · rfl
       · have key:∀ (v:DV),(Hk st st' v fun v=>some (v,st))=(bB st st' v).map fun v'=>(v',st):=by
          intro v;rw[F6];cases bB st st' v<;>rfl
         cases e<;>first | rfl | (simp only[key]<;>cases eO st' fr results<;>rfl)
theorem x6 (T:Tab) (R:Rec):zS R=ji T R:=by
 funext fr o sts vs
 cases vs with
 | nil=>rfl
 | cons j r=>
   show jQ (Option.rec false _ (kS sts j)) (R.K fr o sts r)=_;rw[il,gn];simp only[ji]
   cases sts[j]? with
   | none=>rfl
   | some st=>
     simp only
     cases R.N o fr st with
     | none=>rfl
     | some p=>
       obtain⟨v,s'⟩:=p;obtain⟨d,op,g⟩:=o
       cases d with
       | none=>rfl
       | some d=>
         show (wi fr d (fun u=>Kx v u)&&_)=_;rw[lF,HU]
theorem xT (T:Tab) (R:Rec):zy R=ju T R:=by
 funext fr ops sts chk
 cases chk with
 | nil=>rfl
 | cons p r=>
   obtain⟨i,vs⟩:=p;show jQ (Option.rec false _ (kS ops i)) (R.A fr ops sts r)=_;rw[il,gn];simp only[ju];cases ops[i]? <;> rfl
theorem By (T:Tab) (R:Rec):x5 T R=dO T R:=by
 unfold x5 dO;rw[Cm,xP,uB,xJ,BC,xT T R,x6 T R]
theorem vu (T:Tab):∀ n,DU T n=dq T n
 | 0=>rfl
 | n+1=>(By T (DU T n)).trans (by rw[vu T n];rfl)
theorem vj {T:Tab} {n g:Nat} {args:List DV} {st:St} {v:DV} (h:iR T n g args st v=true):∃ st',eB T n g args st=some (v,st'):=by
 unfold iR at h;rw[vu] at h
 cases hr:(dq T n).F g args st with
 | none=>rw[hr] at h;cases h
 | some p=>
   obtain⟨u,st'⟩:=p;rw[hr] at h;have:=DV.beq_eq u v h;subst this;exact⟨st',pE hr⟩
end Go.D
end
section
namespace Go.D
open Go.RowKit
variable {P:Program} {fm:FM}
mutual
def DV.free:DV→Bool
 | .bool _ | .int _ _ | .str _ | .b5 | .bn | .bO | .aL=>true
 | .bW cs=>DV.jN cs
 | .list _ _ tk _ xs=>(match tk with | .own _ _=>false | _=>true)&&DV.jN xs
 | .fn _ a b=>DV.jN a&&DV.jN b
 | .iface _ v=>DV.free v
 | .agg vs | .tuple vs=>DV.jN vs
 | _=>false
def DV.jN:List DV→Bool
 | []=>true
 | v::r=>DV.free v&&DV.jN r
end
theorem dm:∀ {vs:List DV},DV.jN vs=true→∀ i (h:i<vs.length),(vs[i]).free=true
 | [],_,i,h=>by simp at h
 | v::r,hf,i,h=>by
   simp only[DV.jN,aac] at hf
   cases i with
   | zero=>exact hf.1
   | succ i=>exact dm hf.2 i (by simpa using h)
theorem tA {v:DV} (h:v.free=true):∀ x∈v.leaves,x.free=true:=by
 intro x hx;cases v<;>simp only[DV.leaves,List.mem_singleton] at hx<;>try (subst hx;exact h)
 rename_i vs;simp only[DV.free] at h;obtain⟨i,hi,rfl⟩:=aa9 hx;exact dm h i hi
theorem xA {xs:List DV} (h:DV.jN xs=true) (i:Nat) (hi:i<(flat xs).length):((flat xs)[i]).free=true:=by
 have hm:=aar hi;unfold flat at hm;obtain⟨v,hv,hm⟩:=aaH.1 hm;obtain⟨j,hj,rfl⟩:=aa9 hv;exact tA (dm h j hj) _ hm
theorem Rel.wE {G G':Gh} (hro:∀ r i v,G.ro r i=some v→G'.ro r i=some v) {v:DV} {x:Value} (k:Rel fm G v x) (h:v.free=true):Rel fm G' v x:=by
 induction k with
 | undef x=>cases h
 | bool b=>exact .bool b
 | int k n=>exact .int k n
 | str l s hh=>exact .str l s hh
 | ptr b off r hh=>cases h
 | b5=>exact .b5
 | bW cs r off f hr _ hp ih=>
   simp only[DV.free] at h;exact .bW cs r off f (fun i hi=>(hr i hi).imp (hro _ _ _) id) (fun i hi=>ih i hi (dm h i hi)) hp
 | ga tag n tk=>exact .ga tag n tk
 | list tag n tk xs r off cap f hr _ hp hk hl hn ih=>
   simp only[DV.free,aac] at h;refine .list tag n tk xs r off cap f (fun i hi=>hro _ _ _ (hr i hi)) (fun i hi=>ih i hi (xA h.2 i hi)) hp ?_ hl hn
   cases tk with
   | no=>trivial
   | tight=>exact hk
   | own a b=>simp at h
 | hsl n ag b off len cap r c hh hc=>cases h
 | map b r hh=>cases h
 | bn=>exact .bn
 | fn g first captured f fs cs hh h1 h2 _ _ ih1 ih2=>
   simp only[DV.free,aac] at h;exact .fn g first captured f fs cs hh h1 h2 (fun i hi=>ih1 i hi (dm h.1 i hi)) (fun i hi=>ih2 i hi (dm h.2 i hi))
 | yield l r hh=>cases h
 | bO=>exact .bO
 | iface t v x _ ih=>exact .iface t v x (ih h)
 | aL=>exact .aL
 | agg vs cs hl _ ih=>
   simp only[DV.free] at h;exact .agg vs cs hl (fun i hi=>ih i hi (dm h i hi))
 | tuple vs cs hl _ ih=>
   simp only[DV.free] at h;exact .tuple vs cs hl (fun i hi=>ih i hi (dm h i hi))
def Gh.bare (G:Gh) (w:World):Gh:={ gh0 w with ro:=G.ro }
theorem Sim.bare {CR CR':Nat→RC→Code→Prop} {G:Gh} {w0 w:World} {st:St} (h:Sim fm CR G w0 st w):Sim fm CR' (G.bare w) w st0 w where
 bU:=fun b r h=>by cases h
 bQ:=fun b b' o o' r h=>by simp[st0] at h
 obj:=fun b o h=>by simp[st0] at h
 ro:=h.ro
 dj:=fun r i v b o _ h=>by simp[st0] at h
 tok:=fun t s h=>by simp[st0] at h
 bw:=fun t t' s s' x x' h=>by simp[st0] at h
 bt:=fun t s x h=>by cases h
 dfr:=fun r h=>h.elim
 lps:=fun r h=>h.elim
 aG:=aai _
 below:=Below.refl _ w
 base:=rfl
 aQ:=rfl
 bA:=Nat.zero_le _
 bj:=fun b o h=>by cases h
 env:=h.rI
def rj (l:List (List DV×DV)) (as_:List DV):Option DV:=
 match l with
 | []=>none
 | (a,v)::r=>if DV.ly a as_ then some v else rj r as_
def Ran (T:Tab) (g:Nat) (as_:List DV) (v:DV):Prop:=DV.jN as_=true∧v.free=true∧∃ n st',eB T n g as_ st0=some (v,st')
theorem xx {T:Tab} {n g:Nat} {as_:List DV} {v:DV} (h1:DV.jN as_=true) (h2:v.free=true) (h:iR T n g as_ st0 v=true):Ran T g as_ v:=by
 obtain⟨st',h⟩:=vj h;exact⟨h1,h2,n,st',h⟩
theorem Gu {T T2:Tab} (hT:dn P fm T) (hm:P.follows .mixedOrders=true) {g:Nat} {f:FuncId} (hf:fm g=some f):∀ (l:List (List DV×DV)),(∀ p∈l,Ran T g p.1 p.2)→eo P fm T2 (.dy (rj l)) f:=by
 intro l hl;show fE P fm T2 _ f;intro G w0 st w args args' v st' hs ha hp;simp only[aad] at hp;obtain⟨u,hu,hp⟩:=hp;cases hp
 have key:∃ p∈l,args=p.1∧v=p.2:=by
  clear hl
  induction l with
  | nil=>simp[rj] at hu
  | cons p r ih=>
    obtain⟨a,x⟩:=p;simp only[rj] at hu;split at hu
    · rename_i hb;injection hu with hu;exact⟨(a,x),by simp,(DV.jJ _ _ hb).symm,hu.symm⟩
    · obtain⟨p,h1,h2⟩:=ih hu;exact⟨p,by simp[h1],h2⟩
 obtain⟨p,hpl,rfl,rfl⟩:=key;obtain⟨h1,h2,n,st',hrun⟩:=hl p hpl;have hs0:bT P fm T (G.bare w) w st0 w:=hs.bare
 have ha0:cN fm (G.bare w) p.1 args':=by
  refine⟨ha.1,fun i hi=>?_⟩;have hr:Rel fm G (p.1[i]) (args'.getD i undef):=ha.2 i hi;exact Rel.wE (G:=G) (G':=G.bare w) (fun _ _ _ h=>h) hr (dm h1 i hi)
 have hfin:∀ x w',(∃ G',(G.bare w).le G'∧bT P fm T G' w st' w'∧Rel fm G' p.2 x)→∃ G',G.le G'∧bT P fm T2 G' w0 st w'∧Rel fm G' p.2 x:=by
  rintro x w' ⟨G1,g1,g2,g3⟩
  have hb:Below w.heap.size w w':=by
   have:=g2.below;rw[g1.floor] at this;exact this
  refine⟨G.shut w w',Gh.ix hs w',hs.shut hb,g3.wE (fun r i u hu=>?_) h2⟩;show (if _ then _ else _)=_;by_cases e:r<w.heap.size
  · rw[if_pos e];have:=g1.eV r i e;rw[this] at hu;exact hu
  · rw[if_neg e];obtain⟨cs,t,fz,e1,e2⟩:=g2.ro r i u hu;rw[e1];exact e2
 have hfn:=((lR hT hm n).fn hf hrun hs0 ha0).1;rcases hfn with ⟨f',q1,q2⟩ | ⟨x,w',q1,q2⟩
 · refine .inl ⟨f',q1,Go.CallsIn.mono q2 ?_⟩;rintro e w' ⟨x,rfl,hx⟩;exact⟨x,rfl,hfin x w' hx⟩
 · exact .inr ⟨x,w',q1,hfin x w' q2⟩
end Go.D
end
section
namespace Go.D
def Ev (p:Nat→Prop):Prop:=∃ n,∀ m,n≤m→p m
theorem Ev.all {p:Nat→Prop} (h:∀ m,p m):Ev p:=⟨0,fun m _=>h m⟩
theorem Ev.two {p q:Nat→Prop} (h:Ev p) (k:Ev q):Ev fun m=>p m∧q m:=by
 obtain⟨a,ha⟩:=h;obtain⟨b,hb⟩:=k;exact⟨max a b,fun m hm=>⟨ha m (by omega),hb m (by omega)⟩⟩
theorem Ev.mono {p q:Nat→Prop} (h:Ev p) (k:∀ m,p m→q m):Ev q:=by
 obtain⟨a,ha⟩:=h;exact⟨a,fun m hm=>k m (ha m hm)⟩
structure Conv (ch:Nat→Rec) (L:Rec):Prop where
 C:∀ c fr st r,L.C c fr st=some r→Ev fun m=>(ch m).C c fr st=some r
 O:∀ a fr st r,L.O a fr st=some r→Ev fun m=>(ch m).O a fr st=some r
 S:∀ a fr st b r,L.S a fr st b=some r→Ev fun m=>(ch m).S a fr st b=some r
 N:∀ a fr st r,L.N a fr st=some r→Ev fun m=>(ch m).N a fr st=some r
 A:∀ a b c d,L.A a b c d=true→Ev fun m=>(ch m).A a b c d=true
 K:∀ a b c d,L.K a b c d=true→Ev fun m=>(ch m).K a b c d=true
 F:∀ a b c r,L.F a b c=some r→Ev fun m=>(ch m).F a b c=some r
 V:∀ a b c r,L.V a b c=some r→Ev fun m=>(ch m).V a b c=some r
theorem K6 {T:Tab} {ch:Nat→Rec} {L:Rec} (hc:Conv ch L) (c:RC) (fr:Fr) (st:St) (r:Ex×Fr×St) (h:cT T L c fr st=some r):Ev fun m=>cT T (ch m) c fr st=some r:=by
 cases c with
 | skip=>exact .all fun m=>h
 | exit id=>exact .all fun m=>h
 | ret=>exact .all fun m=>h
 | stuck=>simp[cT] at h
 | region ops live=>
   simp only[cT] at h ⊢
   cases e:L.O ops fr st with
   | none=>rw[e] at h;cases h
   | some p=>
     rw[e] at h;exact(hc.O _ _ _ _ e).mono fun m k=>by rw[k];exact h
 | av ops hs chk live=>
   simp only[cT] at h ⊢
   cases e0:gI fr hs st ops with
   | none=>rw[e0] at h;cases h
   | some q=>
     obtain⟨st1,ops2⟩:=q;rw[e0] at h;simp only at h ⊢
     cases e:L.S ops2 fr st1 [st1] with
     | none=>rw[e] at h;cases h
     | some p=>
       obtain⟨fr',sts⟩:=p;rw[e] at h;simp only at h;split at h
       · rename_i ha;refine((hc.S _ _ _ _ _ e).two (hc.A _ _ _ _ ha)).mono fun m k=>?_;rw[k.1];simp only[k.2,if_true];exact h
       · cases h
 | seq a b=>
   simp only[cT] at h ⊢
   cases e:L.C a fr st with
   | none=>rw[e] at h;cases h
   | some p=>
     obtain⟨ex,fr',st'⟩:=p;rw[e] at h
     cases ex with
     | normal=>exact((hc.C _ _ _ _ e).two (hc.C _ _ _ _ h)).mono fun m k=>by rw[k.1];exact k.2
     | exit id=>exact(hc.C _ _ _ _ e).mono fun m k=>by rw[k];exact h
     | ret=>exact(hc.C _ _ _ _ e).mono fun m k=>by rw[k];exact h
 | cond x a b=>
   simp only[cT] at h ⊢;generalize x.ev fr=y at h ⊢;cases y<;>try (cases h;done)
   rename_i v
   cases v with
   | true=>exact hc.C _ _ _ _ h
   | false=>exact hc.C _ _ _ _ h
 | block id a=>
   simp only[cT] at h ⊢
   cases e:L.C a fr st with
   | none=>rw[e] at h;cases h
   | some p=>rw[e] at h;exact(hc.C _ _ _ _ e).mono fun m k=>by rw[k];exact h
 | loop live a=>
   simp only[cT] at h ⊢
   cases e:L.C a (fr.bG live) st with
   | none=>rw[e] at h;cases h
   | some p=>
     obtain⟨ex,fr',st'⟩:=p;rw[e] at h
     cases ex with
     | normal=>exact((hc.C _ _ _ _ e).two (hc.C _ _ _ _ h)).mono fun m k=>by rw[k.1];exact k.2
     | exit id=>exact(hc.C _ _ _ _ e).mono fun m k=>by rw[k];exact h
     | ret=>exact(hc.C _ _ _ _ e).mono fun m k=>by rw[k];exact h
 | gK f params assign body live=>
   simp only[cT] at h ⊢;cases e:f.ev (fr.bG live)<;>rw[e] at h<;>simp only at h<;>try (cases h;done)
   rename_i g first captured;by_cases hi:ez T g=true
   · simp only[hi,if_true] at h ⊢
     cases e2:L.F g (first++[.yield st.heap.length]++captured) (st.push (.loop ⟨fr.bG live,params,assign,body,0,none⟩)) with
     | none=>rw[e2] at h;cases h
     | some p=>rw[e2] at h;exact(hc.F _ _ _ _ e2).mono fun m k=>by rw[k];exact h
   · simp[hi] at h
theorem KY {T:Tab} {ch:Nat→Rec} {L:Rec} (hc:Conv ch L) (g:Nat) (as_:List DV) (st:St) (r:DV×St) (h:dA T L g as_ st=some r):Ev fun m=>dA T (ch m) g as_ st=some r:=by
 simp only[dA] at h ⊢
 cases e:T g with
 | none=>rw[e] at h;cases h
 | some d=>
   rw[e] at h
   cases d with
   | g9 p=>exact .all fun m=>h
   | dy p=>exact .all fun m=>h
   | code f=>
     simp only at h ⊢;by_cases hp:f.dh=true
     · simp only[hp,if_true] at h ⊢
       cases e2:L.C f.body (bq as_ 0) st.enter with
       | none=>rw[e2] at h;cases h
       | some p=>rw[e2] at h;exact(hc.C _ _ _ _ e2).mono fun m k=>by rw[k];exact h
     · simp only[hp] at h ⊢
       cases e2:L.C f.body (bq as_ 0) st with
       | none=>rw[e2] at h;cases h
       | some p=>rw[e2] at h;exact(hc.C _ _ _ _ e2).mono fun m k=>by rw[k];exact h
theorem JG (T:Tab) {ch:Nat→Rec} {L:Rec} (hc:Conv ch L) (f:DV) (as_:List DV) (st:St) (r:DV×St) (h:jm T L f as_ st=some r):Ev fun m=>jm T (ch m) f as_ st=some r:=by
 cases f<;>simp only[jm] at h ⊢ <;> try (cases h;done)
 · exact hc.F _ _ _ _ h
 · rename_i l
   cases e:st.heap[l]? with
   | none=>rw[e] at h;cases h
   | some o=>
     rw[e] at h;cases o<;>simp only at h ⊢ <;> try (cases h;done)
     rename_i lo;split at h
     · rename_i hb;simp only[hb,and_self,if_true]
       cases e1:L.C lo.assign (c6 lo.fr lo.params as_) st with
       | none=>rw[e1] at h;cases h
       | some p=>
         obtain⟨ex,fr1,st1⟩:=p;rw[e1] at h;cases ex<;>simp only at h<;>try (cases h;done)
         cases e2:st1.heap[l]? with
         | none=>rw[e2] at h;cases h
         | some o2=>
           rw[e2] at h;cases o2<;>simp only at h<;>try (cases h;done)
           rename_i lo1;split at h
           · rename_i h0
             cases e3:L.C lo.body fr1 { st1 with heap:=st1.heap.set l (.loop { lo1 with state:=1 }) } with
             | none=>rw[e3] at h;cases h
             | some q=>
               rw[e3] at h;refine((hc.C _ _ _ _ e1).two (hc.C _ _ _ _ e3)).mono fun m k=>?_;rw[k.1];simp only[e2,h0,if_true];rw[k.2];exact h
           · cases h
     · cases h
theorem dK {T:Tab} {ch:Nat→Rec} {L:Rec} (hc:Conv ch L):Conv (fun m=>dO T (ch m)) (dO T L) where
 C:=K6 hc
 F:=KY hc
 V:=JG T hc
 O:=by
   intro a fr st r h
   cases a with
   | nil=>exact .all fun m=>h
   | cons o l=>
     simp only[dO,jh] at h ⊢
     cases e:L.N o fr st with
     | none=>rw[e] at h;cases h
     | some p=>rw[e] at h;exact((hc.N _ _ _ _ e).two (hc.O _ _ _ _ h)).mono fun m k=>by rw[k.1];exact k.2
 S:=by
   intro a fr st b r h
   cases a with
   | nil=>exact .all fun m=>h
   | cons o l=>
     simp only[dO,fK] at h ⊢
     cases e:L.N o fr st with
     | none=>rw[e] at h;cases h
     | some p=>
       obtain⟨v,st'⟩:=p;rw[e] at h;simp only at h;split at h
       · rename_i hl;exact((hc.N _ _ _ _ e).two (hc.S _ _ _ _ _ h)).mono fun m k=>by rw[k.1];simp only[hl,if_true];exact k.2
       · rename_i hl;exact((hc.N _ _ _ _ e).two (hc.S _ _ _ _ _ h)).mono fun m k=>by rw[k.1];simp only[hl];exact k.2
 N:=by
   intro o fr st r h;simp only[dO,dX] at h ⊢
   cases e:eb fr o.guard with
   | none=>rw[e] at h;cases h
   | some b=>
     rw[e] at h
     cases b with
     | false=>exact .all fun m=>h
     | true=>
       simp only at h ⊢;cases e2:o.op<;>rw[e2] at h<;>simp only at h ⊢ <;> try exact .all fun m=>h
       · exact hc.F _ _ _ _ h
       · exact hc.V _ _ _ _ h
       · rename_i f args;cases e3:f.ev fr<;>rw[e3] at h<;>simp only at h ⊢ <;> try (cases h;done)
         rename_i g first captured;by_cases hp:al T g=true
         · simp only[hp,if_true] at h ⊢;exact hc.F _ _ _ _ h
         · simp only[hp] at h;cases h
 A:=by
   intro a b c d h
   cases d with
   | nil=>exact .all fun m=>h
   | cons p r=>
     obtain⟨i,vs⟩:=p;simp only[dO,ju,aac] at h ⊢
     cases e:b[i]? with
     | none=>rw[e] at h;cases h.1
     | some o=>rw[e] at h;exact(hc.K _ _ _ _ h.1).two (hc.A _ _ _ _ h.2)
 K:=by
   intro a b c d h
   cases d with
   | nil=>exact .all fun m=>h
   | cons j r=>
     simp only[dO,ji,aac] at h ⊢
     cases e:c[j]? with
     | none=>rw[e] at h;cases h.1
     | some st=>
       rw[e] at h;simp only at h ⊢
       cases e2:L.N b a st with
       | none=>rw[e2] at h;cases h.1
       | some p=>rw[e2] at h;exact((hc.N _ _ _ _ e2).two (hc.K _ _ _ _ h.2)).mono fun m k=>⟨by rw[k.1];exact h.1,k.2⟩
def Rec.le (R R':Rec):Prop:=Conv (fun _=>R') R
theorem Rec.le.step {T:Tab} {R R':Rec} (h:R.le R'):(dO T R).le (dO T R'):=dK h
theorem uQ (R:Rec):vp.le R where
 C:=fun _ _ _ _ h=>by cases h
 O:=fun _ _ _ _ h=>by cases h
 S:=fun _ _ _ _ _ h=>by cases h
 N:=fun _ _ _ _ h=>by cases h
 A:=fun _ _ _ _ h=>by cases h
 K:=fun _ _ _ _ h=>by cases h
 F:=fun _ _ _ _ h=>by cases h
 V:=fun _ _ _ _ h=>by cases h
theorem aB {p:Prop} (h:Ev fun _=>p):p:=by obtain⟨n,h⟩:=h;exact h n (aai _)
theorem Rec.le.refl (R:Rec):R.le R where
 C:=fun _ _ _ _ h=>.all fun _=>h
 O:=fun _ _ _ _ h=>.all fun _=>h
 S:=fun _ _ _ _ _ h=>.all fun _=>h
 N:=fun _ _ _ _ h=>.all fun _=>h
 A:=fun _ _ _ _ h=>.all fun _=>h
 K:=fun _ _ _ _ h=>.all fun _=>h
 F:=fun _ _ _ _ h=>.all fun _=>h
 V:=fun _ _ _ _ h=>.all fun _=>h
theorem Rec.le.trans {A B C:Rec} (h:A.le B) (k:B.le C):A.le C where
 C:=fun _ _ _ _ x=>k.C _ _ _ _ (aB (h.C _ _ _ _ x))
 O:=fun _ _ _ _ x=>k.O _ _ _ _ (aB (h.O _ _ _ _ x))
 S:=fun _ _ _ _ _ x=>k.S _ _ _ _ _ (aB (h.S _ _ _ _ _ x))
 N:=fun _ _ _ _ x=>k.N _ _ _ _ (aB (h.N _ _ _ _ x))
 A:=fun _ _ _ _ x=>k.A _ _ _ _ (aB (h.A _ _ _ _ x))
 K:=fun _ _ _ _ x=>k.K _ _ _ _ (aB (h.K _ _ _ _ x))
 F:=fun _ _ _ _ x=>k.F _ _ _ _ (aB (h.F _ _ _ _ x))
 V:=fun _ _ _ _ x=>k.V _ _ _ _ (aB (h.V _ _ _ _ x))
theorem lG (T:Tab):∀ n,(dq T n).le (dq T (n+1))
 | 0=>uQ _
 | n+1=>(lG T n).step
theorem b8 (T:Tab) (n:Nat):∀ m,n≤m→(dq T n).le (dq T m):=by
 intro m h
 induction m with
 | zero=>obtain rfl:n=0:=by omega
         exact .refl _
 | succ m ih=>
   by_cases e:n=m+1
   · subst e;exact .refl _
   · exact(ih (by omega)).trans (lG T m)
open Classical in
noncomputable def lim {β:Type} (f:Nat→Option β):Option β:=if h:∃ r n,f n=some r then some (Classical.choose h) else none
open Classical in
noncomputable def F8 (f:Nat→Bool):Bool:=decide (∃ n,f n=true)
theorem lM {f:Nat→Bool}:F8 f=true↔∃ n,f n=true:=by
 unfold F8;exact⟨fun h=>by classical exact of_decide_eq_true h,fun h=>by classical exact decide_eq_true h⟩
theorem gd {β:Type} {f:Nat→Option β} (hm:∀ n r,f n=some r→∀ m,n≤m→f m=some r) {r:β}:lim f=some r↔∃ n,f n=some r:=by
 unfold lim;constructor
 · intro h;split at h
   · rename_i hh;injection h with h;subst h;exact aaR hh
   · cases h
 · rintro⟨n,h⟩;have hh:∃ r n,f n=some r:=⟨r,n,h⟩;rw[dif_pos hh];obtain⟨n',h'⟩:=aaR hh;have a:=hm n r h (max n n') (by omega);have b:=hm n' _ h' (max n n') (by omega);rw[a] at b;exact congrArg some (aab.inj b).symm
noncomputable def E (T:Tab):Rec where
 C:=fun c fr st=>lim fun n=>(dq T n).C c fr st
 O:=fun a fr st=>lim fun n=>(dq T n).O a fr st
 S:=fun a fr st b=>lim fun n=>(dq T n).S a fr st b
 N:=fun a fr st=>lim fun n=>(dq T n).N a fr st
 A:=fun a b c d=>F8 fun n=>(dq T n).A a b c d
 K:=fun a b c d=>F8 fun n=>(dq T n).K a b c d
 F:=fun a b c=>lim fun n=>(dq T n).F a b c
 V:=fun a b c=>lim fun n=>(dq T n).V a b c
theorem cZ (T:Tab):Conv (dq T) (E T) where
 C:=fun c fr st r h=>by
   obtain⟨n,h⟩:=(gd (fun n _ h m hm=>aB ((b8 T n m hm).C _ _ _ _ h))).1 h;exact⟨n,fun m hm=>aB ((b8 T n m hm).C _ _ _ _ h)⟩
 O:=fun c fr st r h=>by
   obtain⟨n,h⟩:=(gd (fun n _ h m hm=>aB ((b8 T n m hm).O _ _ _ _ h))).1 h;exact⟨n,fun m hm=>aB ((b8 T n m hm).O _ _ _ _ h)⟩
 S:=fun c fr st b r h=>by
   obtain⟨n,h⟩:=(gd (fun n _ h m hm=>aB ((b8 T n m hm).S _ _ _ _ _ h))).1 h;exact⟨n,fun m hm=>aB ((b8 T n m hm).S _ _ _ _ _ h)⟩
 N:=fun c fr st r h=>by
   obtain⟨n,h⟩:=(gd (fun n _ h m hm=>aB ((b8 T n m hm).N _ _ _ _ h))).1 h;exact⟨n,fun m hm=>aB ((b8 T n m hm).N _ _ _ _ h)⟩
 A:=fun a b c d h=>by
   obtain⟨n,h⟩:=lM.1 h;exact⟨n,fun m hm=>aB ((b8 T n m hm).A _ _ _ _ h)⟩
 K:=fun a b c d h=>by
   obtain⟨n,h⟩:=lM.1 h;exact⟨n,fun m hm=>aB ((b8 T n m hm).K _ _ _ _ h)⟩
 F:=fun c fr st r h=>by
   obtain⟨n,h⟩:=(gd (fun n _ h m hm=>aB ((b8 T n m hm).F _ _ _ _ h))).1 h;exact⟨n,fun m hm=>aB ((b8 T n m hm).F _ _ _ _ h)⟩
 V:=fun c fr st r h=>by
   obtain⟨n,h⟩:=(gd (fun n _ h m hm=>aB ((b8 T n m hm).V _ _ _ _ h))).1 h;exact⟨n,fun m hm=>aB ((b8 T n m hm).V _ _ _ _ h)⟩
theorem dC (T:Tab) (n:Nat):(dq T n).le (E T) where
 C:=fun _ _ _ _ h=>.all fun _=>(gd (fun n _ h m hm=>aB ((b8 T n m hm).C _ _ _ _ h))).2 ⟨n,h⟩
 O:=fun _ _ _ _ h=>.all fun _=>(gd (fun n _ h m hm=>aB ((b8 T n m hm).O _ _ _ _ h))).2 ⟨n,h⟩
 S:=fun _ _ _ _ _ h=>.all fun _=>(gd (fun n _ h m hm=>aB ((b8 T n m hm).S _ _ _ _ _ h))).2 ⟨n,h⟩
 N:=fun _ _ _ _ h=>.all fun _=>(gd (fun n _ h m hm=>aB ((b8 T n m hm).N _ _ _ _ h))).2 ⟨n,h⟩
 A:=fun _ _ _ _ h=>.all fun _=>lM.2 ⟨n,h⟩
 K:=fun _ _ _ _ h=>.all fun _=>lM.2 ⟨n,h⟩
 F:=fun _ _ _ _ h=>.all fun _=>(gd (fun n _ h m hm=>aB ((b8 T n m hm).F _ _ _ _ h))).2 ⟨n,h⟩
 V:=fun _ _ _ _ h=>.all fun _=>(gd (fun n _ h m hm=>aB ((b8 T n m hm).V _ _ _ _ h))).2 ⟨n,h⟩
theorem eE (T:Tab):(dO T (E T)).le (E T) where
 C:=fun _ _ _ _ h=>by obtain⟨n,h⟩:=(dK (T:=T) (cZ T)).C _ _ _ _ h;exact(dC T (n+1)).C _ _ _ _ (h n (aai _))
 O:=fun _ _ _ _ h=>by obtain⟨n,h⟩:=(dK (T:=T) (cZ T)).O _ _ _ _ h;exact(dC T (n+1)).O _ _ _ _ (h n (aai _))
 S:=fun _ _ _ _ _ h=>by obtain⟨n,h⟩:=(dK (T:=T) (cZ T)).S _ _ _ _ _ h;exact(dC T (n+1)).S _ _ _ _ _ (h n (aai _))
 N:=fun _ _ _ _ h=>by obtain⟨n,h⟩:=(dK (T:=T) (cZ T)).N _ _ _ _ h;exact(dC T (n+1)).N _ _ _ _ (h n (aai _))
 A:=fun _ _ _ _ h=>by obtain⟨n,h⟩:=(dK (T:=T) (cZ T)).A _ _ _ _ h;exact(dC T (n+1)).A _ _ _ _ (h n (aai _))
 K:=fun _ _ _ _ h=>by obtain⟨n,h⟩:=(dK (T:=T) (cZ T)).K _ _ _ _ h;exact(dC T (n+1)).K _ _ _ _ (h n (aai _))
 F:=fun _ _ _ _ h=>by obtain⟨n,h⟩:=(dK (T:=T) (cZ T)).F _ _ _ _ h;exact(dC T (n+1)).F _ _ _ _ (h n (aai _))
 V:=fun _ _ _ _ h=>by obtain⟨n,h⟩:=(dK (T:=T) (cZ T)).V _ _ _ _ h;exact(dC T (n+1)).V _ _ _ _ (h n (aai _))
theorem eC (T:Tab):(E T).le (dO T (E T)) where
 C:=fun _ _ _ _ h=>by obtain⟨n,h⟩:=(cZ T).C _ _ _ _ h;exact((dC T n).step (T:=T)).C _ _ _ _ (h (n+1) (by omega))
 O:=fun _ _ _ _ h=>by obtain⟨n,h⟩:=(cZ T).O _ _ _ _ h;exact((dC T n).step (T:=T)).O _ _ _ _ (h (n+1) (by omega))
 S:=fun _ _ _ _ _ h=>by obtain⟨n,h⟩:=(cZ T).S _ _ _ _ _ h;exact((dC T n).step (T:=T)).S _ _ _ _ _ (h (n+1) (by omega))
 N:=fun _ _ _ _ h=>by obtain⟨n,h⟩:=(cZ T).N _ _ _ _ h;exact((dC T n).step (T:=T)).N _ _ _ _ (h (n+1) (by omega))
 A:=fun _ _ _ _ h=>by obtain⟨n,h⟩:=(cZ T).A _ _ _ _ h;exact((dC T n).step (T:=T)).A _ _ _ _ (h (n+1) (by omega))
 K:=fun _ _ _ _ h=>by obtain⟨n,h⟩:=(cZ T).K _ _ _ _ h;exact((dC T n).step (T:=T)).K _ _ _ _ (h (n+1) (by omega))
 F:=fun _ _ _ _ h=>by obtain⟨n,h⟩:=(cZ T).F _ _ _ _ h;exact((dC T n).step (T:=T)).F _ _ _ _ (h (n+1) (by omega))
 V:=fun _ _ _ _ h=>by obtain⟨n,h⟩:=(cZ T).V _ _ _ _ h;exact((dC T n).step (T:=T)).V _ _ _ _ (h (n+1) (by omega))
theorem kp {β:Type} {a b:Option β} (h:∀ r,a=some r→b=some r) (k:∀ r,b=some r→a=some r):a=b:=by
 cases a with
 | none=>cases b with
   | none=>rfl
   | some r=>exact absurd (k r rfl) (by simp)
 | some r=>exact(h r rfl).symm
theorem EC (T:Tab) (c:RC) (fr:Fr) (st:St):(E T).C c fr st=cT T (E T) c fr st:=
 kp (fun r h=>aB ((eC T).C _ _ _ r h)) (fun r h=>aB ((eE T).C _ _ _ r h))
theorem EO (T:Tab) (a:List ak) (fr:Fr) (st:St):(E T).O a fr st=jh T (E T) a fr st:=
 kp (fun r h=>aB ((eC T).O _ _ _ r h)) (fun r h=>aB ((eE T).O _ _ _ r h))
theorem ES (T:Tab) (a:List ak) (fr:Fr) (st:St) (b:List St):(E T).S a fr st b=fK T (E T) a fr st b:=
 kp (fun r h=>aB ((eC T).S _ _ _ _ r h)) (fun r h=>aB ((eE T).S _ _ _ _ r h))
theorem EN (T:Tab) (a:ak) (fr:Fr) (st:St):(E T).N a fr st=dX T (E T) a fr st:=
 kp (fun r h=>aB ((eC T).N _ _ _ r h)) (fun r h=>aB ((eE T).N _ _ _ r h))
theorem EF (T:Tab) (g:Nat) (as_:List DV) (st:St):(E T).F g as_ st=dA T (E T) g as_ st:=
 kp (fun r h=>aB ((eC T).F _ _ _ r h)) (fun r h=>aB ((eE T).F _ _ _ r h))
theorem EV (T:Tab) (f:DV) (as_:List DV) (st:St):(E T).V f as_ st=jm T (E T) f as_ st:=
 kp (fun r h=>aB ((eC T).V _ _ _ r h)) (fun r h=>aB ((eE T).V _ _ _ r h))
theorem EA (T:Tab) (fr:Fr) (ops:List ak) (sts:List St) (l:List (Nat×List Nat)):(E T).A fr ops sts l=ju T (E T) fr ops sts l:=
 aaW.2 ⟨fun h=>aB ((eC T).A _ _ _ _ h),fun h=>aB ((eE T).A _ _ _ _ h)⟩
theorem EK (T:Tab) (fr:Fr) (o:ak) (sts:List St) (l:List Nat):(E T).K fr o sts l=ji T (E T) fr o sts l:=
 aaW.2 ⟨fun h=>aB ((eC T).K _ _ _ _ h),fun h=>aB ((eE T).K _ _ _ _ h)⟩
theorem HE {T:Tab} {g:Nat} {as_:List DV} {st:St} {r:DV×St} (h:(E T).F g as_ st=some r):∃ n,eB T n g as_ st=some r:=by
 obtain⟨n,h⟩:=(cZ T).F _ _ _ _ h;exact⟨n,pE (h n (aai _))⟩
end Go.D
end
section
namespace Go.D
variable {T:Tab}
@[simp] theorem Tz (fr:Fr) (st:St):(E T).C .skip fr st=some (.normal,fr,st):=EC _ _ _ _
@[simp] theorem Ql (fr:Fr) (st:St):(E T).C .ret fr st=some (.ret,fr,st):=EC _ _ _ _
@[simp] theorem Ta (i:Nat) (fr:Fr) (st:St):(E T).C (.exit i) fr st=some (.exit i,fr,st):=EC _ _ _ _
@[simp] theorem Dp (ops:List ak) (live:List Nat) (fr:Fr) (st:St) :
 (E T).C (.region ops live) fr st=match (E T).O ops fr st with | some (fr',st')=>some (.normal,fr'.bG live,st') | none=>none:=EC _ _ _ _
@[simp] theorem cB (a b:RC) (fr:Fr) (st:St) :
 (E T).C (.seq a b) fr st=match (E T).C a fr st with
  | some (.normal,fr',st')=>(E T).C b fr' st'
  | some (.exit i,fr',st')=>some (.exit i,fr',st')
  | some (.ret,fr',st')=>some (.ret,fr',st')
  | none=>none:=by
 rw[EC];simp only[cT];rcases (E T).C a fr st with _ | ⟨e,fr',st'⟩
 · rfl
 · cases e<;>rfl
@[simp] theorem nT (id:Nat) (a:RC) (fr:Fr) (st:St) :
 (E T).C (.block id a) fr st=match (E T).C a fr st with
  | some (.normal,fr',st')=>some (.normal,fr',st')
  | some (.exit i,fr',st')=>if i=id then some (.normal,fr',st') else some (.exit i,fr',st')
  | some (.ret,fr',st')=>some (.ret,fr',st')
  | none=>none:=by
 rw[EC];simp only[cT];rcases (E T).C a fr st with _ | ⟨e,fr',st'⟩
 · rfl
 · cases e<;>rfl
theorem wS (live:List Nat) (a:RC) (fr:Fr) (st:St) :
 (E T).C (.loop live a) fr st=match (E T).C a (fr.bG live) st with
  | some (.normal,fr',st')=>(E T).C (.loop live a) fr' st'
  | some (.exit i,fr',st')=>some (.exit i,fr',st')
  | some (.ret,fr',st')=>some (.ret,fr',st')
  | none=>none:=by
 rw[EC];simp only[cT];rcases (E T).C a (fr.bG live) st with _ | ⟨e,fr',st'⟩
 · rfl
 · cases e<;>rfl
@[simp] theorem KM (x:X) (a b:RC) (fr:Fr) (st:St) (v:Bool) (h:x.ev fr=.bool v) :
 (E T).C (.cond x a b) fr st=if v=true then (E T).C a fr st else (E T).C b fr st:=by
 rw[EC];simp only[cT];rw[h];cases v<;>rfl
@[simp] theorem Ut (fr:Fr) (st:St):(E T).O [] fr st=some (fr,st):=EO _ _ _ _
@[simp] theorem JB (o:ak) (r:List ak) (fr:Fr) (st:St) :
 (E T).O (o::r) fr st=match (E T).N o fr st with | some (v,st')=>(E T).O r (fr.put o.dst v) st' | none=>none:=EO _ _ _ _
noncomputable def opE (T:Tab) (op:ROp) (fr:Fr) (st:St):Option (DV×St):=
 match op with
 | .call g args=>(E T).F g (args.map (X.ev fr)) st
 | .bz f args=>(E T).V (f.ev fr) (args.map (X.ev fr)) st
 | .dp f args=>
   match f.ev fr with
   | .fn g first captured=>if al T g then (E T).F g (first++args.map (X.ev fr)++captured) st else none
   | _=>none
 | op=>an st fr op
@[simp] theorem TM (d:Option Nat) (op:ROp) (fr:Fr) (st:St):(E T).N ⟨d,op,none⟩ fr st=opE T op fr st:=by
  rw[EN];simp only[dX,eb];cases op<;>rfl
@[simp] theorem TJ (d:Option Nat) (op:ROp) (t:Nat) (w b:Bool) (fr:Fr) (st:St) (h:fr.get t=.bool b) :
 (E T).N ⟨d,op,some (t,w)⟩ fr st=if b=w then opE T op fr st else some (.tuple [],st):=by
 rw[EN];simp only[dX,eb];rw[h];cases b<;>cases w<;>first | rfl | (cases op<;>rfl)
@[simp] theorem TA (d:Option Nat) (op:ROp) (t:Nat) (w:Bool) (fr:Fr) (st:St) (h:fr.get t=.tuple []) :
 (E T).N ⟨d,op,some (t,w)⟩ fr st=some (.tuple [],st):=by
 rw[EN];simp only[dX,eb];rw[h]
@[simp] theorem RK (g:Nat) (args:List X) (fr:Fr) (st:St):opE T (.call g args) fr st=(E T).F g (args.map (X.ev fr)) st:=rfl
@[simp] theorem Uz (x:X) (fr:Fr) (st:St):opE T (.mv x) fr st=some (x.ev fr,st):=rfl
@[simp] theorem Uk (op:BinOp) (x y:X) (fr:Fr) (st:St):opE T (.bin op x y) fr st=(nK op (x.ev fr) (y.ev fr)).map fun v=>(v,st):=rfl
@[simp] theorem Uu (op:UnOp) (x:X) (fr:Fr) (st:St):opE T (.un op x) fr st=(unD op (x.ev fr)).map fun v=>(v,st):=rfl
@[simp] theorem RV (c a b:X) (fr:Fr) (st:St):opE T (.pick c a b) fr st=an st fr (.pick c a b):=rfl
@[simp] theorem RA (zs:List DV) (fr:Fr) (st:St):opE T (.alloc zs) fr st=an st fr (.alloc zs):=rfl
@[simp] theorem T1 (n:Nat) (x:X) (fr:Fr) (st:St):opE T (.box n x) fr st=an st fr (.box n x):=rfl
@[simp] theorem O5 (zs:List DV) (parts:List (Nat×Nat×X)) (fr:Fr) (st:St):opE T (.build zs parts) fr st=an st fr (.build zs parts):=rfl
theorem aw (n:Nat) (ag:Bool) (zs:List DV) (len:Nat) (parts:List (Nat×X)) (fr:Fr) (st:St):opE T (.lit n ag zs len parts) fr st=an st fr (.lit n ag zs len parts):=rfl
theorem Gj (n:Nat) (ag:Bool) (zs:List DV) (len:Nat) (parts:List (Nat×X)) (fr:Fr) (st:St):opE T (.nE n ag zs len parts) fr st=an st fr (.nE n ag zs len parts):=rfl
@[simp] theorem RJ (n:Nat) (ag:Bool) (x:X) (fr:Fr) (st:St):opE T (.load n ag x) fr st=an st fr (.load n ag x):=rfl
@[simp] theorem Qt (n:Nat) (x v:X) (fr:Fr) (st:St):opE T (.store n x v) fr st=an st fr (.store n x v):=rfl
@[simp] theorem LP (x:X) (fr:Fr) (st:St):opE T (.aX x) fr st=an st fr (.aX x):=rfl
@[simp] theorem Us (k:EqK) (neg:Bool) (x y:X) (fr:Fr) (st:St):opE T (.eq k neg x y) fr st=an st fr (.eq k neg x y):=rfl
@[simp] theorem Sm (k:IntKind) (x:X) (fr:Fr) (st:St):opE T (.i2i k x) fr st=an st fr (.i2i k x):=rfl
@[simp] theorem TZ (x:X) (fr:Fr) (st:St):opE T (.i2s x) fr st=an st fr (.i2s x):=rfl
@[simp] theorem SM (x:X) (fr:Fr) (st:St):opE T (.s2b x) fr st=an st fr (.s2b x):=rfl
@[simp] theorem Um (x:X) (fr:Fr) (st:St):opE T (.s2h x) fr st=an st fr (.s2h x):=rfl
theorem KT (x:X) (fr:Fr) (st:St):opE T (.b2s x) fr st=an st fr (.b2s x):=rfl
@[simp] theorem RZ (x:X) (fr:Fr) (st:St):opE T (.same x) fr st=an st fr (.same x):=rfl
@[simp] theorem RU (g:Nat) (first captured:List X) (fr:Fr) (st:St):opE T (.gD g first captured) fr st=an st fr (.gD g first captured):=rfl
@[simp] theorem Qv  (fr:Fr) (st:St):opE T (.jL ) fr st=an st fr (.jL ):=rfl
@[simp] theorem JR (n:Nat) (ag:Bool) (bytes:Nat) (zs:List DV) (len cap:X) (fr:Fr) (st:St):opE T (.cE n ag bytes zs len cap) fr st=an st fr (.cE n ag bytes zs len cap):=rfl
@[simp] theorem LZ (n:Nat) (bytes:Nat) (len cap:X) (fr:Fr) (st:St):opE T (.lk n bytes len cap) fr st=an st fr (.lk n bytes len cap):=rfl
@[simp] theorem Q1 (str:Bool) (n:Nat) (x:X) (lo hi mx:Option X) (fr:Fr) (st:St):opE T (.slice str n x lo hi mx) fr st=an st fr (.slice str n x lo hi mx):=rfl
def mo (st:St) (off:Nat):DV→Option (DV×St)
 | .ptr b o=>some (.ptr b (o+off),st)
 | .bW cs=>if off≤cs.length then some (.bW (cs.drop off),st) else none
 | _=>none
def ln (st:St) (n:Nat):DV→DV→Option (DV×St)
 | .list _ n' _ _ xs,.int _ j=>if 0≤j∧n'=n then (match xs[j.toNat]? with | some v=>some (.bW v.leaves,st) | none=>none) else none
 | .hsl n' _ b off len _,.int _ j=>if n'=n∧0≤j∧j<len then some (.ptr b (off+j.toNat*n),st) else none
 | _,_=>none
def qD (st:St):wU→DV→Option (DV×St)
 | .str,.str s=>some (.int .i64 s.length,st)
 | .slice,.list _ _ _ _ xs=>some (.int .i64 xs.length,st)
 | .slice,.hsl _ _ _ _ len _=>some (.int .i64 len,st)
 | .map,.bn=>some (.int .i64 0,st)
 | .map,.map b=>match st.heap[b]? with | some (.map es)=>some (.int .i64 es.length,st) | _=>none
 | _,_=>none
def OI (st:St):DV→Option (DV×St)
 | .list _ _ .tight true xs=>some (.int .i64 xs.length,st)
 | .list _ _ _ false _=>some (.int .i64 0,st)
 | .hsl _ _ _ _ _ (some c)=>some (.int .i64 c,st)
 | _=>none
@[simp] theorem KU (st:St) (off b o:Nat):mo st off (.ptr b o)=some (.ptr b (o+off),st):=rfl
@[simp] theorem Jf (st:St) (off:Nat) (cs:List DV):mo st off (.bW cs)=if off≤cs.length then some (.bW (cs.drop off),st) else none:=rfl
@[simp] theorem Is (st:St) (n t n':Nat) (tk:Tk) (nn:Bool) (xs:List DV) (k:IntKind) (j:Int) :
 ln st n (.list t n' tk nn xs) (.int k j)=if 0≤j∧n'=n then (match xs[j.toNat]? with | some v=>some (.bW v.leaves,st) | none=>none) else none:=rfl
@[simp] theorem J6 (st:St) (n n':Nat) (ag:Bool) (b off len:Nat) (c:Option Nat) (k:IntKind) (j:Int) :
 ln st n (.hsl n' ag b off len c) (.int k j)=if n'=n∧0≤j∧j<len then some (.ptr b (off+j.toNat*n),st) else none:=rfl
@[simp] theorem Pw (st:St) (s:List UInt8):qD st .str (.str s)=some (.int .i64 s.length,st):=rfl
@[simp] theorem LC (st:St) (t n:Nat) (tk:Tk) (nn:Bool) (xs:List DV):qD st .slice (.list t n tk nn xs)=some (.int .i64 xs.length,st):=rfl
@[simp] theorem MD (st:St) (n:Nat) (ag:Bool) (b off len:Nat) (c:Option Nat):qD st .slice (.hsl n ag b off len c)=some (.int .i64 len,st):=rfl
@[simp] theorem I3 (st:St):qD st .map .bn=some (.int .i64 0,st):=rfl
@[simp] theorem Pp (st:St) (b:Nat):qD st .map (.map b)=match st.heap[b]? with | some (.map es)=>some (.int .i64 es.length,st) | _=>none:=rfl
@[simp] theorem Kh (st:St) (t n:Nat) (xs:List DV):OI st (.list t n .tight true xs)=some (.int .i64 xs.length,st):=rfl
@[simp] theorem OC (st:St) (n:Nat) (ag:Bool) (b off len c:Nat):OI st (.hsl n ag b off len (some c))=some (.int .i64 c,st):=rfl
@[simp] theorem N6 (off:Nat) (x:X) (fr:Fr) (st:St):opE T (.gU off x) fr st=mo st off (x.ev fr):=by
  simp only[opE,an];cases x.ev fr<;>rfl
@[simp] theorem Mu (n:Nat) (ag:Bool) (off:Nat) (x:X) (fr:Fr) (st:St):opE T (.field n ag off x) fr st=an st fr (.field n ag off x):=rfl
@[simp] theorem Mm (n:Nat) (x i:X) (fr:Fr) (st:St):opE T (.aY n x i) fr st=ln st n (x.ev fr) (i.ev fr):=by
  simp only[opE,an];cases x.ev fr<;>cases i.ev fr<;>rfl
@[simp] theorem LO (n len:Nat) (x i:X) (fr:Fr) (st:St):opE T (.cA n len x i) fr st=an st fr (.cA n len x i):=rfl
@[simp] theorem O6 (x i:X) (fr:Fr) (st:St):opE T (.index x i) fr st=an st fr (.index x i):=rfl
@[simp] theorem LN (n:Nat) (ag:Bool) (len:Nat) (x i:X) (fr:Fr) (st:St):opE T (.jE n ag len x i) fr st=an st fr (.jE n ag len x i):=rfl
@[simp] theorem L5 (ks:List LK) (zero:DV) (x i:X) (ok:Bool) (fr:Fr) (st:St):opE T (.lookup ks zero x i ok) fr st=an st fr (.lookup ks zero x i ok):=rfl
@[simp] theorem LY (ks:List LK) (m k v:X) (fr:Fr) (st:St):opE T (.iI ks m k v) fr st=an st fr (.iI ks m k v):=rfl
@[simp] theorem Ks (x:X) (i:Nat) (fr:Fr) (st:St):opE T (.extract x i) fr st=an st fr (.extract x i):=rfl
@[simp] theorem Pj (t:Nat) (x:X) (fr:Fr) (st:St):opE T (.iface t x) fr st=an st fr (.iface t x):=rfl
@[simp] theorem Ue (k:wU) (x:X) (fr:Fr) (st:St):opE T (.len k x) fr st=qD st k (x.ev fr):=by
  simp only[opE,an];cases k<;>cases x.ev fr<;>rfl
@[simp] theorem R4 (n:Nat) (fr:Fr) (st:St):opE T (.xh n) fr st=an st fr (.xh n):=rfl
@[simp] theorem LG (n:Nat) (ag:Bool) (bytes:Nat) (x y:X) (fr:Fr) (st:St):opE T (.append n ag bytes x y) fr st=an st fr (.append n ag bytes x y):=rfl
@[simp] theorem RW (n:Nat) (x y:X) (fr:Fr) (st:St):opE T (.copy n x y) fr st=an st fr (.copy n x y):=rfl
@[simp] theorem TH (args:List X) (fr:Fr) (st:St):opE T (.max args) fr st=an st fr (.max args):=rfl
@[simp] theorem T5 (args:List X) (fr:Fr) (st:St):opE T (.min args) fr st=an st fr (.min args):=rfl
@[simp] theorem Jp (n:Nat) (ag:Bool) (bytes:Nat) (x y:X) (fr:Fr) (st:St):opE T (.gl n ag bytes x y) fr st=an st fr (.gl n ag bytes x y):=rfl
@[simp] theorem M8 (n:Nat) (zs:List DV) (x:X) (fr:Fr) (st:St):opE T (.clear n zs x) fr st=an st fr (.clear n zs x):=rfl
@[simp] theorem LH (ty:Nat) (zs:List DV) (fr:Fr) (st:St):opE T (.gX ty zs) fr st=an st fr (.gX ty zs):=rfl
@[simp] theorem RR (ty n:Nat) (x:X) (fr:Fr) (st:St):opE T (.conv ty n x) fr st=an st fr (.conv ty n x):=rfl
@[simp] theorem Ke (ty bytes:Nat) (x y:X) (fr:Fr) (st:St):opE T (.dW ty bytes x y) fr st=an st fr (.dW ty bytes x y):=rfl
@[simp] theorem L0 (x:X) (fr:Fr) (st:St):opE T (.gR x) fr st=an st fr (.gR x):=rfl
@[simp] theorem R3 (ty:Nat) (x l:X) (fr:Fr) (st:St):opE T (.pN ty x l) fr st=an st fr (.pN ty x l):=rfl
@[simp] theorem L4 (n:Nat) (ag:Bool) (len:Nat) (x:X) (lo hi mx:Option X) (fr:Fr) (st:St):opE T (.sliceB n ag len x lo hi mx) fr st=an st fr (.sliceB n ag len x lo hi mx):=rfl
@[simp] theorem LU (n:Nat) (ag:Bool) (len:Nat) (x:X) (fr:Fr) (st:St):opE T (.gM n ag len x) fr st=an st fr (.gM n ag len x):=rfl
@[simp] theorem Ug (v:DV) (xs:List (X×DV)) (fr:Fr) (st:St):opE T (.got v xs) fr st=an st fr (.got v xs):=rfl
@[simp] theorem RX  (fr:Fr) (st:St):opE T (.fail ) fr st=an st fr (.fail ):=rfl
theorem fY {g:Nat} {f:aj} (args:List DV) (st:St) (h:T g=some (.code f)) (hp:f.dh=true) {e:Ex} {fr:Fr} {st':St} {v v':DV}
 (hr:(E T).C f.body (bq args 0) st.enter=some (e,fr,st')) (he:e=.ret∨e=.normal) (hv:eO st' fr f.results=some v) (hx:bB st st' v=some v'):(E T).F g args st=some (v',st):=by
 rw[EF];simp only[dA,h,hp,if_true,hr];rcases he with rfl | rfl<;>simp only[hv,hx,abg]
theorem po {g:Nat} {p:List DV→Option DV} {args:List DV} {st:St} {v:DV} (h:T g=some (.dy p)) (hv:p args=some v):(E T).F g args st=some (v,st):=by
 rw[EF];simp only[dA,h,hv,abg]
attribute [simp] an jw takeN unD l6
@[simp] theorem LL (st:St) (n:Nat) (ag:Bool) (b off:Nat):c7 st n ag (.ptr b off)=match st.cells b with | some (_,vs)=>takeN vs off n ag | none=>none:=rfl
@[simp] theorem JH (st:St) (n:Nat) (ag:Bool) (cs:List DV):c7 st n ag (.bW cs)=takeN cs 0 n ag:=rfl
@[simp] theorem KE (k:IntKind) (n:Int):(DV.int k n).leaves=[.int k n]:=rfl
@[simp] theorem JJ (l:List UInt8):(DV.str l).leaves=[.str l]:=rfl
@[simp] theorem IW (b:Bool):(DV.bool b).leaves=[.bool b]:=rfl
@[simp] theorem Ky (vs:List DV):(DV.agg vs).leaves=vs:=rfl
@[simp] theorem IQ (tag n:Nat) (tk:Tk) (nn:Bool) (xs:List DV):(DV.list tag n tk nn xs).leaves=[.list tag n tk nn xs]:=rfl
@[simp] theorem UC (fr:Fr) (n:Nat):X.ev fr (.t n)=fr.get n:=rfl
@[simp] theorem UF (fr:Fr) (v:DV):X.ev fr (.c v)=v:=rfl
@[simp] theorem UD (fr:Fr) (g:Nat):X.ev fr (.f g)=.fn g [] []:=rfl
@[simp] theorem Dq (u:Nat) (v:DV) (r:Fr) (t:Nat):Fr.get ((u,v)::r) t=if u=t then v else Fr.get r t:=rfl
@[simp] theorem QI (fr:Fr) (t:Nat) (v:DV):fr.put (some t) v=(t,v)::fr:=rfl
@[simp] theorem Ok (fr:Fr) (v:DV):fr.put none v=fr:=rfl
@[simp] theorem QY (fr:Fr):fr.bG []=[]:=rfl
@[simp] theorem A6 (fr:Fr) (t:Nat) (l:List Nat):fr.bG (t::l)=(t,fr.get t)::fr.bG l:=rfl
@[simp] theorem Jg (i:Nat):bq [] i=[]:=rfl
@[simp] theorem Ix (v:DV) (r:List DV) (i:Nat):bq (v::r) i=(i,v)::bq r (i+1):=rfl
@[simp] theorem R9 (op:BinOp) (k:IntKind) (a b:Int) (h:op≠.shl) (h':op≠.shr):nK op (.int k a) (.int k b)=jw op k a b:=by
  cases op<;>simp[nK] at h h' ⊢
@[simp] theorem RY (op:BinOp) (a b:List UInt8):nK op (.str a) (.str b)=l6 op a b:=rfl
end Go.D
end
section
namespace Go.D
open Go.RowKit
variable {P:Program} {fm:FM}
theorem CY {T T2:Tab} (hT:dn P fm T) (hm:P.follows .mixedOrders=true) {g:Nat} {f:FuncId} (hf:fm g=some f) (q:List DV→Option DV) (hq:∀ as_ v,q as_=some v→Ran T g as_ v):eo P fm T2 (.dy q) f:=by
 intro G w0 st w args args' v st' hs ha hp;simp only[aad] at hp;obtain⟨u,hu,hp⟩:=hp;cases hp
 have hl:∀ p∈[(args,v)],Ran T g p.1 p.2:=by
  intro p hp;obtain rfl:p=(args,v):=by simpa using hp
  exact hq _ _ hu
 have hm2:rj [(args,v)] args=some v:=by
  unfold rj;rw[if_pos (DV.jf args)]
 exact Gu (T2:=T2) hT hm hf _ hl G w0 st w args args' v st hs ha (by simp[hm2])
theorem nD.congr {T T':Tab} (h:al T=al T') {rs:List ak} {chk:List (Nat×List Nat)} {ops:Array Oper} {anc:Nat→List Nat} (k:nD T rs chk ops anc):nD T' rs chk ops anc where
 AR:=k.AR
 rr:=k.rr
 iY:=k.iY
 tO:=h ▸ k.tO
 gj:=k.gj
 ku:=k.ku
 cover:=h ▸ k.cover
theorem z5 {T T':Tab} (h:al T=al T') {N:Nat}:∀ {c:RC} {x:Code},hZ P fm T N c x→hZ P fm T' N c x:=by
 intro c
 induction c with
 | skip=>intro x k;exact k
 | region ops live=>intro x k;exact k
 | av ops hs chk live=>
   intro x k;obtain⟨id,oops,anc,e,k⟩:=k;exact⟨id,oops,anc,e,⟨k.rel,k.free,k.rest.congr h⟩⟩
 | seq a b iha ihb=>
   intro x k;obtain⟨u,v,e,k1,k2⟩:=k;exact⟨u,v,e,iha k1,ihb k2⟩
 | cond y a b iha ihb=>
   intro x k;obtain⟨o,u,v,e,k0,k1,k2⟩:=k;exact⟨o,u,v,e,k0,iha k1,ihb k2⟩
 | block id a ih=>
   intro x k;obtain⟨u,e,k⟩:=k;exact⟨u,e,ih k⟩
 | loop live a ih=>
   intro x k;obtain⟨u,e,k⟩:=k;exact⟨u,e,ih k⟩
 | exit id=>intro x k;exact k
 | ret=>intro x k;exact k
 | stuck=>intro x k;exact k
 | gK f ps as_ bo live iha ihb=>
   intro x k;obtain⟨o,qs,u,v,e,k0,k1,k2,k3,k4⟩:=k;exact⟨o,qs,u,v,e,k0,k1,k2,iha k3,ihb k4⟩
theorem rU {T T':Tab} (h:al T=al T'):hZ P fm T=hZ P fm T':=by
 funext N c x
 exact propext ⟨z5 h,z5 h.symm⟩
theorem me {T T':Tab} (h:al T=al T') {d:Def} {f:FuncId} (k:eo P fm T d f):eo P fm T' d f:=by
 cases d<;>simp only[eo,fE,bT,rU (P:=P) (fm:=fm) h] at k ⊢ <;> exact k
def over (T:Tab):List (Nat×(List DV→Option DV))→Tab
 | [],g=>T g
 | (h,p)::r,g=>bif aaD g h then some (.dy p) else over T r g
theorem qT (T:Tab):∀ l:List (Nat×(List DV→Option DV)),(∀ x∈l,al T x.1=true)→al T=al (over T l)
 | [],_=>rfl
 | (h,p)::r,hl=>by
   funext g
   have ih:=congrFun (qT T r fun x hx=>hl x (aan _ hx)) g;show al T g=match over T ((h,p)::r) g with | some (.code f)=>f.dh | some (.dy _)=>true | _=>false
   simp only[over]
   cases hb:aaD g h with
   | true=>
     have:=aaJ hb;subst this;exact hl (g,p) (aap ..)
   | false=>exact ih
theorem u5 (T:Tab):∀ (l:List (Nat×(List DV→Option DV))) (g:Nat) (d:Def),over T l g=some d→T g=some d∨∃ x∈l,x.1=g∧d=.dy x.2
 | [],g,d,h=>.inl h
 | (h0,p)::r,g,d,h=>by
   simp only[over] at h
   cases hb:aaD g h0 with
   | true=>
     rw[hb] at h;have:=aaJ hb;subst this;simp only[cond_true,aab.injEq] at h;exact .inr ⟨(g,p),aap ..,rfl,h.symm⟩
   | false=>
     rw[hb] at h;rcases u5 T r g d h with h | ⟨x,hx,h⟩
     · exact .inl h
     · exact .inr ⟨x,aan _ hx,h⟩
theorem He {T:Tab} (hT:dn P fm T) (hm:P.follows .mixedOrders=true) (l:List (Nat×(List DV→Option DV))) (hp:∀ x∈l,al T x.1=true) (hr:∀ x∈l,∀ as_ v,x.2 as_=some v→Ran T x.1 as_ v):dn P fm (over T l):=by
 intro g d f hd hf;rcases u5 T l g d hd with h | ⟨x,hx,rfl,rfl⟩
 · exact me (qT T l hp) (hT g d f h hf)
 · exact CY hT hm hf x.2 (hr x hx)
end Go.D
end
section
namespace Go.D
open Go.RowKit
variable {P:Program} {fm:FM}
def ghA (w:World):Gh:={ gh0 w with ro:=fun r i=>match w.heap[r]? with | some (.cells cs _ _)=>cs[i]? | _=>none }
theorem JD {w:World} {r i:Nat} {v:Value} (h:(ghA w).ro r i=some v):∃ cs t fz,w.heap[r]? = some (.cells cs t fz)∧cs[i]? = some v:=by
 simp only[ghA] at h;split at h
 · rename_i cs t fz e;exact⟨cs,t,fz,e,h⟩
 · cases h
theorem S8 (CR:Nat→RC→Code→Prop) (w:World) (he:nf fm w):Sim fm CR (ghA w) w st0 w where
 bU:=fun b r h=>by cases h
 bQ:=fun b b' o o' r h=>by simp[st0] at h
 obj:=fun b o h=>by simp[st0] at h
 ro:=fun r i v h=>JD h
 dj:=fun r i v b o _ h=>by simp[st0] at h
 tok:=fun t s h=>by simp[st0] at h
 bw:=fun t t' s s' x x' h=>by simp[st0] at h
 bt:=fun t s x h=>by cases h
 dfr:=fun r h=>h.elim
 lps:=fun r h=>h.elim
 aG:=aai _
 below:=Below.refl _ w
 base:=rfl
 aQ:=rfl
 bA:=Nat.zero_le _
 bj:=fun b o h=>by cases h
 env:=he
theorem tN {T:Tab} (hT:dn P fm T) (hm:P.follows .mixedOrders=true) {g:Nat} {f:FuncId} {F:aj} {st':St} {args:List DV} {args':Array Value} (hg:T g=some (.code F)) (hf:fm g=some f)
 (hrun:(E T).F g args st0=some (.bool true,st')) (w:World) (he:nf fm w) (ha:cN fm (ghA w) args args') :
 Calls P f args' w (fun e w'=>e=.returned (.bool true)∧Below w.heap.size w w'):=by
 obtain⟨n,h⟩:=HE hrun;have hc:ez T g=true:=by unfold ez;rw[hg]
 have h:=oR hT hm hf h (S8 (fm:=fm) (hZ P fm T) w he) ha hc (CI (hT g _ f hg hf));refine h.mono ?_;rintro e w' ⟨x,rfl,G',hle,hs,hx⟩;cases hx;have:=hs.below;rw[hle.floor] at this;exact⟨rfl,this⟩
theorem HF {w:World} {a:Addr} {v:Value} (h:w.cell? a=some v):a.spot=none∧(ghA w).ro a.block a.off=some v:=by
 unfold World.cell? at h;split at h
 · rename_i c t fz e;split at h
   · cases h
   · rename_i hs;refine⟨by simpa using hs,?_⟩;simp only[ghA];rw[e];exact h
 · cases h
inductive Sh where
 | bool
 | int (k:IntKind)
 | str
 | list (ag:Bool) (z:Nat) (e:List Sh)
def Sh.flat:Sh→Bool
 | .list _ _ _=>false
 | _=>true
def elemOf (ag:Bool) (vs:List DV):DV:=if ag then .agg vs else vs.headD .undef
def Dt:Sh→DV→Prop
 | .bool,v=>∃ b,v=.bool b
 | .int k,v=>∃ n,v=.int k n∧(Lit.int k n).wf=true
 | .str,v=>∃ s,v=.str s∧s.length≤reachBytes
 | .list _ _ _,_=>False
def jV:List Sh→List DV→Prop
 | [],vs=>vs=[]
 | s::ss,vs=>∃ v r,vs=v::r∧Dt s v∧jV ss r
def Fit:Sh→DV→Prop
 | .list ag z e,v=>∃ nn xs,v=.list 0 e.length .no nn xs∧(nn=false→xs=[])∧(xs.length:Int)≤maxLen∧xs.length*z≤reachBytes∧∀ x∈xs,∃ vs,jV e vs∧x=elemOf ag vs
 | s,v=>Dt s v
def Fits:List Sh→List DV→Prop
 | [],vs=>vs=[]
 | s::ss,vs=>∃ v r,vs=v::r∧Fit s v∧Fits ss r
def oE:Nat→List (Nat×Nat×List Sh)→Option (List Sh)
 | _,[]=>some []
 | k,(off,c,s)::r=>if off=k∧s.length=c then (oE (k+c) r).map (s ++ ·) else none
def ef (P:Program) (t:TypeId):Bool:=match P.underlying t with | some (.struct _) | some (.array _ _)=>true | _=>false
def sF (P:Program):Nat→Bool→TypeId→Option (List Sh)
 | 0,_,_=>none
 | n+1,top,t=>
   match P.underlying t with
   | some .bool=>some [.bool]
   | some (.int k)=>some [.int k]
   | some .string=>some [.str]
   | some (.slice e)=>
     match top,sF P n false e with
     | true,some s=>if s.length=P.cellsOf e∧0<s.length∧s.all Sh.flat=true∧(ef P e=true∨s.length=1) then some [.list (ef P e) (P.bytesOf e) s] else none
     | _,_=>none
   | some (.struct fs)=>
     match fs.toList.mapM (fun f=>(sF P n top f.type).map fun s=>(f.offset,P.cellsOf f.type,s)) with
     | some l=>match oE 0 l with | some s=>if s.length=P.cellsOf t then some s else none | none=>none
     | none=>none
   | some (.array m e)=>
     match sF P n top e with
     | some s=>match oE 0 ((aal m).map fun i=>(i*P.cellsOf e,P.cellsOf e,s)) with | some s=>if s.length=P.cellsOf t then some s else none | none=>none
     | none=>none
   | _=>none
theorem Fits.append:∀ {a b:List Sh} {vs us:List DV},Fits a vs→Fits b us→Fits (a++b) (vs++us)
 | [],b,vs,us,h,k=>by cases h;exact k
 | s::ss,b,vs,us,h,k=>by
   obtain⟨v,r,rfl,h1,h2⟩:=h;exact⟨v,r++us,rfl,h1,h2.append k⟩
theorem Fits.length:∀ {a:List Sh} {vs:List DV},Fits a vs→vs.length=a.length
 | [],vs,h=>by cases h;rfl
 | s::ss,vs,h=>by
   obtain⟨v,r,rfl,_,h2⟩:=h;simp[h2.length]
theorem jV.length:∀ {a:List Sh} {vs:List DV},jV a vs→vs.length=a.length
 | [],vs,h=>by cases h;rfl
 | s::ss,vs,h=>by
   obtain⟨v,r,rfl,_,h2⟩:=h;simp[h2.length]
theorem Fits.toF:∀ {a:List Sh} {vs:List DV},a.all Sh.flat=true→Fits a vs→jV a vs
 | [],vs,_,h=>h
 | s::ss,vs,hf,h=>by
   rw[aa3,aac] at hf;obtain⟨v,r,rfl,h1,h2⟩:=h;refine⟨v,r,rfl,?_,h2.toF hf.2⟩;cases s<;>first | exact h1 | (simp[Sh.flat] at hf)
theorem Dt.leaf {s:Sh} {v:DV} (h:Dt s v):v.leaves=[v]∧v.pure=true:=by
 cases s<;>simp only[Dt] at h
 · obtain⟨b,rfl⟩:=h;exact⟨rfl,rfl⟩
 · obtain⟨n,rfl,_⟩:=h;exact⟨rfl,rfl⟩
 · obtain⟨n,rfl,_⟩:=h;exact⟨rfl,rfl⟩
theorem jV.pure:∀ {a:List Sh} {vs:List DV},jV a vs→vs.all DV.pure=true
 | [],vs,h=>by cases h;rfl
 | s::ss,vs,h=>by
   obtain⟨v,r,rfl,h1,h2⟩:=h;simp[h1.leaf.2,h2.pure]
theorem qC {ag:Bool} {e:List Sh} {vs:List DV} (h:jV e vs) (ha:ag=true∨e.length=1):(elemOf ag vs).leaves=vs:=by
 cases ag with
 | true=>rfl
 | false=>
   have hl:e.length=1:=by simpa using ha
   match e,vs,h,hl with
   | [s],_,⟨v,r,rfl,h1,h2⟩,_=>
     cases h2;exact h1.leaf.1
def Reads (fm:FM) (w:World) (vs:List DV) (cs:List Value):Prop:=cs.length=vs.length∧∀ i (h:i<vs.length),Rel fm (ghA w) (vs[i]) (cs.getD i undef)
theorem Reads.append {w:World} {vs us:List DV} {cs ds:List Value} (h:Reads fm w vs cs) (k:Reads fm w us ds):Reads fm w (vs++us) (cs++ds):=by
 refine⟨by simp[h.1,k.1],fun i hi=>?_⟩;by_cases hv:i<vs.length
 · have e1:(vs++us)[i]=vs[i]:=aa0 hv
   have e2:(cs++ds).getD i undef=cs.getD i undef:=by
    rw[aak,aak,aaj (by rw[h.1];exact hv)]
   rw[e1,e2];exact h.2 i hv
 · have hu:i-vs.length<us.length:=by simp at hi;omega
   have e1:(vs++us)[i]=us[i-vs.length]:=aaV (by omega)
   have e2:(cs++ds).getD i undef=ds.getD (i-vs.length) undef:=by
    rw[aak,aak,aat (by rw[h.1];omega),h.1]
   rw[e1,e2];exact k.2 _ hu
theorem rf {c:Nat} (g:Nat→List DV) (ag:Bool) (hg:∀ i,(elemOf ag (g i)).leaves=g i):∀ (len:Nat),(∀ i,i<len→(g i).length=c) →
 (flat ((aal len).map fun i=>elemOf ag (g i))).length=len*c∧∀ i k,i<len→k<c→(flat ((aal len).map fun i=>elemOf ag (g i)))[i*c+k]? = (g i)[k]?
 | 0,_=>by simp[flat]
 | len+1,h=>by
   obtain⟨h1,h2⟩:=rf g ag hg len fun i hi=>h i (by omega)
   have e:flat ((aal (len+1)).map fun i=>elemOf ag (g i))=flat ((aal len).map fun i=>elemOf ag (g i))++g len:=by
    rw[List.range_succ];simp[flat,hg]
   rw[e];refine⟨by simp[h1,h len (by omega),Nat.succ_mul],fun i k hi hk=>?_⟩;by_cases hl:i<len
   · have:i*c+k<len*c:=by
      have:(i+1)*c≤len*c:=aaC _ hl;rw[Nat.succ_mul] at this;omega
     rw[aaj (by rw[h1];exact this)];exact h2 i k hl hk
   · obtain rfl:i=len:=by omega
     rw[aat (by rw[h1];omega),h1]
     congr 1
     omega
section
variable {H:Type} {enc:TypeId×Value→H} {w:World} {base:Nat} {sp:Nat→Bool} {held:Bool}
def Ea (cs:List Value):Prop:=∀ a len cap,Value.slice (some a) len cap∈cs→a.spot=none
theorem ka:∀ (l:List (Nat×Nat×List Sh)) (k:Nat) (s:List Sh) (cs:List Value),oE k l=some s→k+s.length=cs.length →
 (∀ (off c:Nat) (s:List Sh),(off,c,s)∈l→∃ vs,Fits s vs∧Reads fm w vs ((cs.drop off).take c))→∃ vs,Fits s vs∧Reads fm w vs (cs.drop k)
 | [],k,s,cs,h,hl,_=>by
   cases h;refine⟨[],rfl,?_,fun i hi=>by simp at hi⟩;simp at hl ⊢;omega
 | (off,c,s0)::r,k,s,cs,h,hl,hr=>by
   simp only[oE] at h;split at h
   · rename_i hc;obtain⟨rfl,rfl⟩:=hc;simp only[aad] at h;obtain⟨s1,h1,rfl⟩:=h;rw[aah] at hl;obtain⟨us,hu1,hu2⟩:=ka r _ s1 cs h1 (by omega) fun off c s hm=>hr off c s (aan _ hm);obtain⟨vs,hv1,hv2⟩:=hr off s0.length s0 (aap ..);refine⟨vs++us,hv1.append hu1,?_⟩
     have e:cs.drop off=(cs.drop off).take s0.length++cs.drop (off+s0.length):=by
      rw[← List.drop_drop,aaQ]
     rw[e];exact hv2.append hu2
   · cases h
theorem uq {α β:Type} {f:α→Option β}:∀ {l:List α} {r:List β},l.mapM f=some r→∀ y∈r,∃ (i:Nat) (x:α),l[i]? = some x∧f x=some y
 | [],r,h,y,hy=>by
   have:r=[]:=by simpa using h.symm
   subst this;cases hy
 | a::l,r,h,y,hy=>by
   simp only[List.mapM_cons,Option.bind_eq_bind,Option.bind_eq_some_iff,Option.pure_def,aab.injEq] at h;obtain⟨b,hb,r',hr',rfl⟩:=h;rcases aav.1 hy with rfl | hy
   · exact⟨0,a,rfl,hb⟩
   · obtain⟨i,x,h1,h2⟩:=uq hr' y hy;exact⟨i+1,x,h1,h2⟩
theorem gB {e:TypeId}:∀ {l:List (DataW H)} {d:DataW H} {k:Nat},d∈l→k∈d.weights P e→k∈DataW.weightsAll P e l
 | a::r,d,k,h,hk=>by
   simp only[DataW.weightsAll,aaL];rcases aav.1 h with rfl | h
   · exact .inl hk
   · exact .inr (gB h hk)
theorem GX:∀ (n:Nat) (top:Bool) (t:TypeId) (ss:List Sh),sF P n top t=some ss→∀ (fuel:Nat) (cs:List Value) (x:DataW H×List MemPlace),
 DataW.trod enc P w base sp held fuel t cs=some x→(∀ k∈DataW.weights P t x.1,k≤reachBytes)→(top=true→Ea cs)→∃ vs,Fits ss vs∧Reads fm w vs cs:=by
 intro n
 induction n with
 | zero=>intro top t ss h;cases h
 | succ n ih=>
   intro top t ss h fuel cs x hx hwt hsp;simp only[sF] at h;split at h
   · rename_i hu;cases h;obtain⟨b,rfl,_⟩:=DataW.trod_bool hu hx
     exact⟨[.bool b],⟨_,_,rfl,⟨b,rfl⟩,rfl⟩,rfl,fun i hi=>by
      have:i=0:=by simpa using hi
      subst this;exact .bool b⟩
   · rename_i k hu;cases h;obtain⟨m,rfl,_,hw⟩:=DataW.trod_int hu hx
     exact⟨[.int k m],⟨_,_,rfl,⟨m,rfl,hw⟩,rfl⟩,rfl,fun i hi=>by
      have:i=0:=by simpa using hi
      subst this;exact .int k m⟩
   · rename_i hu;cases h;obtain⟨s,rfl,rfl,hw⟩:=DataW.trod_string hu hx
     exact⟨[.str s.data.toList],⟨_,_,rfl,⟨_,rfl,hwt _ (by simp[DataW.weights])⟩,rfl⟩,rfl,fun i hi=>by
      have:i=0:=by simpa using hi
      subst this;exact .str _ s rfl⟩
   · rename_i e hu;split at h
     · rename_i s hs;split at h
       · rename_i hc;obtain⟨hc1,hc2,hc3,hc4⟩:=hc;cases h;rcases DataW.trod_slice hu hx with ⟨rfl,_⟩ | ⟨a,len,cap,elems,rest,m,_,rfl,hxe,_,hl,hcap,hel,heach,_⟩
         · exact⟨[.list 0 s.length .no false []],⟨_,_,rfl,⟨false,[],rfl,fun _=>rfl,by simp[maxLen],by simp,fun x hx=>by cases hx⟩,rfl⟩,rfl,fun i hi=>by
            have:i=0:=by simpa using hi
            subst this;exact .ga 0 s.length .no⟩
         · have each:∀ i,i<len→∃ vs cs',jV s vs∧Reads fm w vs cs'∧w.cells? base (a.add (i*P.cellsOf e)) (P.cellsOf e)=some cs':=by
            intro i hi;have:=heach i hi;rw[aaa (by omega)] at this;obtain⟨cs',h1,h2⟩:=Option.bind_eq_some_iff.1 this
            obtain⟨vs,h3,h4⟩:=ih false e s hs m cs' _ h2 (fun k hk=>hwt k (by
             rw[hxe];simp only[DataW.weights,hu,aav,aaL]
             exact .inr (.inl (gB (aaT.2 ⟨_,aar _,rfl⟩) hk)))) (fun h=>by cases h)
            exact⟨vs,cs',h3.toF hc3,h4,h1⟩
           have ⟨g,hg⟩:∃ g:Nat→List DV,∀ i,jV s (g i)∧(i<len→∃ cs',Reads fm w (g i) cs'∧w.cells? base (a.add (i*P.cellsOf e)) (P.cellsOf e)=some cs'):=by
            have dflt:∃ vs,jV s vs:=by
             clear hc1 hc2 hc4 each hs
             induction s with
             | nil=>exact⟨[],rfl⟩
             | cons s r ihs=>
               rw[aa3,aac] at hc3;obtain⟨vs,hvs⟩:=ihs hc3.2
               cases s with
               | bool=>exact⟨.bool true::vs,_,_,rfl,⟨_,rfl⟩,hvs⟩
               | int k=>exact⟨.int k (k.wrap 0)::vs,_,_,rfl,⟨_,rfl,wf_wrap k 0⟩,hvs⟩
               | str=>exact⟨.str []::vs,_,_,rfl,⟨_,rfl,by simp[reachBytes]⟩,hvs⟩
               | list a b c=>simp[Sh.flat] at hc3
            classical
            refine⟨fun i=>if h:i<len then Classical.choose (each i h) else Classical.choose dflt,fun i=>?_⟩;by_cases h:i<len
            · obtain⟨cs',h1,h2,h3⟩:=aaR (each i h);simp only[h,dif_pos];exact⟨h1,fun _=>⟨cs',h2,h3⟩⟩
            · simp only[h,dif_neg,not_false_iff];exact⟨aaR dflt,fun h'=>absurd h' (by first | exact h | simp)⟩
           have hleaf:∀ i,(elemOf (ef P e) (g i)).leaves=g i:=fun i=>qC (hg i).1 hc4;obtain⟨f1,f2⟩:=rf (c:=s.length) g (ef P e) hleaf len fun i _=>(hg i).1.length;have hspot:a.spot=none:=hsp rfl a len cap (by simp)
           have key:∀ j,j<len*s.length→∃ v,(ghA w).ro a.block (a.off+j)=some v∧∃ u,(flat ((aal len).map fun i=>elemOf (ef P e) (g i)))[j]? = some u∧Rel fm (ghA w) u v:=by
            intro j hj;have hi:j/s.length<len:=(Nat.div_lt_iff_lt_mul hc2).2 hj;have hk:j%s.length<s.length:=Nat.mod_lt _ hc2;have hj2:j/s.length*s.length+j%s.length=j:=by rw[Nat.mul_comm];exact Nat.div_add_mod _ _
            obtain⟨cs',r1,r2⟩:=(hg (j/s.length)).2 hi;obtain⟨_,r3,r4⟩:=World.cells?_some r2;have hlen:(g (j/s.length)).length=s.length:=(hg _).1.length;have r5:=r4 (j%s.length) (by rw[← hc1];exact hk);rw[aaa (by rw[r1.1,hlen];exact hk)] at r5;obtain⟨_,r6⟩:=HF r5
            have hadd:((a.add (j/s.length*P.cellsOf e)).add (j%s.length)).block=a.block∧((a.add (j/s.length*P.cellsOf e)).add (j%s.length)).off=a.off+j:=by
             rw[← hc1];unfold Addr.add;constructor<;>(repeat' split)<;>simp_all<;>omega
            rw[hadd.1,hadd.2] at r6;refine⟨_,r6,(g (j/s.length))[j%s.length]'(by rw[hlen];exact hk),?_,?_⟩
            · rw[← aaa,← f2 _ _ hi hk,hj2]
            · have:=r1.2 (j%s.length) (by rw[hlen];exact hk);rw[aak,aaa (by rw[r1.1,hlen];exact hk)] at this;exact this
           refine⟨[.list 0 s.length .no true ((aal len).map fun i=>elemOf (ef P e) (g i))],⟨_,_,rfl,⟨true,_,rfl,(fun h=>by cases h),?_,?_,?_⟩,rfl⟩,rfl,fun i hi=>?_⟩
           · simp only[aaM,List.length_range];exact_mod_cast abu hl hcap
           · simp only[aaM,List.length_range];refine abu ?_ (hwt ((elems.length+rest.length)*P.bytesOf e) (by rw[hxe];simp[DataW.weights,hu]));exact aaC _ (by omega)
           · intro x hx;obtain⟨i,_,rfl⟩:=aaT.1 hx;exact⟨g i,(hg i).1,rfl⟩
           · have:i=0:=by simpa using hi
             subst this;obtain⟨r,off,spot⟩:=a;simp only at hspot;subst hspot;have:=Rel.list (fm:=fm) (G:=ghA w) 0 s.length .no ((aal len).map fun i=>elemOf (ef P e) (g i)) r off cap (fun j=>((ghA w).ro r (off+j)).getD undef) ?_ ?_ ?_ trivial (by simpa using hl) ?_
             · simp only[aaM,List.length_range] at this;exact this
             · intro j hj;rw[f1] at hj;obtain⟨v,k1,_⟩:=key j hj;simp only at k1;rw[k1];rfl
             · intro j hj;have hj':=hj;rw[f1] at hj';obtain⟨v,k1,u,k2,k3⟩:=key j hj';simp only at k1;rw[aaa hj] at k2;injection k2 with k2;rw[k2,k1];exact k3
             · rw[aaf];intro u hu;unfold flat at hu;obtain⟨y,hy,hu⟩:=aaH.1 hu;obtain⟨i,_,rfl⟩:=aaT.1 hy;rw[hleaf] at hu;exact aaf.1 (hg i).1.pure _ hu
             · intro y hy;obtain⟨i,_,rfl⟩:=aaT.1 hy;rw[hleaf];exact(hg i).1.length
       · cases h
     · cases h
   · rename_i fs hu;split at h
     · rename_i l hl;split at h
       · rename_i s hs;split at h
         · rename_i hlen;cases h;obtain⟨xs,m,_,hxe,h1,h2,h3⟩:=DataW.trod_struct hu hx;have:=ka (fm:=fm) (w:=w) l 0 ss cs hs (by rw[h1,hlen];omega) ?_
           · simpa using this
           · intro off c s0 hm;obtain⟨i,f,hi,hf⟩:=uq hl _ hm;simp only[aad,Prod.mk.injEq] at hf;obtain⟨s1,e1,rfl,rfl,rfl⟩:=hf;have hi2:fs[i]? = some f:=by simpa using hi
             have:=h3 i f hi2
             have hlt:i<xs.length:=by
              rw[h2];exact(aa6.1 hi2).1
             rw[aaa hlt] at this
             refine ih top f.type s1 e1 m _ _ this (fun k hk=>hwt k (by
              rw[hxe];simp only[DataW.weights,hu]
              exact DataW.weights_mem_each (j:=i) (t:=f.type) (by simp[hi2]) (by rw[abe,aaa hlt];rfl) k hk)) fun ht a len cap hmem=>hsp ht a len cap ?_
             exact aao (aaz hmem)
         · cases h
       · cases h
     · cases h
   · rename_i m e hu;split at h
     · rename_i s0 hs0;split at h
       · rename_i s hs;split at h
         · rename_i hlen;cases h;obtain⟨xs,k,_,hxe,h1,h2,h3⟩:=DataW.trod_array hu hx;have:=ka (fm:=fm) (w:=w) _ 0 ss cs hs (by rw[h1,hlen];omega) ?_
           · simpa using this
           · intro off c s1 hm;obtain⟨i,hi,e1⟩:=aaT.1 hm;cases e1;have:=h3 i (abz.1 hi);rw[aaa (by rw[h2];exact abz.1 hi)] at this
             refine ih top e s0 hs0 k _ _ this (fun q hq=>hwt q (by
              rw[hxe];simp only[DataW.weights,hu]
              exact gB (aaT.2 ⟨_,aar _,rfl⟩) hq)) fun ht a len cap hmem=>hsp ht a len cap ?_
             exact aao (aaz hmem)
         · cases h
       · cases h
     · cases h
   · cases h
end
end Go.D
end
section
namespace Go.D
open Go.RowKit
variable {P:Program} {fm:FM}
theorem jG {w:World} {base:Nat} {t:TypeId} {a:Addr} {len cap:Nat} (h:Cell.okWide P w .any base t (.slice (some a) len cap)):a.spot=none:=by
 unfold Cell.okWide at h;split at h<;>try (rename_i e1 e2;cases e2;done)
 unfold Cell.ok at h;split at h<;>rename_i e1 e2<;>first | (cases e2;done) | skip
 · cases e2;exact h.2.2.2.1
 · cases h
theorem qp {w:World} {base:Nat} {t:TypeId} {v:Value} (h:Value.okWide P w .any base t v):Ea v.cells.toList:=by
 intro a len cap hm;unfold Value.okWide at h;split at h
 · obtain⟨cs,rfl,_,ts,_,_,hc⟩:=h;obtain⟨i,hi⟩:=List.mem_iff_getElem?.1 hm;obtain⟨u,_,hu⟩:=hc i _ (by simpa[Value.cells] using hi);exact jG hu
 · obtain⟨cs,rfl,_,ts,_,_,hc⟩:=h;obtain⟨i,hi⟩:=List.mem_iff_getElem?.1 hm;obtain⟨u,_,hu⟩:=hc i _ (by simpa[Value.cells] using hi);exact jG hu
 · cases v
   case agg cs=>
    exfalso;unfold Cell.okWide at h;split at h<;>try (rename_i e1 e2;cases e2;done)
    unfold Cell.ok at h;split at h<;>rename_i e1 e2<;>first | (cases e2;done) | (cases h;done)
   all_goals
    simp[Value.cells] at hm
   obtain⟨rfl,rfl,rfl⟩:=hm;exact jG h
theorem G5 {w:World} {base:Nat} {t:TypeId} {cs:Array Value} (ht:ef P t=false) (h:Value.okWide P w .any base t (.agg cs)):False:=by
 unfold Value.okWide at h;unfold ef at ht;split at h
 · rename_i e;rw[e] at ht;cases ht
 · rename_i e;rw[e] at ht;cases ht
 · unfold Cell.okWide at h;split at h<;>try (rename_i e1 e2;cases e2;done)
   unfold Cell.ok at h;split at h<;>rename_i e1 e2<;>first | (cases e2;done) | (cases h;done)
theorem EI {n:Nat} {top:Bool} {t:TypeId} {ss:List Sh} (h:sF P n top t=some ss) (ht:ef P t=false):ss.length=1:=by
 cases n with
 | zero=>cases h
 | succ n=>
   unfold ef at ht;simp only[sF] at h;split at h<;>rename_i e<;>try (rw[e] at ht)
   · cases h;rfl
   · cases h;rfl
   · cases h;rfl
   · split at h
     · split at h
       · cases h;rfl
       · cases h
     · cases h
   · cases ht
   · cases ht
   · cases h
theorem Kv {H:Type} {enc:TypeId×Value→H} {w:World} {base base':Nat} {sp:Nat→Bool} {held:Bool} {n:Nat} {t:TypeId} {ss:List Sh} {b:Bool} {v:Value} {d:DataW H} {p:List MemPlace}
 (hsh:sF P n true t=some ss) (hb:ef P t=b) (hval:Value.okWide P w .any base' t v) (h:DataW.Trod enc P w base sp held t v d p) (hwt:∀ k∈DataW.weights P t d,k≤reachBytes) :
 ∃ vs,Fits ss vs∧Rel fm (ghA w) (elemOf b vs) v:=by
 obtain⟨fuel,h⟩:=h;obtain⟨vs,h1,h2⟩:=GX (fm:=fm) n true t ss hsh fuel _ _ h hwt fun _=>qp hval;refine⟨vs,h1,?_⟩
 cases b with
 | true=>
   have:∃ cs,v=.agg cs:=by
    unfold ef at hb;unfold Value.okWide at hval;split at hval
    · obtain⟨cs,rfl,_⟩:=hval;exact⟨cs,rfl⟩
    · obtain⟨cs,rfl,_⟩:=hval;exact⟨cs,rfl⟩
    · rename_i k1 k2;split at hb<;>rename_i e
      · exact absurd e (k1 _)
      · exact absurd e (k2 _ _)
      · cases hb
   obtain⟨cs,rfl⟩:=this;refine .agg vs cs (by simpa[Value.cells] using h2.1) fun i hi=>?_;have:=h2.2 i hi;simpa[Value.cells,aag,aak] using this
 | false=>
   have hl:=h1.length;rw[EI hsh hb] at hl
   match vs,hl with
   | [x],_=>
     have:=h2.2 0 (by simp)
     have hv:v.cells = #[v]:=by
      cases v<;>first | rfl | exact(G5 hb hval).elim
     rw[hv] at this;exact this
def sZ:List (Bool×List Sh)→List DV→Prop
 | [],us=>us=[]
 | (b,ss)::r,us=>∃ vs us',us=elemOf b vs::us'∧Fits ss vs∧sZ r us'
def tS (P:Program):List TypeId→Option (List (Bool×List Sh))
 | []=>some []
 | t::ts=>match sF P 9 true t,tS P ts with | some s,some r=>some ((ef P t,s)::r) | _,_=>none
theorem Al {H:Type} {enc:TypeId×Value→H} {w:World} {base base':Nat} {sp:Nat→Bool} {held:Bool}:∀ (ts:List TypeId) (shs:List (Bool×List Sh)) (vs:List Value) (ds:List (DataW H)) (ps:List MemPlace),
 tS P ts=some shs→(∀ (j:Nat) t v,ts[j]? = some t→vs[j]? = some v→Value.okWide P w .any base' t v)→DataW.TrodAll enc P w base sp held ts vs ds ps→(∀ k∈DataW.weightsEach P ts ds,k≤reachBytes) →
 ∃ us:List DV,sZ shs us∧vs.length=us.length∧∀ i (h:i<us.length),Rel fm (ghA w) (us[i]) (vs.getD i undef)
 | [],shs,vs,ds,ps,h,hv,ht,hwt=>by
   cases h;cases vs<;>cases ds<;>simp[DataW.TrodAll] at ht
   exact⟨[],rfl,rfl,fun i hi=>by simp at hi⟩
 | t::ts,shs,vs,ds,ps,h,hv,ht,hwt=>by
   simp only[tS] at h;split at h
   · rename_i s r e1 e2;cases h;obtain⟨v,vs',d,ds',p,q,rfl,rfl,rfl,h1,h2⟩:=Go.ChangeShapes.trodAll_cons ht;obtain⟨u,f1,f2⟩:=Kv (fm:=fm) e1 rfl (hv 0 t v rfl rfl) h1 fun k hk=>hwt k (by simp only[DataW.weightsEach,aaL];exact .inl hk);obtain⟨us,f3,f4,f5⟩:=Al ts r vs' ds' q e2 (fun j t' v' k1 k2=>hv (j+1) t' v' (by simpa using k1) (by simpa using k2)) h2 fun k hk=>hwt k (by simp only[DataW.weightsEach,aaL];exact .inr hk);refine⟨elemOf (ef P t) u::us,⟨u,us,rfl,f1,f3⟩,by simp[f4],fun i hi=>?_⟩
     cases i with
     | zero=>exact f2
     | succ i=>simpa using f5 i (by simpa using hi)
   · cases h
theorem kD {H:Type} {enc:TypeId×Value→H} {W W':World} {sp':Nat→Bool} (hl:laidOutB P=true):∀ (ts:List TypeId) (vs:List Value) (ds:List (DataW H)) (ps:List MemPlace),
 (ts.all fun t=>P.readableRec t&&decide (t<P.types.size))=true→DataW.TrodAll enc P W 0 (fun _=>true) true ts vs ds ps→(∀ p∈ps,W.sameAt W' p)→(∀ p∈ps,sp' p.block=true) →
 DataW.TrodAll enc P W' 0 sp' true ts vs ds ps
 | [],vs,ds,ps,_,h,_,_=>by
   cases vs<;>cases ds<;>simp[DataW.TrodAll] at h ⊢
   exact h
 | t::ts,vs,ds,ps,hr,h,hs,hp=>by
   rw[aa3,aac,aac] at hr;obtain⟨v,vs',d,ds',p,q,rfl,rfl,rfl,h1,h2⟩:=Go.ChangeShapes.trodAll_cons h
   exact⟨p,q,WideElems.Trod_stays hl hr.1.1 (of_decide_eq_true hr.1.2) h1 (fun x hx=>hs x (List.mem_append_left _ hx)) (fun x hx=>hp x (List.mem_append_left _ hx)),
    kD hl ts vs' ds' q hr.2 h2 (fun x hx=>hs x (List.mem_append_right _ hx)) (fun x hx=>hp x (List.mem_append_right _ hx)),rfl⟩
theorem qd {H:Type} {enc:TypeId×Value→H} {T:Tab} (hT:dn P fm T) (hm:P.follows .mixedOrders=true) {g:Nat} {f:FuncId} {F:aj} {args:Array Value} {ts:List TypeId} {shs:List (Bool×List Sh)} {ds:List (DataW H)} {ps:List MemPlace} {sp:Nat→Bool} {held:Bool}
 (hg:T g=some (.code F)) (hf:fm g=some f) (hsh:tS P ts=some shs) (w:World) {base base':Nat} (hv:∀ (j:Nat) t v,ts[j]? = some t→args.toList[j]? = some v→Value.okWide P w .any base' t v)
 (ht:DataW.TrodAll enc P w base sp held ts args.toList ds ps) (hwt:(DataW.weightsEach P ts ds).all (· ≤ reachBytes)=true) (hrun:∀ us,sZ shs us→∃ st',(E T).F g us st0=some (.bool true,st')) (he:nf fm w) :
 Calls P f args w (fun e w'=>e=.returned (.bool true)∧Below w.heap.size w w'):=by
 obtain⟨us,h1,h2,h3⟩:=Al (fm:=fm) ts shs _ ds ps hsh hv ht fun k hk=>by simpa using aaf.1 hwt k hk
 obtain⟨st',hr⟩:=hrun us h1;refine tN hT hm hg hf hr w he ⟨by simpa using h2,fun i hi=>?_⟩;have:=h3 i hi;simpa[aag,aak] using this
end Go.D
end
section
namespace Go.D
variable {T:Tab}
def pst (st:St) (H:List HO) (K:List Nat):St:=⟨st.heap++H,st.bc++K,st.cur,st.heap.length,st.bc.length⟩
theorem A7 (st:St):st.enter=pst st [] []:=by
 simp[St.enter,pst]
def fin (st:St) (rs:List fa):Option (Ex×Fr×St)→Option (DV×St)
 | some (.exit _,_,_)=>none
 | some (.ret,fr,st')=>match eO st' fr rs with | some v=>(bB st st' v).map fun v'=>(v',st) | none=>none
 | some (.normal,fr,st')=>match eO st' fr rs with | some v=>(bB st st' v).map fun v'=>(v',st) | none=>none
 | none=>none
def KQ (rs:List fa):Option (Ex×Fr×St)→Option (DV×St)
 | some (.exit _,_,_)=>none
 | some (.ret,fr,st')=>(eO st' fr rs).map fun v=>(v,st')
 | some (.normal,fr,st')=>(eO st' fr rs).map fun v=>(v,st')
 | none=>none
theorem au {g:Nat} {f:aj} (h:T g=some (.code f)) (hp:f.dh=true) (args:List DV) (st:St) :
 (E T).F g args st=fin st f.results ((E T).C f.body (bq args 0) (pst st [] [])):=by
 rw[EF];simp only[dA,h,hp,if_true,A7];rcases (E T).C f.body (bq args 0) (pst st [] []) with _ | ⟨e,fr,st'⟩
 · rfl
 · cases e<;>rfl
theorem fq {g:Nat} {f:aj} (h:T g=some (.code f)) (hp:f.dh=false) (args:List DV) (st:St) :
 (E T).F g args st=KQ f.results ((E T).C f.body (bq args 0) st):=by
 rw[EF];simp only[dA,h,hp];rcases (E T).C f.body (bq args 0) st with _ | ⟨e,fr,st'⟩
 · rfl
 · cases e<;>rfl
@[simp] theorem RM (st:St) (rs:List fa) (fr:Fr) (st':St):fin st rs (some (.ret,fr,st'))=match eO st' fr rs with | some v=>(bB st st' v).map fun v'=>(v',st) | none=>none:=rfl
@[simp] theorem Ju (st:St) (rs:List fa) (fr:Fr) (st':St):fin st rs (some (.normal,fr,st'))=match eO st' fr rs with | some v=>(bB st st' v).map fun v'=>(v',st) | none=>none:=rfl
@[simp] theorem Qa (rs:List fa) (fr:Fr) (st':St):KQ rs (some (.ret,fr,st'))=(eO st' fr rs).map fun v=>(v,st'):=rfl
@[simp] theorem Il (rs:List fa) (fr:Fr) (st':St):KQ rs (some (.normal,fr,st'))=(eO st' fr rs).map fun v=>(v,st'):=rfl
attribute [simp] eO eW iH
@[simp] theorem TO (st st':St) (k:IntKind) (n:Int):aV st st' (.int k n)=some (.int k n):=rfl
@[simp] theorem R0 (st st':St) (b:Bool):aV st st' (.bool b)=some (.bool b):=rfl
@[simp] theorem Tq (st st':St) (s:List UInt8):aV st st' (.str s)=some (.str s):=rfl
@[simp] theorem RH (st st':St):aV st st' .b5=some .b5:=rfl
@[simp] theorem LI (st st':St):aV st st' .bn=some .bn:=rfl
@[simp] theorem OR (st st':St):aV st st' .bO=some .bO:=rfl
@[simp] theorem R6 (st st':St) (cs:List DV):aV st st' (.bW cs)=some (.bW cs):=rfl
@[simp] theorem dG (st st':St) (tag n:Nat) (tk:Tk) (nn:Bool) (xs:List DV):aV st st' (.list tag n tk nn xs)=some (.list tag n (match tk with | .own _ _=>.no | k=>k) nn xs):=rfl
@[simp] theorem QA (st st':St):cJ st st' []=some []:=rfl
@[simp] theorem LQ (st st':St) (v:DV) (r:List DV):cJ st st' (v::r)=match aV st st' v,cJ st st' r with | some a,some b=>some (a::b) | _,_=>none:=rfl
@[simp] theorem Q6 (st st':St):c5 st st' []=some []:=rfl
@[simp] theorem L3 (st st':St) (v:DV) (r:List DV):c5 st st' (v::r)=match bP st st' v,c5 st st' r with | some a,some b=>some (a::b) | _,_=>none:=rfl
@[simp] theorem LD (st st':St) (vs:List DV):bB st st' (.tuple vs)=(c5 st st' vs).map .tuple:=rfl
@[simp] theorem RO (st st':St) (vs:List DV):bP st st' (.agg vs)=(cJ st st' vs).map .agg:=rfl
@[simp] theorem RN (st st':St) (k:IntKind) (n:Int):bP st st' (.int k n)=some (.int k n):=rfl
@[simp] theorem Q0 (st st':St) (b:Bool):bP st st' (.bool b)=some (.bool b):=rfl
@[simp] theorem R1 (st st':St) (s:List UInt8):bP st st' (.str s)=some (.str s):=rfl
@[simp] theorem O2 (st st':St):bP st st' .b5=some .b5:=rfl
@[simp] theorem QM (st st':St) (tag n:Nat) (tk:Tk) (nn:Bool) (xs:List DV):bP st st' (.list tag n tk nn xs)=aV st st' (.list tag n tk nn xs):=rfl
@[simp] theorem RQ (st st':St) (n:Nat) (ag:Bool) (b off len:Nat) (cap:Option Nat):bP st st' (.hsl n ag b off len cap)=aV st st' (.hsl n ag b off len cap):=rfl
@[simp] theorem RG (st st':St) (k:IntKind) (n:Int):bB st st' (.int k n)=some (.int k n):=rfl
@[simp] theorem MX (st st':St) (b:Bool):bB st st' (.bool b)=some (.bool b):=rfl
@[simp] theorem RT (st st':St) (s:List UInt8):bB st st' (.str s)=some (.str s):=rfl
@[simp] theorem MZ (st st':St):bB st st' .b5=some .b5:=rfl
@[simp] theorem RP (st st':St) (vs:List DV):bB st st' (.agg vs)=(cJ st st' vs).map .agg:=rfl
@[simp] theorem Q3 (st st':St) (tag n:Nat) (tk:Tk) (nn:Bool) (xs:List DV):bB st st' (.list tag n tk nn xs)=aV st st' (.list tag n tk nn xs):=rfl
@[simp] theorem R8 (st st':St) (n:Nat) (ag:Bool) (b off len:Nat) (cap:Option Nat):bB st st' (.hsl n ag b off len cap)=aV st st' (.hsl n ag b off len cap):=rfl
@[simp] theorem PH (st:St) (H:List HO) (K:List Nat) (o:HO):(pst st H K).push o=pst st (H++[o]) K:=by simp[pst,St.push]
@[simp] theorem R5 (st:St) (H:List HO) (K:List Nat):(pst st H K).heap.length=st.heap.length+H.length:=by simp[pst]
@[simp] theorem RS (st:St) (H:List HO) (K:List Nat):(pst st H K).cur=st.cur:=rfl
@[simp] theorem wj (st:St) (H:List HO) (K:List Nat):(pst st H K).base=st.heap.length:=rfl
@[simp] theorem LM (st:St) (H:List HO) (K:List Nat):(pst st H K).aQ=st.bc.length:=rfl
theorem sK {α:Type} (J H:List α) (k:Nat):(J++H)[J.length+k]? = H[k]?:=by
 rw[aat (Nat.le_add_right _ _),Nat.add_sub_cancel_left]
@[simp high] theorem gE (st:St) (H:List HO) (K:List Nat) (k:Nat):(pst st H K).heap[st.heap.length+k]? = H[k]?:=sK _ _ _
@[simp high] theorem RL (st:St) (H:List HO) (K:List Nat) (k:Nat):(pst st H K).bc[st.bc.length+k]? = K[k]?:=sK _ _ _
def rowAt (H:List HO) (k:Nat):Option (CK×List DV):=match H[k]? with | some (.cells g vs)=>some (g,vs) | _=>none
@[simp] theorem J0 (g:CK) (vs:List DV) (H:List HO):rowAt (.cells g vs::H) 0=some (g,vs):=rfl
@[simp] theorem K7 (o:HO) (H:List HO) (k:Nat):rowAt (o::H) (k+1)=rowAt H k:=rfl
@[simp] theorem LV (g:CK) (vs:List DV) (J H:List HO):rowAt (J++.cells g vs::H) J.length=some (g,vs):=by simp[rowAt]
@[simp] theorem KO (o:HO) (J H:List HO) (k:Nat):rowAt (J++o::H) (J.length+(k+1))=rowAt H k:=by
  unfold rowAt;rw[sK];rfl
@[simp] theorem rh (st:St) (H:List HO) (K:List Nat) (k:Nat):(pst st H K).cells (st.heap.length+k)=rowAt H k:=by
  unfold St.cells rowAt;rw[gE];rfl
@[simp] theorem Ll (st:St) (H:List HO) (K:List Nat):(pst st H K).cells st.heap.length=rowAt H 0:=by simpa using rh st H K 0
@[simp] theorem AI (st:St) (H:List HO) (K:List Nat) (k n off:Nat) (v:DV):kU (pst st H K) n (.ptr (st.heap.length+k) off) v =
 match rowAt H k with
 | some (g,vs)=>if g.wr=true∧v.leaves.length=n∧off+n≤vs.length∧v.leaves.all DV.bp=true then some (pst st (H.set k (.cells g (cP vs off v.leaves))) K) else none
 | none=>none:=by
 unfold kU St.ll;simp only[rh,wj]
 cases h:rowAt H k with
 | none=>rfl
 | some p=>
   obtain⟨g,vs⟩:=p
   have hk:k<H.length:=by
    unfold rowAt at h;split at h
    · rename_i e;exact(aae.1 e).1
    · cases h
   cases hw:g.wr
   · simp[hw]
   · simp only[hw,if_true,true_and,Nat.le_add_right];split
     · rename_i hc;simp[pst,List.set_append_right]
     · rfl
@[simp] theorem Li (st:St) (H:List HO) (K:List Nat) (n off:Nat) (v:DV):kU (pst st H K) n (.ptr st.heap.length off) v =
 match rowAt H 0 with
 | some (g,vs)=>if g.wr=true∧v.leaves.length=n∧off+n≤vs.length∧v.leaves.all DV.bp=true then some (pst st (H.set 0 (.cells g (cP vs off v.leaves))) K) else none
 | none=>none:=AI st H K 0 n off v
attribute [simp] cP CK.wr iL
@[simp] theorem Nd (k:IntKind) (n:Int):(DV.int k n).bp=true:=rfl
@[simp] theorem LJ (b:Bool):(DV.bool b).bp=true:=rfl
@[simp] theorem ML (s:List UInt8):(DV.str s).bp=true:=rfl
@[simp] theorem PX (b o:Nat):(DV.ptr b o).bp=true:=rfl
@[simp] theorem Lz:DV.b5.bp=true:=rfl
@[simp] theorem LR (cs:List DV):(DV.bW cs).bp=true:=rfl
@[simp] theorem Lx (t n:Nat) (tk:Tk) (nn:Bool) (xs:List DV):(DV.list t n tk nn xs).bp=true:=rfl
@[simp] theorem NM (n:Nat) (ag:Bool) (b off len:Nat) (cap:Option Nat):(DV.hsl n ag b off len cap).bp=true:=rfl
@[simp] theorem Rl (b:Nat):(DV.map b).bp=true:=rfl
@[simp] theorem Iz:DV.bn.bp=true:=rfl
@[simp] theorem R7 (g:Nat) (a c:List DV):(DV.fn g a c).bp=true:=rfl
@[simp] theorem Kl:DV.bO.bp=true:=rfl
@[simp] theorem JI (l:Nat):(DV.yield l).bp=true:=rfl
@[simp] theorem J8 (b o:Nat):(DV.ptr b o).leaves=[.ptr b o]:=rfl
@[simp] theorem IM:DV.b5.leaves=[.b5]:=rfl
@[simp] theorem Km (n:Nat) (ag:Bool) (b off len:Nat) (cap:Option Nat):(DV.hsl n ag b off len cap).leaves=[.hsl n ag b off len cap]:=rfl
@[simp] theorem Lv (b:Nat):(DV.map b).leaves=[.map b]:=rfl
@[simp] theorem FO:DV.bn.leaves=[.bn]:=rfl
@[simp] theorem LS (g:Nat) (a c:List DV):(DV.fn g a c).leaves=[.fn g a c]:=rfl
@[simp] theorem Gr:DV.bO.leaves=[.bO]:=rfl
theorem Df (fr:Fr) (l:List Nat) (t:Nat):(fr.bG l).get t=if t∈l then fr.get t else .undef:=by
 induction l with
 | nil=>rfl
 | cons a l ih=>
   rw[A6];simp only[Dq,aav,ih];by_cases h:a=t
   · subst h;simp
   · have:t≠a:=fun e=>h e.symm;simp[h,this]
theorem AB (fr:Fr) (l:List Nat):(fr.bG l).bG l=fr.bG l:=by
 unfold Fr.bG;apply abA;intro t ht;have:=Df fr l t;rw[if_pos ht] at this;exact Prod.ext rfl this
theorem jW (live:List Nat) (a:RC) (fr:Fr) (st:St):(E T).C (.loop live a) fr st=(E T).C (.loop live a) (fr.bG live) st:=by
 rw[wS,wS live a (fr.bG live),AB]
theorem af {L:RC} {live:List Nat} {a:RC} (h:L=.loop live a) (fr:Fr) (st:St) :
 (E T).C L fr st=match (E T).C a (fr.bG live) st with
  | some (.normal,fr',st')=>(E T).C L fr' st'
  | some (.exit i,fr',st')=>some (.exit i,fr',st')
  | some (.ret,fr',st')=>some (.ret,fr',st')
  | none=>none:=by
 subst h;exact wS live a fr st
theorem Gd {o:ak} {fr:Fr} {st st':St} {v:DV} (hq:aH (al T) o.op=false) (h:(E T).N o fr st=some (v,st')):st'=st:=by
 have hF:∀ (g:Nat) (as_:List DV),al T g=true→(E T).F g as_ st=some (v,st')→st'=st:=by
  intro g as_ hg h;rw[EF] at h;simp only[dA] at h;unfold al at hg;split at h
  · cases h
  · rename_i e;rw[e] at hg;cases hg
  · simp only[aad,Prod.mk.injEq] at h;obtain⟨_,_,_,h⟩:=h;exact h.symm
  · rename_i f e;rw[e] at hg;simp only at hg;simp only[hg,if_true] at h;split at h
    · cases h
    · split at h
      · simp only[aad,Prod.mk.injEq] at h;obtain⟨_,_,_,h⟩:=h;exact h.symm
      · cases h
    · cases h
 rw[EN] at h;simp only[dX] at h;split at h
 · cases h
 · cases h;rfl
 · split at h
   · rename_i g args e;rw[e] at hq;exact hF g _ (by simpa[aH] using hq) h
   · rename_i e;rw[e] at hq;cases hq
   · rename_i f args e;split at h
     · split at h
       · rename_i hg;exact hF _ _ hg h
       · cases h
     · cases h
   · exact nm hq h
@[simp] theorem Ux (fr:Fr) (st:St) (sts:List St):(E T).S [] fr st sts=some (fr,sts):=ES _ _ _ _ _
theorem bE (o:ak) (r:List ak) (fr:Fr) (st:St) (sts:List St) :
 (E T).S (o::r) fr st sts=match (E T).N o fr st with
  | some (v,st')=>if aH (al T) o.op then (E T).S r (fr.put o.dst v) st' (st'::sts) else (E T).S r (fr.put o.dst v) st sts
  | none=>none:=ES _ _ _ _ _
theorem S_O:∀ (ops:List ak) (fr:Fr) (st:St) (sts:List St),((E T).S ops fr st (st::sts)).bind (fun p=>p.2.head?.map fun st'=>(p.1,st'))=(E T).O ops fr st
 | [],fr,st,sts=>by simp
 | o::r,fr,st,sts=>by
   rw[bE,JB]
   cases e:(E T).N o fr st with
   | none=>rfl
   | some p=>
     obtain⟨v,st'⟩:=p;simp only
     cases hl:aH (al T) o.op with
     | true=>simp only[if_true];exact S_O r _ st' (st::sts)
     | false=>
       obtain rfl:=Gd hl e;simp only[aaq,if_false];exact S_O r _ st' sts
@[simp] theorem Lf (ops:List ak) (live:List Nat) (fr:Fr) (st:St):(E T).C (.av ops [] [] live) fr st=(E T).C (.region ops live) fr st:=by
  rw[Dp,← S_O ops fr st [],EC];simp only[cT,gI]
  cases e:(E T).S ops fr st [st] with
  | none=>rfl
  | some p=>
    obtain⟨fr',sts⟩:=p;have hA:(E T).A fr' ops sts.reverse []=true:=EA _ _ _ _ _;simp only[hA,if_true,Option.bind_some];cases sts<;>rfl
theorem aF (ops:List ak) (c:Nat×List Nat) (chk:List (Nat×List Nat)) (live:List Nat) (fr:Fr) (st:St):(E T).C (.av ops [] (c::chk) live) fr st =
 match (E T).S ops fr st [st] with
 | some (fr',sts)=>if (E T).A fr' ops sts.reverse (c::chk)=true then (match sts with | st'::_=>some (.normal,fr'.bG live,st') | []=>none) else none
 | none=>none:=by
 rw[EC];simp only[cT,gI]
 all_goals cases (E T).S ops fr st [st] with
 | none=>rfl
 | some p=>obtain⟨fr',sts⟩:=p;rfl
@[simp] theorem Uy (fr:Fr) (ops:List ak) (sts:List St):(E T).A fr ops sts []=true:=EA _ _ _ _ _
theorem bN (fr:Fr) (ops:List ak) (sts:List St) (i:Nat) (vs:List Nat) (r:List (Nat×List Nat)) :
 (E T).A fr ops sts ((i,vs)::r)=((match ops[i]? with | some o=>(E T).K fr o sts vs | none=>false)&&(E T).A fr ops sts r):=EA _ _ _ _ _
@[simp] theorem Uw (fr:Fr) (o:ak) (sts:List St):(E T).K fr o sts []=true:=EK _ _ _ _ _
theorem bM (fr:Fr) (o:ak) (sts:List St) (j:Nat) (r:List Nat) :
 (E T).K fr o sts (j::r)=((match sts[j]? with
  | some st=>(match (E T).N o fr st,o.dst with | some (v,_),some d=>DV.beq v (fr.get d) | _,_=>false)
  | none=>false)&&(E T).K fr o sts r):=EK _ _ _ _ _
@[simp] theorem LF (v:DV):DV.beq v v=true:=DV.ou v
theorem cY {g:Nat} {f:aj} (h:T g=some (.code f)):al T g=f.dh:=by unfold al;rw[h]
def St.qF (st:St) (l:Nat) (o:HO):St:={ st with heap:=st.heap.set l o }
@[simp] theorem lY (st:St) (H:List HO) (K:List Nat) (k:Nat) (o:HO):(pst st H K).qF (st.heap.length+k) o=pst st (H.set k o) K:=by
  simp[St.qF,pst,List.set_append_right]
theorem A9 {g:Nat} {f:aj} (h:T g=some (.code f)):ez T g=true:=by unfold ez;rw[h]
theorem yU {f:X} {params live:List Nat} {assign body:RC} {fr:Fr} {st:St} {g:Nat} {first captured:List DV} {F:aj} (hf:f.ev (fr.bG live)=.fn g first captured) (hg:T g=some (.code F)) :
 (E T).C (.gK f params assign body live) fr st =
  match (E T).F g (first++[.yield st.heap.length]++captured) (st.push (.loop ⟨fr.bG live,params,assign,body,0,none⟩)) with
  | some (_,st')=>
    match st'.heap[st.heap.length]? with
    | some (.loop lo)=>if lo.state=1 then none else
     match lo.pending with
     | none=>some (.normal,fr.bG live,st'.qF st.heap.length (.loop { lo with state:=3 }))
     | some e=>some (e,fr.bG live,st'.qF st.heap.length (.loop { lo with state:=3 }))
    | _=>none
  | none=>none:=by
 rw[EC];simp only[cT,hf,A9 hg,if_true];rfl
theorem dE (g:Nat) (first captured args:List DV) (st:St):(E T).V (.fn g first captured) args st=(E T).F g (first++args++captured) st:=EV _ _ _ _
theorem yO {st:St} {H:List HO} {K:List Nat} {k:Nat} {lo:lB} {args:List DV} (h:H[k]? = some (.loop lo)) (hl:args.length=lo.params.length) :
 (E T).V (.yield (st.heap.length+k)) args (pst st H K) =
  match (E T).C lo.assign (c6 lo.fr lo.params args) (pst st H K) with
  | some (.normal,fr1,st1)=>
    match st1.heap[st.heap.length+k]? with
    | some (.loop lo1)=>
      if lo1.state=0 then
       match (E T).C lo.body fr1 (st1.qF (st.heap.length+k) (.loop { lo1 with state:=1 })) with
       | some (.normal,_,st2)=>
         match st2.heap[st.heap.length+k]? with
         | some (.loop lo2)=>some (.bool true,st2.qF (st.heap.length+k) (.loop { lo2 with state:=0,pending:=none }))
         | _=>none
       | some (.exit i,_,st2)=>
         match st2.heap[st.heap.length+k]? with
         | some (.loop lo2)=>some (.bool false,st2.qF (st.heap.length+k) (.loop { lo2 with state:=2,pending:=some (.exit i) }))
         | _=>none
       | some (.ret,_,st2)=>
         match st2.heap[st.heap.length+k]? with
         | some (.loop lo2)=>some (.bool false,st2.qF (st.heap.length+k) (.loop { lo2 with state:=2,pending:=some .ret }))
         | _=>none
       | none=>none
      else none
    | _=>none
  | _=>none:=by
 rw[EV];simp only[jm,gE,h,wj,Nat.le_add_right,hl,and_self,if_true];rcases (E T).C lo.assign (c6 lo.fr lo.params args) (pst st H K) with _ | ⟨e,fr1,st1⟩
 · rfl
 · cases e<;>try rfl
   simp only
   cases e1:st1.heap[st.heap.length+k]? with
   | none=>rfl
   | some o=>
     cases o<;>try rfl
     simp only;split
     · rename_i lo1 h0;show (match (E T).C lo.body fr1 (st1.qF (st.heap.length+k) (.loop { lo1 with state:=1 })) with | some (e,_,st2)=>_ | none=>none)=_;rcases (E T).C lo.body fr1 (st1.qF (st.heap.length+k) (.loop { lo1 with state:=1 })) with _ | ⟨e,fr2,st2⟩
       · rfl
       · cases e<;>rfl
     · rfl
@[simp] theorem Pv (f:X) (args:List X) (fr:Fr) (st:St):opE T (.bz f args) fr st=(E T).V (f.ev fr) (args.map (X.ev fr)) st:=rfl
attribute [simp] c6
def pM (tk:Tk) (len lo hi:Nat):Tk:=if hi=len then (if lo=0 then tk else if tk=.tight then .tight else .no) else .no
theorem gm {k:IntKind} {i:Int} {m:Nat} (h0:0≤i) (h1:i≤m):bnd (.int k i) m=some i.toNat:=by
 simp[bnd,h0,h1]
theorem ve {n en t:Nat} {tk:Tk} {nn:Bool} {xs:List DV} {k k':IntKind} {lo hi:Int} (hn:nn=true→en=n) (h0:0≤lo) (h1:lo≤hi) (h2:hi≤xs.length) :
 bS false n (.list t en tk nn xs) (some (.int k lo)) (some (.int k' hi)) none=some (.list t en (pM tk xs.length lo.toNat hi.toNat) nn ((xs.drop lo.toNat).take (hi.toNat-lo.toNat))):=by
 have e1:¬ (nn=true∧en≠n):=fun h=>h.2 (hn h.1);simp[bS,e1,gm (k:=k') (show 0≤hi by omega) h2,gm (k:=k) (m:=hi.toNat) h0 (by omega),pM]
theorem nZ {n en t:Nat} {tk:Tk} {nn:Bool} {xs:List DV} {k:IntKind} {lo:Int} (hn:nn=true→en=n) (h0:0≤lo) (h2:lo≤xs.length) :
 bS false n (.list t en tk nn xs) (some (.int k lo)) none none=some (.list t en (pM tk xs.length lo.toNat xs.length) nn (xs.drop lo.toNat)):=by
 have e1:¬ (nn=true∧en≠n):=fun h=>h.2 (hn h.1);have e:(xs.drop lo.toNat).take (xs.length-lo.toNat)=xs.drop lo.toNat:=aa8 (by simp);simp[bS,e1,gm (k:=k) (m:=xs.length) h0 (by omega),pM,e]
theorem Ho {n en t:Nat} {tk:Tk} {nn:Bool} {xs:List DV} {k:IntKind} {hi:Int} (hn:nn=true→en=n) (h0:0≤hi) (h2:hi≤xs.length) :
 bS false n (.list t en tk nn xs) none (some (.int k hi)) none=some (.list t en (pM tk xs.length 0 hi.toNat) nn (xs.take hi.toNat)):=by
 have e1:¬ (nn=true∧en≠n):=fun h=>h.2 (hn h.1);simp[bS,e1,gm (k:=k) (m:=xs.length) h0 (by omega),pM]
theorem wx {n:Nat} {s:List UInt8} {k k':IntKind} {lo hi:Int} (h0:0≤lo) (h1:lo≤hi) (h2:hi≤s.length) :
 bS true n (.str s) (some (.int k lo)) (some (.int k' hi)) none=some (.str ((s.drop lo.toNat).take (hi.toNat-lo.toNat))):=by
 simp[bS,gm (k:=k') (show 0≤hi by omega) h2,gm (k:=k) (m:=hi.toNat) h0 (by omega)]
theorem Dy {n:Nat} {s:List UInt8} {k:IntKind} {hi:Int} (h0:0≤hi) (h2:hi≤s.length) :
 bS true n (.str s) none (some (.int k hi)) none=some (.str (s.take hi.toNat)):=by
 simp[bS,gm (k:=k) (m:=s.length) h0 (by omega)]
@[simp] theorem JN (k:IntKind) (n:Int):(DV.int k n).aP=.int k n:=rfl
@[simp] theorem IA (b:Bool):(DV.bool b).aP=.bool b:=rfl
@[simp] theorem JF (s:List UInt8):(DV.str s).aP=.str s:=rfl
@[simp] theorem Io:DV.b5.aP=.b5:=rfl
@[simp] theorem Ly (t n:Nat) (nn:Bool) (xs:List DV):(DV.list t n .no nn xs).aP=.list t n .no nn xs:=rfl
@[simp] theorem GS (t n:Nat) (nn:Bool) (xs:List DV):(DV.list t n .tight nn xs).aP=.list t n .tight nn xs:=rfl
@[simp] theorem KW (t n a b:Nat) (nn:Bool) (xs:List DV):(DV.list t n (.own a b) nn xs).aP=.list t n .no nn xs:=rfl
@[simp] theorem N5 (k:IntKind) (n:Int):(DV.int k n).pure=true:=rfl
@[simp] theorem L6 (b:Bool):(DV.bool b).pure=true:=rfl
@[simp] theorem OH (s:List UInt8):(DV.str s).pure=true:=rfl
@[simp] theorem LX:DV.b5.pure=true:=rfl
@[simp] theorem RI (t n:Nat) (nn:Bool) (xs:List DV):(DV.list t n .no nn xs).pure=true:=rfl
@[simp] theorem Jx (t n:Nat) (nn:Bool) (xs:List DV):(DV.list t n .tight nn xs).pure=true:=rfl
def fR (n:Nat) (ag:Bool) (y:DV):Prop:=y.leaves.length=n∧y.leaves.all DV.pure=true∧(if ag then y=.agg y.leaves else y.leaves=[y])
theorem vB {v:DV} (h:v.pure=true):v.aP=v:=by
 cases v<;>first | rfl | (rename_i t n tk nn xs;cases tk<;>first | rfl | (simp[DV.pure] at h))
theorem dH:∀ {vs:List DV},vs.all DV.pure=true→vs.map DV.aP=vs
 | [],_=>rfl
 | v::r,h=>by
   rw[aa3,aac] at h;rw[aaS,vB h.1,dH h.2]
theorem iW {n:Nat} {ag:Bool} {ys:List DV} (h:∀ y∈ys,fR n ag y):(flat ys).all DV.pure=true:=by
 rw[aaf];intro v hv;obtain⟨y,hy,hv⟩:=aaH.1 hv;exact aaf.1 (h y hy).2.1 v hv
theorem fA {n:Nat} {ag:Bool}:∀ {ys:List DV},(∀ y∈ys,fR n ag y)→chunk n ag ys.length (flat ys)=ys
 | [],_=>rfl
 | y::r,h=>by
   obtain⟨h1,h2,h3⟩:=h y (aap ..);have e:flat (y::r)=y.leaves++flat r:=by simp[flat]
   have ih:=fA (ys:=r) fun z hz=>h z (aan _ hz);rw[aax,chunk,e];have e1:(y.leaves++flat r).take n=y.leaves:=by rw[← h1];simp
   have e2:(y.leaves++flat r).drop n=flat r:=by rw[← h1];simp
   rw[e1,e2,ih]
   cases ag with
   | true=>simp only[if_true] at h3 ⊢;rw[← h3]
   | false=>simp only[aaq,if_false] at h3 ⊢;rw[h3];rfl
theorem rz {st:St} {n t:Nat} {tk:Tk} {ys:List DV}:cd st n (.list t n tk true ys)=some (ys.length,flat ys):=by simp[cd]
theorem CW {st:St} {n n' t by_:Nat} {ag:Bool} {tk:Tk} {nn:Bool} {xs:List DV} {y:DV} (hy:cd st n y=some (0,[])):bL st n ag by_ (.list t n' tk nn xs) y=some (.list t n' tk nn xs,st):=by
 simp[bL,hy]
theorem yF {st:St} {H:List HO} {K:List Nat} {n n' t t' by_:Nat} {ag:Bool} {tk tk':Tk} {nn:Bool} {xs ys:List DV} (hx:nn=false∨(nn=true∧tk=.tight∧n'=n)) (hn:0<n) (hy:ys≠[]) (he:∀ y∈ys,fR n ag y)
 (hr:(xs.length+ys.length)*by_≤aD) (hr2:xs.length+ys.length≤aD) :
 bL (pst st H K) n ag by_ (.list t n' tk nn xs) (.list t' n tk' true ys)=some (.list st.cur n (.own (st.bc.length+K.length) 0) true (xs++ys),pst st H (K++[0])):=by
 have hl:ys.length≠0:=fun h=>hy (aaU.1 h);have hp:(flat ys).all DV.pure=true:=iW he;have hc:=fA he;have h0:¬ n=0:=by omega
 have h1:¬ (nn=true∧n'≠n):=by rcases hx with h | ⟨_,_,h⟩<;>simp[h]
 have h2:¬ ((xs.length+ys.length)*by_>aD):=by omega
 have h3:¬ (xs.length+ys.length>aD):=by omega
 simp only[bL,rz,dH hp,hc,hl,h0,h1,h2,h3,hp,if_false,Bool.not_true,aaq,or_false];rcases hx with rfl | ⟨rfl,rfl,_⟩<;>simp[pst]
theorem za {st:St} {H:List HO} {K:List Nat} {n t t' by_ k s:Nat} {ag:Bool} {tk':Tk} {xs ys:List DV} (hk:K[k]? = some s) (hn:0<n) (hy:ys≠[]) (he:∀ y∈ys,fR n ag y)
 (hr:(xs.length+ys.length)*by_≤aD) (hr2:xs.length+ys.length≤aD) :
 bL (pst st H K) n ag by_ (.list t n (.own (st.bc.length+k) s) true xs) (.list t' n tk' true ys)=some (.list st.cur n (.own (st.bc.length+k) (s+1)) true (xs++ys),pst st H (K.set k (s+1))):=by
 have hl:ys.length≠0:=fun h=>hy (aaU.1 h);have hp:(flat ys).all DV.pure=true:=iW he;have hc:=fA he;have h0:¬ n=0:=by omega
 have h2:¬ ((xs.length+ys.length)*by_>aD):=by omega
 have h3:¬ (xs.length+ys.length>aD):=by omega
 simp only[bL,rz,dH hp,hc,hl,h0,h2,h3,hp,if_false,Bool.not_true,aaq,or_false,ne_eq,not_true_eq_false,and_false];simp[hk];simp[pst,List.set_append_right]
def Acc (st:St) (K:List Nat) (n:Nat) (xs:List DV) (v:DV):Prop:=
 (xs=[]∧∃ t n' tk,v=.list t n' tk false [])∨∃ k s,v=.list st.cur n (.own (st.bc.length+k) s) true xs∧K[k]? = some s
theorem dt (st:St) (K:List Nat) (n t n':Nat) (tk:Tk):Acc st K n [] (.list t n' tk false []):=.inl ⟨rfl,t,n',tk,rfl⟩
theorem dZ {st:St} {H:List HO} {K:List Nat} {n t by_:Nat} {ag:Bool} {tk:Tk} {xs ys:List DV} {v:DV} (h:Acc st K n xs v) (hn:0<n) (hy:ys≠[]) (he:∀ y∈ys,fR n ag y)
 (hr:(xs.length+ys.length)*by_≤aD) (hr2:xs.length+ys.length≤aD) :
 ∃ v' K',bL (pst st H K) n ag by_ v (.list t n tk true ys)=some (v',pst st H K')∧Acc st K' n (xs++ys) v':=by
 rcases h with ⟨rfl,t,n',tk,rfl⟩ | ⟨k,s,rfl,hk⟩
 · exact⟨_,_,yF (.inl rfl) hn hy he hr hr2,.inr ⟨K.length,0,rfl,by simp⟩⟩
 · refine⟨_,_,za hk hn hy he hr hr2,.inr ⟨k,s+1,rfl,?_⟩⟩;have:=(aae.1 hk).1;simp[this]
theorem j6 {st:St} {K:List Nat} {n:Nat} {xs:List DV} {v:DV} {st':St} (h:Acc st K n xs v):∃ t n' tk nn,aV st st' v=some (.list t n' tk nn xs)∧(nn=false→xs=[])∧(nn=true→n'=n)∧(tk=.no∨nn=false):=by
 rcases h with ⟨rfl,t,n',tk,rfl⟩ | ⟨k,s,rfl,hk⟩
 · exact⟨t,n',_,false,rfl,fun _=>rfl,(fun h=>by cases h),.inr rfl⟩
 · exact⟨_,n,_,true,rfl,(fun h=>by cases h),fun _=>rfl,.inl rfl⟩
theorem dM {st:St} {K:List Nat} {n:Nat} {xs:List DV} {v:DV} (h:Acc st K n xs v):∃ t n' tk nn,v=.list t n' tk nn xs:=by
 rcases h with ⟨rfl,t,n',tk,rfl⟩ | ⟨k,s,rfl,hk⟩
 · exact⟨_,_,_,_,rfl⟩
 · exact⟨_,_,_,_,rfl⟩
theorem ar {n:Int} (h:-9223372036854775808≤n∧n≤9223372036854775807):IntKind.i64.wrap n=n:=IntWalk.i64_in n h
end Go.D
end
