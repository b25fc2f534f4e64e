import Derived.Test.YtljfiehklfefbaaGreatDoorChecked
import Derived.KernelRfl
import Derived.Test.YtljfiehklfefbaaGreatDoorM1
/-! Texts 2 of this claim, joined. -/
section
namespace Go.D.Tab
@[simp] def σ (d:Nat) (x:ROp):al:=⟨some d,x,none⟩
@[simp] def τ (d:Nat) (x:ROp) (a:Nat) (b:Bool):al:=⟨some d,x,some (a,b)⟩
@[simp] def κ (n:Nat):D.X:=.c (.int .i64 (.ofNat n))
@[simp] def μ (d a:Nat):al:=⟨some d,.mv (.t a),none⟩
@[simp] def η (d a:Nat):al:=⟨some d,.mv (.c (.int .i64 (.ofNat a))),none⟩
@[simp] def φ (d k a:Nat):al:=⟨some d,.gd k (.t a),none⟩
@[simp] def ρ (d a:Nat):al:=⟨some d,.load 1 false (.t a),none⟩
@[simp] def Λ (d n a:Nat):al:=⟨some d,.load n true (.t a),none⟩
@[simp] def β (d:Nat) (o:BinOp) (a b:Nat):al:=⟨some d,.bin o (.t a) (.t b),none⟩
@[simp] def γ (d:Nat) (o:BinOp) (a b:Nat):al:=⟨some d,.bin o (.t a) (.c (.int .i64 (.ofNat b))),none⟩
@[simp] def ε (d a i:Nat):al:=⟨some d,.extract (.t a) i,none⟩
@[simp] def ν (d:Nat) (k:xT) (a:Nat):al:=⟨some d,.len k (.t a),none⟩
@[simp] def ξ (d a b:Nat):al:=⟨some d,.pick (.t a) (.t b) (.c (.bool false)),none⟩
@[simp] def ζ (d a b:Nat):al:=⟨some d,.pick (.t a) (.c (.bool true)) (.t b),none⟩
@[simp] def ι (d n a b:Nat):al:=⟨some d,.aJ n (.t a) (.t b),none⟩
@[simp] def ω (n a b:Nat):al:=⟨none,.store n (.t a) (.t b),none⟩
@[simp] def Μ (d a g:Nat) (b:Bool):al:=⟨some d,.mv (.t a),some (g,b)⟩
@[simp] def Φ (d k a g:Nat) (b:Bool):al:=⟨some d,.gd k (.t a),some (g,b)⟩
@[simp] def Ρ (d a g:Nat) (b:Bool):al:=⟨some d,.load 1 false (.t a),some (g,b)⟩
@[simp] def δ:DV:=.int .i64 (.ofNat 0)
@[simp] def θ:DV:=.list 0 0 .no false []
abbrev Ω:=List al
@[simp] def alj:Ω:=[σ 1 (.box 21 (.t 0)),σ 2 (.mv (.c θ)),η 3 0]
@[simp] def ae2:Ω:=[Λ 18 21 1,σ 19 (.call 13 [(.t 18)]),μ 4 19]
@[simp] def akx:Ω:=[μ 20 4,γ 21 .neq 20 0]
@[simp] def aiM:Ω:=[μ 22 4,σ 2 (.mv (.c θ)),μ 3 22]
@[simp] def aic:Ω:=[φ 24 0 1,ρ 25 24,σ 26 (.call 27 [(.t 25)]),μ 23 26,ε 27 23 0,ε 28 23 1,μ 5 27,μ 6 28]
@[simp] def afP:Ω:=[φ 29 1 1,ρ 30 29,σ 31 (.call 29 [(.t 30)]),μ 7 31]
@[simp] def afA:Ω:=[φ 32 20 1,ρ 33 32,μ 8 33]
@[simp] def amW:Ω:=[σ 9 (.mv (.c θ))]
@[simp] def agZ:Ω:=[σ 10 (.mv (.c (.bool false))),σ 11 (.mv (.c (.int .u8 (.ofNat 0))))]
@[simp] def ahr:Ω:=[μ 34 5,ν 35 .slice 34,η 36 0]
@[simp] def OW:Ω:=[β 37 .lss 36 35]
@[simp] def NG:Ω:=[ι 38 3 34 36,Λ 39 3 38,σ 13 (.alloc [δ,δ,δ]),ω 3 13 39]
@[simp] def Qb:Ω:=[μ 40 7,φ 41 0 13,ρ 42 41,σ 43 (.br (.t 40) [(.t 42)]),σ 14 (.alloc [δ,δ,δ]),ω 3 14 43]
@[simp] def Ua:Ω:=[φ 44 0 13,ρ 45 44,φ 46 1 13,ρ 47 46,φ 48 2 13,ρ 49 48,φ 50 0 14,ρ 51 50,σ 52 (.build [δ,δ,δ,δ,δ,δ] [(0,1,(.t 45)),(1,1,(.t 47)),(2,1,(.t 49)),(3,1,(.t 51))]),σ 15 (.alloc [δ,δ,δ,δ,δ,δ]),ω 6 15 52]
@[simp] def Mp:Ω:=[φ 53 3 15,ρ 54 53,γ 55 .eql 54 0]
@[simp] def ON:Ω:=[φ 56 2 1,φ 57 0 56,ρ 58 57,φ 59 3 15,ω 1 59 58]
@[simp] def abM:Ω:=[φ 60 0 1,ρ 61 60,φ 62 0 13,ρ 63 62,σ 64 (.index (.t 61) (.t 63)),μ 16 64]
@[simp] def Ps:Ω:=[φ 65 2 13,ρ 66 65,γ 67 .eql 66 1,μ 68 67,Φ 69 2 13 68 false,Ρ 70 69 68 false,τ 71 (.bin .eql (.t 70) (κ 2)) 68 false,ζ 72 68 71,μ 17 72]
@[simp] def adx:Ω:=[μ 74 17,μ 75 74,Φ 76 2 13 75 false,Ρ 77 76 75 false,τ 78 (.bin .eql (.t 77) (κ 3)) 75 false,ζ 79 75 78,μ 73 79]
@[simp] def O2:Ω:=[μ 80 16,φ 81 3 15,ρ 82 81,σ 83 (.call 30 [(.t 80),(.t 82)]),φ 84 1 14,ρ 85 84,β 86 .add 83 85,φ 87 4 15,ω 1 87 86]
@[simp] def acs:Ω:=[φ 89 2 13,ρ 90 89,γ 91 .eql 90 7,μ 88 91]
@[simp] def P5:Ω:=[μ 92 8,σ 93 (.aJ 1 (.t 92) (κ 0)),ρ 94 93,φ 95 3 15,ρ 96 95,σ 97 (.call 31 [(.t 94),(.t 96)]),φ 98 4 15,ω 1 98 97]
@[simp] def aaA:Ω:=[μ 99 8,σ 100 (.slice false 1 (.t 99) (some (κ 1)) none none),μ 8 100]
def rD:RC:=.block 2 (.seq (.region adx [1,7,8,9,10,11,13,14,15,16,17,34,35,36,73]) (.cond (.t 73) (.au O2 [] [] [1,7,8,9,10,11,14,15,16,17,34,35,36]) (.seq (.region acs [1,7,8,9,10,11,14,15,16,17,34,35,36,88]) (.cond (.t 88) (.seq (.au P5 [] [] [1,7,8,9,10,11,14,15,16,17,34,35,36]) (.region aaA [1,7,8,9,10,11,14,15,16,17,34,35,36])) .skip))))
@[simp] def adI:Ω:=[μ 101 17,μ 102 101,Φ 103 2 14 102 true,Ρ 104 103 102 true,τ 105 (.bin .eql (.t 104) (κ 1)) 102 true,ξ 106 102 105,μ 107 106,Μ 108 10 107 true,ξ 109 107 108,μ 110 109,Μ 111 9 110 true,Μ 112 9 110 true,τ 113 (.len .slice (.t 112)) 110 true,τ 114 (.bin .sub (.t 113) (κ 1)) 110 true,τ 115 (.aJ 6 (.t 111) (.t 114)) 110 true,Φ 116 3 115 110 true,Ρ 117 116 110 true,Φ 118 3 15 110 true,Ρ 119 118 110 true,τ 120 (.bin .eql (.t 117) (.t 119)) 110 true,ξ 121 110 120]
@[simp] def TO:Ω:=[μ 122 11,μ 123 16,φ 124 3 15,ρ 125 124,σ 126 (.call 32 [(.t 122),(.t 123),(.t 125)]),φ 127 5 15,ω 1 127 126]
@[simp] def NK:Ω:=[μ 128 17,μ 129 128,Φ 130 2 14 129 true,Ρ 131 130 129 true,τ 132 (.bin .eql (.t 131) (κ 1)) 129 true,ξ 133 129 132,μ 134 16,μ 10 133,μ 11 134]
@[simp] def Yv:Ω:=[μ 135 9,Λ 136 6 15,σ 137 (.lit 6 true [δ,δ,δ,δ,δ,δ] 1 [(0,(.t 136))]),σ 138 (.append 6 true 48 (.t 135) (.t 137)),μ 9 138]
@[simp] def Uu:Ω:=[γ 139 .add 36 1,μ 36 139]
def dy:RC:=(.seq (.region OW [1,7,8,9,10,11,34,35,36,37]) (.seq (.cond (.t 37) .skip (.exit 0)) (.seq (.block 1 (.seq (.region NG [1,7,8,9,10,11,13,34,35,36]) (.seq (.region Qb [1,7,8,9,10,11,13,14,34,35,36]) (.seq (.region Ua [1,7,8,9,10,11,13,14,15,34,35,36]) (.seq (.seq (.region Mp [1,7,8,9,10,11,13,14,15,34,35,36,55]) (.cond (.t 55) (.region ON [1,7,8,9,10,11,13,14,15,34,35,36]) .skip)) (.seq (.region abM [1,7,8,9,10,11,13,14,15,16,34,35,36]) (.seq (.region Ps [1,7,8,9,10,11,13,14,15,16,17,34,35,36]) (.seq rD (.seq (.seq (.au adI [] [] [1,7,8,9,11,14,15,16,17,34,35,36,121]) (.cond (.t 121) (.region TO [1,7,8,9,14,15,16,17,34,35,36]) .skip)) (.seq (.region NK [1,7,8,9,10,11,15,34,35,36]) (.region Yv [1,7,8,9,10,11,34,35,36]))))))))))) (.region Uu [1,7,8,9,10,11,34,35,36]))))
def uh:RC:=.loop [1,7,8,9,10,11,34,35,36] dy
@[simp] def TE:Ω:=[μ 140 9,μ 2 140,η 3 0]
def f10:an:=⟨[.t 2,.t 3],(.seq (.region alj [1]) (.seq (.seq (.region ae2 [1,4]) (.seq (.region akx [1,4,21]) (.cond (.t 21) (.seq (.region aiM [2,3]) .ret) .skip))) (.seq (.region aic [1,5]) (.seq (.region afP [1,5,7]) (.seq (.region afA [1,5,7,8]) (.seq (.region amW [1,5,7,8,9]) (.seq (.region agZ [1,5,7,8,9,10,11]) (.seq (.seq (.region ahr [1,7,8,9,10,11,34,35,36]) (.block 0 uh)) (.seq (.region TE [2,3]) .ret))))))))),true⟩
@[simp] def ak4:Ω:=[σ 1 (.box 21 (.t 0)),η 2 0]
@[simp] def afT:Ω:=[φ 8 0 1,ρ 9 8,σ 10 (.call 27 [(.t 9)]),μ 7 10,ε 11 7 0,ε 12 7 1,μ 3 11,μ 4 12]
@[simp] def afm:Ω:=[μ 13 4,γ 14 .neq 13 0]
@[simp] def aiW:Ω:=[μ 15 4,μ 2 15]
@[simp] def akq:Ω:=[φ 16 0 1,ρ 17 16,σ 18 (.call 40 [(.t 17),(.c (.int .u8 (.ofNat 3)))]),γ 19 .geq 18 0]
@[simp] def aiJ:Ω:=[η 2 4]
@[simp] def agr:Ω:=[φ 20 1 1,ρ 21 20,φ 22 0 1,ρ 23 22,ν 24 .str 23,σ 25 (.call 41 [(.t 21),(.t 24)]),σ 26 (.un .not (.t 25)),μ 27 26,Φ 28 2 1 27 false,τ 29 (.load 17 true (.t 28)) 27 false,τ 30 (.call 42 [(.t 29)]) 27 false,τ 31 (.un .not (.t 30)) 27 false,ζ 32 27 31,μ 33 32,Φ 34 19 1 33 false,Ρ 35 34 33 false,τ 36 (.call 43 [(.t 35),(κ 16)]) 33 false,τ 37 (.un .not (.t 36)) 33 false,ζ 38 33 37,μ 39 38,Φ 40 20 1 39 false,Ρ 41 40 39 false,τ 42 (.len .slice (.t 41)) 39 false,Φ 43 0 1 39 false,Ρ 44 43 39 false,τ 45 (.call 44 [(.t 44),(.c (.str [2]))]) 39 false,τ 46 (.bin .neq (.t 42) (.t 45)) 39 false,ζ 47 39 46]
@[simp] def afz:Ω:=[η 2 2]
@[simp] def ajE:Ω:=[φ 48 20 1,ρ 49 48,ν 50 .slice 49,η 51 0]
@[simp] def agE:Ω:=[β 52 .lss 51 50]
@[simp] def Rw:Ω:=[ι 53 1 49 51,ρ 54 53,μ 6 54]
@[simp] def Qo:Ω:=[μ 55 6,σ 56 (.bin .eql (.t 55) (.c (.str []))),μ 57 56,Μ 58 6 57 false,τ 59 (.call 43 [(.t 58),(κ 8)]) 57 false,τ 60 (.un .not (.t 59)) 57 false,ζ 61 57 60]
@[simp] def YE:Ω:=[η 2 2]
@[simp] def O1:Ω:=[γ 62 .add 51 1,μ 51 62]
def v9:RC:=(.seq (.region agE [49,50,51,52]) (.seq (.cond (.t 52) .skip (.exit 0)) (.seq (.block 1 (.seq (.region Rw [6,49,50,51]) (.seq (.region Qo [49,50,51,61]) (.cond (.t 61) (.seq (.region YE [2]) .ret) .skip)))) (.region O1 [49,50,51]))))
def ye:RC:=.loop [49,50,51] v9
@[simp] def Wy:Ω:=[η 2 0]
def f13:an:=⟨[.t 2],(.seq (.region ak4 [1]) (.seq (.seq (.region afT [1,4]) (.seq (.region afm [1,4,14]) (.cond (.t 14) (.seq (.region aiW [2]) .ret) .skip))) (.seq (.seq (.region akq [1,19]) (.cond (.t 19) (.seq (.region aiJ [2]) .ret) .skip)) (.seq (.seq (.au agr [] [] [1,47]) (.cond (.t 47) (.seq (.region afz [2]) .ret) .skip)) (.seq (.seq (.region ajE [49,50,51]) (.block 0 ye)) (.seq (.region Wy [2]) .ret)))))),true⟩
@[simp] def ai8:Ω:=[η 4 0,η 5 0]
@[simp] def agL:Ω:=[μ 6 1,σ 7 (.call 51 [(.t 6)]),σ 8 (.un .not (.t 7))]
@[simp] def agk:Ω:=[η 4 0,η 5 5]
@[simp] def ah5:Ω:=[μ 9 0,ν 10 .str 9,γ 11 .gtr 10 4096]
@[simp] def afB:Ω:=[η 4 0,η 5 3]
@[simp] def aiu:Ω:=[μ 12 0,μ 13 1,σ 14 (.call 31 [(.t 12),(.t 13)]),μ 4 14,η 5 0]
def f17:an:=⟨[.t 4,.t 5],(.seq (.region ai8 [0,1]) (.seq (.seq (.region agL [0,1,8]) (.cond (.t 8) (.seq (.region agk [4,5]) .ret) .skip)) (.seq (.seq (.region ah5 [0,1,11]) (.cond (.t 11) (.seq (.region afB [4,5]) .ret) .skip)) (.seq (.region aiu [4,5]) .ret)))),true⟩
@[simp] def alr:Ω:=[η 2 0]
@[simp] def ae8:Ω:=[μ 4 0,σ 5 (.call 40 [(.c (.str [105,106,108,39,46,44,58,59,33,124])),(.t 4)]),γ 6 .geq 5 0,μ 3 6]
@[simp] def ahC:Ω:=[η 2 2]
@[simp] def agO:Ω:=[μ 8 0,σ 9 (.call 40 [(.c (.str [102,116,114,40,41,91,93,123,125,45,34,94,95,126,96,73,32])),(.t 8)]),γ 10 .geq 9 0,μ 7 10]
@[simp] def ame:Ω:=[η 2 3]
@[simp] def ahx:Ω:=[μ 12 0,σ 13 (.bin .eql (.t 12) (.c (.int .u8 (.ofNat 109)))),μ 14 13,Μ 15 0 14 false,τ 16 (.bin .eql (.t 15) (.c (.int .u8 (.ofNat 119)))) 14 false,ζ 17 14 16,μ 11 17]
@[simp] def aja:Ω:=[η 2 7]
@[simp] def af3:Ω:=[μ 19 0,σ 20 (.bin .eql (.t 19) (.c (.int .u8 (.ofNat 77)))),μ 21 20,Μ 22 0 21 false,τ 23 (.bin .eql (.t 22) (.c (.int .u8 (.ofNat 87)))) 21 false,ζ 24 21 23,μ 18 24]
@[simp] def ajB:Ω:=[η 2 8]
@[simp] def akG:Ω:=[μ 26 0,σ 27 (.bin .geq (.t 26) (.c (.int .u8 (.ofNat 65)))),μ 28 27,Μ 29 0 28 true,τ 30 (.bin .leq (.t 29) (.c (.int .u8 (.ofNat 90)))) 28 true,ξ 31 28 30,μ 25 31]
@[simp] def MF:Ω:=[η 2 6]
@[simp] def UM:Ω:=[μ 33 0,σ 34 (.bin .geq (.t 33) (.c (.int .u8 (.ofNat 97)))),μ 35 34,Μ 36 0 35 true,τ 37 (.bin .leq (.t 36) (.c (.int .u8 (.ofNat 122)))) 35 true,ξ 38 35 37,μ 39 38,Μ 40 0 39 false,τ 41 (.bin .geq (.t 40) (.c (.int .u8 (.ofNat 48)))) 39 false,Μ 42 41 39 false,Μ 43 0 42 true,τ 44 (.bin .leq (.t 43) (.c (.int .u8 (.ofNat 57)))) 42 true,τ 45 (.pick (.t 42) (.t 44) (.c (.bool false))) 39 false,ζ 46 39 45,μ 32 46]
@[simp] def acn:Ω:=[η 2 5]
@[simp] def acS:Ω:=[μ 48 0,σ 49 (.bin .gtr (.t 48) (.c (.int .u8 (.ofNat 32)))),μ 50 49,Μ 51 0 50 true,τ 52 (.bin .leq (.t 51) (.c (.int .u8 (.ofNat 126)))) 50 true,ξ 53 50 52,μ 47 53]
@[simp] def OY:Ω:=[η 2 6]
@[simp] def ZE:Ω:=[η 2 0]
def f21:an:=⟨[.t 2],(.seq (.region alr [0]) (.seq (.block 0 (.seq (.region ae8 [0,3]) (.cond (.t 3) (.seq (.region ahC [2]) .ret) (.seq (.region agO [0,7]) (.cond (.t 7) (.seq (.region ame [2]) .ret) (.seq (.region ahx [0,11]) (.cond (.t 11) (.seq (.region aja [2]) .ret) (.seq (.region af3 [0,18]) (.cond (.t 18) (.seq (.region ajB [2]) .ret) (.seq (.region akG [0,25]) (.cond (.t 25) (.seq (.region MF [2]) .ret) (.seq (.region UM [0,32]) (.cond (.t 32) (.seq (.region acn [2]) .ret) (.seq (.region acS [47]) (.cond (.t 47) (.seq (.region OY [2]) .ret) .skip))))))))))))))) (.seq (.region ZE [2]) .ret))),true⟩
@[simp] def ajV:Ω:=[η 6 0,η 7 0]
@[simp] def ajL:Ω:=[μ 13 0,ν 14 .slice 13,γ 15 .gtr 14 4096]
@[simp] def akA:Ω:=[η 6 0,η 7 3]
@[simp] def agQ:Ω:=[μ 16 0,ν 17 .slice 16,η 18 0]
@[simp] def ak2:Ω:=[β 19 .lss 18 17]
@[simp] def afS:Ω:=[ι 20 6 16 18,Λ 21 6 20,σ 9 (.alloc [δ,δ,δ,δ,δ,δ]),ω 6 9 21]
@[simp] def afJ:Ω:=[φ 22 4 9,ρ 23 22,γ 24 .lss 23 0,μ 25 24,Φ 26 4 9 25 false,Ρ 27 26 25 false,τ 28 (.bin .gtr (.t 27) (κ 4095)) 25 false,ζ 29 25 28,μ 30 29,Φ 31 5 9 30 false,Ρ 32 31 30 false,τ 33 (.bin .lss (.t 32) (.c (.int .i64 (.negSucc 63)))) 30 false,ζ 34 30 33,μ 35 34,Φ 36 5 9 35 false,Ρ 37 36 35 false,τ 38 (.bin .gtr (.t 37) (κ 0)) 35 false,ζ 39 35 38]
@[simp] def al4:Ω:=[η 6 0,η 7 2]
@[simp] def aft:Ω:=[γ 40 .add 18 1,μ 18 40]
def pQ:RC:=(.seq (.region ak2 [0,1,2,16,17,18,19]) (.seq (.cond (.t 19) .skip (.exit 0)) (.seq (.block 1 (.seq (.region afS [0,1,2,9,16,17,18]) (.seq (.region afJ [0,1,2,16,17,18,39]) (.cond (.t 39) (.seq (.region al4 [6,7]) .ret) .skip)))) (.region aft [0,1,2,16,17,18]))))
def ve:RC:=.loop [0,1,2,16,17,18] pQ
@[simp] def ajK:Ω:=[μ 41 1,γ 42 .lss 41 0,μ 43 42,Μ 44 2 43 false,Μ 45 1 43 false,τ 46 (.bin .lss (.t 44) (.t 45)) 43 false,ζ 47 43 46,μ 48 47,Μ 49 2 48 false,Μ 50 0 48 false,τ 51 (.len .slice (.t 50)) 48 false,τ 52 (.bin .gtr (.t 49) (.t 51)) 48 false,ζ 53 48 52]
@[simp] def abV:Ω:=[η 6 0,η 7 5]
@[simp] def ZL:Ω:=[η 10 0]
@[simp] def Sr:Ω:=[μ 54 0,μ 55 1,μ 56 2,σ 57 (.slice false 6 (.t 54) (some (.t 55)) (some (.t 56)) none),ν 58 .slice 57,η 59 0]
@[simp] def Ou:Ω:=[β 60 .lss 59 58]
@[simp] def YX:Ω:=[μ 61 59,ι 62 6 57 59,Λ 63 6 62,σ 12 (.alloc [δ,δ,δ,δ,δ,δ]),μ 11 61,ω 6 12 63]
@[simp] def abY:Ω:=[μ 64 10,φ 65 4 12,ρ 66 65,β 67 .add 64 66,μ 10 67]
@[simp] def Ll:Ω:=[μ 68 11,γ 69 .gtr 68 0]
@[simp] def adj:Ω:=[μ 70 10,φ 71 5 12,ρ 72 71,β 73 .add 70 72,μ 10 73]
@[simp] def Zu:Ω:=[γ 74 .add 59 1,μ 59 74]
def zw:RC:=(.seq (.region Ou [10,57,58,59,60]) (.seq (.cond (.t 60) .skip (.exit 2)) (.seq (.block 3 (.seq (.region YX [10,11,12,57,58,59]) (.seq (.region abY [10,11,12,57,58,59]) (.seq (.region Ll [10,12,57,58,59,69]) (.cond (.t 69) (.region adj [10,57,58,59]) .skip))))) (.region Zu [10,57,58,59]))))
def yC:RC:=.loop [10,57,58,59] zw
@[simp] def Zs:Ω:=[μ 75 10,μ 6 75,η 7 0]
def f23:an:=⟨[.t 6,.t 7],(.seq (.region ajV [0,1,2]) (.seq (.seq (.region ajL [0,1,2,15]) (.cond (.t 15) (.seq (.region akA [6,7]) .ret) .skip)) (.seq (.seq (.region agQ [0,1,2,16,17,18]) (.block 0 ve)) (.seq (.seq (.region ajK [0,1,2,53]) (.cond (.t 53) (.seq (.region abV [6,7]) .ret) .skip)) (.seq (.region ZL [0,1,2,10]) (.seq (.seq (.region Sr [10,57,58,59]) (.block 2 yC)) (.seq (.region Zs [6,7]) .ret))))))),true⟩
@[simp] def amr:Ω:=[σ 2 (.alloc [δ,δ,δ,δ,δ,δ,δ,δ,δ,δ,δ,δ,δ,δ,δ,δ,δ])]
@[simp] def agq:Ω:=[μ 3 0,σ 4 (.build [δ,δ,δ,δ,δ,δ,δ,δ,δ,δ,δ,δ,δ,δ,δ,δ,δ] [(0,1,(.t 3)),(1,1,(κ 12)),(10,1,(κ 1)),(11,1,(κ 1))]),ω 17 2 4]
def f26:an:=⟨[.cell 2 17 true],(.seq (.region amr [0,2]) (.seq (.region agq [2]) .ret)),true⟩
@[simp] def ai4:Ω:=[σ 2 (.mv (.c θ)),η 3 0]
@[simp] def ajt:Ω:=[μ 7 0,σ 8 (.call 54 [(.t 7)]),μ 4 8]
@[simp] def ams:Ω:=[μ 9 4,γ 10 .neq 9 0]
@[simp] def afX:Ω:=[μ 11 4,σ 2 (.mv (.c θ)),μ 3 11]
@[simp] def aju:Ω:=[σ 5 (.alloc [θ])]
@[simp] def aiV:Ω:=[μ 12 0,σ 13 (.call 55 [(.t 12)])]
@[simp] def Ce:Ω:=[σ 6 (.alloc [δ,δ,δ]),ω 3 6 14]
@[simp] def CM:Ω:=[ρ 15 5,Λ 16 3 6,σ 17 (.lit 3 true [δ,δ,δ] 1 [(0,(.t 16))]),σ 18 (.append 3 true 24 (.t 15) (.t 17)),ω 1 5 18]
@[simp] def alI:Ω:=[ρ 19 5,μ 2 19,η 3 0]
def f27:an:=⟨[.t 2,.t 3],(.seq (.region ai4 [0]) (.seq (.seq (.region ajt [0,4]) (.seq (.region ams [0,4,10]) (.cond (.t 10) (.seq (.region afX [2,3]) .ret) .skip))) (.seq (.region aju [0,5]) (.seq (.seq (.region aiV [5,13]) (.block 0 (.gf (.t 13) [14] (.region Ce [5,6]) (.block 1 (.region CM [])) [5,13]))) (.seq (.region alI [2,3]) .ret))))),true⟩
@[simp] def aiG:Ω:=[σ 1 (.box 1 (.t 0)),σ 2 (.mv (.c .bL))]
@[simp] def ah7:Ω:=[σ 3 (.alloc [δ]),⟨none,.store 1 (.t 3) (κ 0),none⟩]
@[simp] def ahu:Ω:=[ρ 4 1,ν 5 .slice 4,γ 6 .gtr 5 0]
@[simp] def ahP:Ω:=[ρ 7 1,σ 8 (.aJ 4 (.t 7) (κ 0)),φ 9 0 8,ρ 10 9,ω 1 3 10]
@[simp] def ajx:Ω:=[σ 11 (.fF 56 [] [(.t 1),(.t 3)]),μ 2 11]
def f29:an:=⟨[.t 2],(.seq (.region aiG [1]) (.seq (.region ah7 [1,3]) (.seq (.seq (.region ahu [1,3,6]) (.cond (.t 6) (.region ahP [1,3]) .skip)) (.seq (.region ajx [2]) .ret)))),false⟩
@[simp] def ahV:Ω:=[η 4 0]
@[simp] def amT:Ω:=[μ 5 0,σ 6 (.call 21 [(.t 5)]),μ 7 1,β 8 .mul 6 7,γ 9 .quo 8 8,μ 4 9]
def f30:an:=⟨[.t 4],(.seq (.region ahV [0,1]) (.seq (.region amT [4]) .ret)),true⟩
@[simp] def aiQ:Ω:=[η 4 0]
@[simp] def alB:Ω:=[η 5 0]
@[simp] def ajY:Ω:=[μ 8 0,σ 9 (.s2b (.t 8)),ν 10 .slice 9,η 11 0]
@[simp] def ahk:Ω:=[β 12 .lss 11 10]
@[simp] def amM:Ω:=[ι 13 1 9 11,ρ 14 13,μ 7 14]
@[simp] def aip:Ω:=[μ 15 5,μ 16 7,μ 17 1,σ 18 (.call 30 [(.t 16),(.t 17)]),β 19 .add 15 18,μ 5 19]
@[simp] def al0:Ω:=[γ 20 .add 11 1,μ 11 20]
def Dh:RC:=(.seq (.region ahk [1,5,9,10,11,12]) (.seq (.cond (.t 12) .skip (.exit 0)) (.seq (.block 1 (.seq (.region amM [1,5,7,9,10,11]) (.region aip [1,5,9,10,11]))) (.region al0 [1,5,9,10,11]))))
def zt:RC:=.loop [1,5,9,10,11] Dh
@[simp] def ai5:Ω:=[μ 21 5,μ 4 21]
def f31:an:=⟨[.t 4],(.seq (.region aiQ [0,1]) (.seq (.region alB [0,1,5]) (.seq (.seq (.region ajY [1,5,9,10,11]) (.block 0 zt)) (.seq (.region ai5 [4]) .ret)))),true⟩
@[simp] def alp:Ω:=[η 6 0]
@[simp] def agR:Ω:=[η 7 0]
@[simp] def aht:Ω:=[μ 8 0,μ 9 1,σ 10 (.call 57 [(.c (.str [65,84,32,65,86,32,65,87,32,65,89,32,84,65,32,86,65,32,87,65,32,89,65,32,76,84,32,76,86,32,76,89,32,80,65,32,84,111,32,84,97,32,84,101,32,86,111,32,86,97,32,89,111,32,89,97,32])),(.t 8),(.t 9)])]
@[simp] def am6:Ω:=[η 7 2]
@[simp] def ajf:Ω:=[μ 11 0,μ 12 1,σ 13 (.call 57 [(.c (.str [114,46,32,114,44,32,102,46,32,102,44,32,118,46,32,121,46,32,65,118,32,65,121,32,111,118,32,118,111,32])),(.t 11),(.t 12)])]
@[simp] def amQ:Ω:=[η 7 1]
@[simp] def agh:Ω:=[μ 14 7,μ 15 2,β 16 .mul 14 15,γ 17 .quo 16 16,σ 18 (.un .neg (.t 17)),μ 6 18]
def f32:an:=⟨[.t 6],(.seq (.region alp [0,1,2]) (.seq (.region agR [0,1,2,7]) (.seq (.seq (.region aht [0,1,2,7,10]) (.cond (.t 10) (.region am6 [0,1,2,7]) .skip)) (.seq (.seq (.region ajf [2,7,13]) (.cond (.t 13) (.region amQ [2,7]) .skip)) (.seq (.region agh [6]) .ret))))),true⟩
@[simp] def amP:Ω:=[η 4 0]
@[simp] def ajG:Ω:=[μ 5 0,μ 6 1,σ 7 (.call 61 [(.t 5),(.t 6)]),μ 4 7]
def f40:an:=⟨[.t 4],(.seq (.region amP [0,1]) (.seq (.region ajG [4]) .ret)),true⟩
@[simp] def ah8:Ω:=[σ 4 (.mv (.c (.bool false)))]
@[simp] def ajd:Ω:=[μ 7 0,ν 8 .slice 7,η 9 0]
@[simp] def amN:Ω:=[β 10 .lss 9 8]
@[simp] def ah2:Ω:=[ι 11 4 7 9,Λ 12 4 11,σ 6 (.alloc [δ,δ,δ,δ]),ω 4 6 12]
@[simp] def ak3:Ω:=[φ 13 0 6,ρ 14 13,γ 15 .lss 14 1,μ 16 15,Φ 17 0 6 16 false,Ρ 18 17 16 false,Μ 19 1 16 false,τ 20 (.bin .gtr (.t 18) (.t 19)) 16 false,ζ 21 16 20,μ 22 21,Φ 23 1 6 22 false,τ 24 (.load 3 true (.t 23)) 22 false,τ 25 (.call 62 [(.t 24)]) 22 false,τ 26 (.un .not (.t 25)) 22 false,ζ 27 22 26]
@[simp] def ajQ:Ω:=[σ 4 (.mv (.c (.bool false)))]
@[simp] def aie:Ω:=[μ 28 1,φ 29 0 6,ρ 30 29,β 31 .sub 28 30,μ 1 31]
@[simp] def afi:Ω:=[γ 32 .add 9 1,μ 9 32]
def rG:RC:=(.seq (.region amN [1,7,8,9,10]) (.seq (.cond (.t 10) .skip (.exit 0)) (.seq (.block 1 (.seq (.region ah2 [1,6,7,8,9]) (.seq (.seq (.region ak3 [1,6,7,8,9,27]) (.cond (.t 27) (.seq (.region ajQ [4]) .ret) .skip)) (.region aie [1,7,8,9])))) (.region afi [1,7,8,9]))))
def px:RC:=.loop [1,7,8,9] rG
@[simp] def akf:Ω:=[μ 33 1,γ 34 .eql 33 0,μ 4 34]
def f41:an:=⟨[.t 4],(.seq (.region ah8 [0,1]) (.seq (.seq (.region ajd [1,7,8,9]) (.block 0 px)) (.seq (.region akf [4]) .ret))),true⟩
@[simp] def ahD:Ω:=[σ 1 (.box 17 (.t 0)),σ 2 (.mv (.c (.bool false)))]
@[simp] def ahI:Ω:=[φ 5 0 1,ρ 6 5,σ 7 (.build [δ,δ,δ] [(0,1,(.t 6)),(1,1,(κ 1)),(2,1,(κ 64))]),φ 8 1 1,ρ 9 8,σ 10 (.build [δ,δ,δ] [(0,1,(.t 9)),(1,1,(κ 1)),(2,1,(κ 255))]),φ 11 2 1,ρ 12 11,σ 13 (.build [δ,δ,δ] [(0,1,(.t 12)),(1,1,(κ 0)),(2,1,(κ 3))]),φ 14 3 1,ρ 15 14,σ 16 (.build [δ,δ,δ] [(0,1,(.t 15)),(1,1,(κ 0)),(2,1,(κ 255))]),φ 17 4 1,ρ 18 17,σ 19 (.build [δ,δ,δ] [(0,1,(.t 18)),(1,1,(κ 0)),(2,1,(κ 255))]),φ 20 5 1,ρ 21 20,σ 22 (.build [δ,δ,δ] [(0,1,(.t 21)),(1,1,(κ 0)),(2,1,(κ 255))]),φ 23 6 1,ρ 24 23,σ 25 (.build [δ,δ,δ] [(0,1,(.t 24)),(1,1,(κ 0)),(2,1,(κ 255))]),φ 26 7 1,ρ 27 26,σ 28 (.build [δ,δ,δ] [(0,1,(.t 27)),(1,1,(κ 0)),(2,1,(κ 255))]),φ 29 8 1,ρ 30 29,σ 31 (.build [δ,δ,δ] [(0,1,(.t 30)),(1,1,(κ 0)),(2,1,(κ 1))]),φ 32 9 1,ρ 33 32,σ 34 (.build [δ,δ,δ] [(0,1,(.t 33)),(1,1,(κ 0)),(2,1,(κ 1))]),φ 35 10 1,ρ 36 35,σ 37 (.build [δ,δ,δ] [(0,1,(.t 36)),(1,1,(κ 1)),(2,1,(κ 4))]),φ 38 11 1,ρ 39 38,σ 40 (.build [δ,δ,δ] [(0,1,(.t 39)),(1,1,(κ 1)),(2,1,(κ 4))]),φ 41 12 1,ρ 42 41,σ 43 (.build [δ,δ,δ] [(0,1,(.t 42)),(1,1,(κ 0)),(2,1,(κ 1))]),φ 44 13 1,ρ 45 44,σ 46 (.build [δ,δ,δ] [(0,1,(.t 45)),(1,1,(κ 0)),(2,1,(κ 1))]),φ 47 14 1,ρ 48 47,σ 49 (.build [δ,δ,δ] [(0,1,(.t 48)),(1,1,(κ 0)),(2,1,(κ 4))]),φ 50 15 1,ρ 51 50,σ 52 (.build [δ,δ,δ] [(0,1,(.t 51)),(1,1,(κ 0)),(2,1,(κ 8))]),φ 53 16 1,ρ 54 53,σ 55 (.build [δ,δ,δ] [(0,1,(.t 54)),(1,1,(κ 0)),(2,1,(κ 3))]),σ 56 (.build [δ,δ,δ,δ,δ,δ,δ,δ,δ,δ,δ,δ,δ,δ,δ,δ,δ,δ,δ,δ,δ,δ,δ,δ,δ,δ,δ,δ,δ,δ,δ,δ,δ,δ,δ,δ,δ,δ,δ,δ,δ,δ,δ,δ,δ,δ,δ,δ,δ,δ,δ] [(0,3,(.t 7)),(3,3,(.t 10)),(6,3,(.t 13)),(9,3,(.t 16)),(12,3,(.t 19)),(15,3,(.t 22)),(18,3,(.t 25)),(21,3,(.t 28)),(24,3,(.t 31)),(27,3,(.t 34)),(30,3,(.t 37)),(33,3,(.t 40)),(36,3,(.t 43)),(39,3,(.t 46)),(42,3,(.t 49)),(45,3,(.t 52)),(48,3,(.t 55))]),η 57 0]
@[simp] def akR:Ω:=[γ 58 .lss 57 17]
@[simp] def amU:Ω:=[σ 59 (.iR 3 true 17 (.t 56) (.t 57)),σ 4 (.alloc [δ,δ,δ]),ω 3 4 59]
@[simp] def amp:Ω:=[φ 60 0 4,ρ 61 60,φ 62 1 4,ρ 63 62,β 64 .lss 61 63,μ 65 64,Φ 66 0 4 65 false,Ρ 67 66 65 false,Φ 68 2 4 65 false,Ρ 69 68 65 false,τ 70 (.bin .gtr (.t 67) (.t 69)) 65 false,ζ 71 65 70]
@[simp] def ag0:Ω:=[σ 2 (.mv (.c (.bool false)))]
@[simp] def amn:Ω:=[γ 72 .add 57 1,μ 57 72]
def uC:RC:=(.seq (.region akR [56,57,58]) (.seq (.cond (.t 58) .skip (.exit 0)) (.seq (.block 1 (.seq (.region amU [4,56,57]) (.seq (.region amp [56,57,71]) (.cond (.t 71) (.seq (.region ag0 [2]) .ret) .skip)))) (.region amn [56,57]))))
def rf:RC:=.loop [56,57] uC
@[simp] def aib:Ω:=[σ 2 (.mv (.c (.bool true)))]
def f42:an:=⟨[.t 2],(.seq (.region ahD [1]) (.seq (.seq (.region ahI [56,57]) (.block 0 rf)) (.seq (.region aib [2]) .ret))),true⟩
@[simp] def aly:Ω:=[σ 4 (.mv (.c (.bool false)))]
@[simp] def ako:Ω:=[μ 7 0,σ 8 (.s2b (.t 7)),ν 9 .slice 8,η 10 0]
@[simp] def agl:Ω:=[β 11 .lss 10 9]
@[simp] def aiK:Ω:=[ι 12 1 8 10,ρ 13 12,μ 6 13]
@[simp] def afW:Ω:=[μ 14 6,σ 15 (.bin .leq (.t 14) (.c (.int .u8 (.ofNat 32)))),μ 16 15,Μ 17 6 16 false,τ 18 (.bin .gtr (.t 17) (.c (.int .u8 (.ofNat 126)))) 16 false,ζ 19 16 18]
@[simp] def akH:Ω:=[σ 4 (.mv (.c (.bool false)))]
@[simp] def amB:Ω:=[γ 20 .add 10 1,μ 10 20]
def uf:RC:=(.seq (.region agl [0,1,8,9,10,11]) (.seq (.cond (.t 11) .skip (.exit 0)) (.seq (.block 1 (.seq (.region aiK [0,1,6,8,9,10]) (.seq (.region afW [0,1,8,9,10,19]) (.cond (.t 19) (.seq (.region akH [4]) .ret) .skip)))) (.region amB [0,1,8,9,10]))))
def yp:RC:=.loop [0,1,8,9,10] uf
@[simp] def akk:Ω:=[μ 21 0,ν 22 .str 21,μ 23 1,β 24 .leq 22 23,μ 4 24]
def f43:an:=⟨[.t 4],(.seq (.region aly [0,1]) (.seq (.seq (.region ako [0,1,8,9,10]) (.block 0 yp)) (.seq (.region akk [4]) .ret))),true⟩
@[simp] def agF:Ω:=[η 4 0]
@[simp] def ak7:Ω:=[μ 7 1,ν 8 .str 7,γ 9 .eql 8 0]
@[simp] def am8:Ω:=[μ 10 0,σ 11 (.call 63 [(.t 10)]),γ 12 .add 11 1,μ 4 12]
@[simp] def agz:Ω:=[μ 13 1,ν 14 .str 13,γ 15 .eql 14 1]
@[simp] def ajJ:Ω:=[μ 16 0,μ 17 1,σ 18 (.index (.t 17) (κ 0)),σ 19 (.call 64 [(.t 16),(.t 18)]),μ 4 19]
@[simp] def ah3:Ω:=[η 5 0]
@[simp] def ahS:Ω:=[μ 20 0,μ 21 1,σ 22 (.call 65 [(.t 20),(.t 21)]),μ 6 22]
@[simp] def afv:Ω:=[μ 23 6,σ 24 (.bin .eql (.t 23) (.c (.int .i64 (.negSucc 0))))]
@[simp] def alP:Ω:=[μ 25 5,μ 4 25]
@[simp] def ahg:Ω:=[μ 26 5,γ 27 .add 26 1,μ 5 27]
@[simp] def O6:Ω:=[μ 28 0,μ 29 6,μ 30 1,ν 31 .str 30,β 32 .add 29 31,σ 33 (.slice true 1 (.t 28) (some (.t 32)) none none),μ 0 33]
def ag7:RC:=(.block 1 (.seq (.region ahS [0,1,5,6]) (.seq (.seq (.region afv [0,1,5,6,24]) (.cond (.t 24) (.seq (.region alP [4]) .ret) .skip)) (.seq (.region ahg [0,1,5,6]) (.region O6 [0,1,5])))))
def ahM:RC:=.loop [0,1,5] ag7
def f44:an:=⟨[.t 4],(.seq (.region agF [0,1]) (.seq (.seq (.region ak7 [0,1,9]) (.cond (.t 9) (.seq (.region am8 [4]) .ret) .skip)) (.seq (.seq (.region agz [0,1,15]) (.cond (.t 15) (.seq (.region ajJ [4]) .ret) .skip)) (.seq (.region ah3 [0,1,5]) (.block 0 ahM))))),true⟩
@[simp] def aji:Ω:=[σ 2 (.mv (.c (.bool false)))]
@[simp] def afu:Ω:=[μ 3 0,γ 4 .geq 3 1,μ 5 4,Μ 6 0 5 true,τ 7 (.bin .leq (.t 6) (κ 64)) 5 true,ξ 8 5 7,μ 2 8]
def f51:an:=⟨[.t 2],(.seq (.region aji [0]) (.seq (.region afu [2]) .ret)),true⟩
@[simp] def ajZ:Ω:=[η 2 0]
@[simp] def ajp:Ω:=[μ 5 0,ν 6 .str 5,γ 7 .gtr 6 4096]
@[simp] def afO:Ω:=[η 2 3]
@[simp] def aiN:Ω:=[μ 8 0,σ 9 (.s2b (.t 8)),ν 10 .slice 9,η 11 0]
@[simp] def afj:Ω:=[β 12 .lss 11 10]
@[simp] def alk:Ω:=[ι 13 1 9 11,ρ 14 13,μ 4 14]
@[simp] def alC:Ω:=[μ 15 4,σ 16 (.call 68 [(.t 15)]),γ 17 .eql 16 0]
@[simp] def agu:Ω:=[η 2 4]
@[simp] def ail:Ω:=[γ 18 .add 11 1,μ 11 18]
def zp:RC:=(.seq (.region afj [9,10,11,12]) (.seq (.cond (.t 12) .skip (.exit 0)) (.seq (.block 1 (.seq (.region alk [4,9,10,11]) (.seq (.region alC [9,10,11,17]) (.cond (.t 17) (.seq (.region agu [2]) .ret) .skip)))) (.region ail [9,10,11]))))
def zo:RC:=.loop [9,10,11] zp
@[simp] def ajF:Ω:=[η 2 0]
def f54:an:=⟨[.t 2],(.seq (.region ajZ [0]) (.seq (.seq (.region ajp [0,7]) (.cond (.t 7) (.seq (.region afO [2]) .ret) .skip)) (.seq (.seq (.region aiN [9,10,11]) (.block 0 zo)) (.seq (.region ajF [2]) .ret)))),true⟩
@[simp] def alO:Ω:=[σ 1 (.box 1 (.t 0)),σ 2 (.mv (.c .bL))]
@[simp] def agW:Ω:=[σ 3 (.fF 69 [] [(.t 1)]),μ 2 3]
def f55:an:=⟨[.t 2],(.seq (.region alO [1]) (.seq (.region agW [2]) .ret)),false⟩
@[simp] def aiE:Ω:=[σ 4 (.alloc [δ,δ,δ])]
@[simp] def al7:Ω:=[ρ 5 1,ν 6 .slice 5,γ 7 .gtr 6 1,μ 8 7,Μ 9 0 8 true,Ρ 10 2 8 true,τ 11 (.bin .geq (.t 9) (.t 10)) 8 true,ξ 12 8 11]
@[simp] def alX:Ω:=[ρ 13 1,σ 14 (.slice false 4 (.t 13) (some (κ 1)) none none),ω 1 1 14]
@[simp] def alK:Ω:=[ρ 15 2,ρ 16 1,σ 17 (.aJ 4 (.t 16) (κ 0)),φ 18 0 17,ρ 19 18,β 20 .add 15 19,ω 1 2 20]
def yq:RC:=(.seq (.seq (.region al7 [0,1,2,4,12]) (.cond (.t 12) .skip (.exit 0))) (.block 1 (.seq (.region alX [0,1,2,4]) (.au alK [] [] [0,1,2,4]))))
def tV:RC:=.loop [0,1,2,4] yq
@[simp] def af2:Ω:=[ρ 21 1,σ 22 (.aJ 4 (.t 21) (κ 0)),φ 23 1 22,Λ 24 3 23,ω 3 4 24]
def f56:an:=⟨[.cell 4 3 true],(.seq (.region aiE [0,1,2,4]) (.seq (.block 0 tV) (.seq (.region af2 [4]) .ret))),false⟩
@[simp] def akV:Ω:=[σ 6 (.mv (.c (.bool false)))]
@[simp] def ahe:Ω:=[η 7 0]
@[simp] def ahE:Ω:=[μ 8 7,γ 9 .add 8 1,μ 10 0,ν 11 .str 10,β 12 .lss 9 11]
@[simp] def ae0:Ω:=[μ 15 0,μ 16 7,σ 17 (.index (.t 15) (.t 16)),μ 18 1,β 19 .eql 17 18,μ 20 19,Μ 21 0 20 true,Μ 22 7 20 true,τ 23 (.bin .add (.t 22) (κ 1)) 20 true,τ 24 (.index (.t 21) (.t 23)) 20 true,Μ 25 2 20 true,τ 26 (.bin .eql (.t 24) (.t 25)) 20 true,ξ 27 20 26]
@[simp] def alD:Ω:=[σ 6 (.mv (.c (.bool true)))]
@[simp] def akY:Ω:=[μ 13 7,γ 14 .add 13 3,μ 7 14]
def tT:RC:=(.seq (.seq (.region ahE [0,1,2,7,12]) (.cond (.t 12) .skip (.exit 0))) (.seq (.block 1 (.seq (.region ae0 [0,1,2,7,27]) (.cond (.t 27) (.seq (.region alD [6]) .ret) .skip))) (.region akY [0,1,2,7])))
def yi:RC:=.loop [0,1,2,7] tT
@[simp] def ajS:Ω:=[σ 6 (.mv (.c (.bool false)))]
def f57:an:=⟨[.t 6],(.seq (.region akV [0,1,2]) (.seq (.seq (.region ahe [0,1,2,7]) (.block 0 yi)) (.seq (.region ajS [6]) .ret))),true⟩
@[simp] def amA:Ω:=[η 4 0]
@[simp] def akM:Ω:=[μ 5 0,μ 6 1,σ 7 (.call 72 [(.t 5),(.t 6)]),μ 4 7]
def f61:an:=⟨[.t 4],(.seq (.region amA [0,1]) (.seq (.region akM [4]) .ret)),true⟩
@[simp] def afV:Ω:=[σ 1 (.box 3 (.t 0)),σ 2 (.mv (.c (.bool false)))]
@[simp] def ald:Ω:=[φ 3 0 1,ρ 4 3,γ 5 .geq 4 0,μ 6 5,Φ 7 0 1 6 true,Ρ 8 7 6 true,τ 9 (.bin .leq (.t 8) (κ 64)) 6 true,ξ 10 6 9,μ 11 10,Φ 12 1 1 11 true,Ρ 13 12 11 true,τ 14 (.bin .geq (.t 13) (κ 0)) 11 true,ξ 15 11 14,μ 16 15,Φ 17 1 1 16 true,Ρ 18 17 16 true,τ 19 (.bin .leq (.t 18) (κ 15)) 16 true,ξ 20 16 19,μ 21 20,Φ 22 2 1 21 true,Ρ 23 22 21 true,τ 24 (.bin .eql (.t 23) (κ 0)) 21 true,Μ 25 24 21 true,Φ 26 2 1 25 false,Ρ 27 26 25 false,τ 28 (.bin .eql (.t 27) (κ 1)) 25 false,τ 29 (.pick (.t 25) (.c (.bool true)) (.t 28)) 21 true,ξ 30 21 29,μ 2 30]
def f62:an:=⟨[.t 2],(.seq (.region afV [1]) (.seq (.region ald [2]) .ret)),true⟩
@[simp] def akp:Ω:=[η 2 0]
@[simp] def alN:Ω:=[μ 3 0,σ 4 .fail]
@[simp] def ahb:Ω:=[σ 5 .fail,ε 6 5 0]
@[simp] def amL:Ω:=[μ 7 2,γ 8 .add 7 1,μ 2 8]
def akC:RC:=(.seq (.region ahb [2,6]) (.seq (.cond (.t 6) .skip (.exit 0)) (.block 1 (.region amL [2]))))
def aid:RC:=.loop [2] akC
@[simp] def agS:Ω:=[μ 9 2,μ 2 9]
def f63:an:=⟨[.t 2],(.seq (.region akp [0,2]) (.seq (.seq (.region alN [2]) (.block 0 aid)) (.seq (.region agS [2]) .ret))),true⟩
@[simp] def ami:Ω:=[η 4 0]
@[simp] def ae4:Ω:=[μ 5 0,μ 6 1,σ 7 (.call 73 [(.t 5),(.t 6)]),μ 4 7]
def f65:an:=⟨[.t 4],(.seq (.region ami [0,1]) (.seq (.region ae4 [4]) .ret)),true⟩
@[simp] def ahT:Ω:=[η 2 0]
@[simp] def afE:Ω:=[μ 4 0,σ 5 (.call 74 [(.t 4)]),μ 3 5]
@[simp] def akS:Ω:=[η 2 1]
@[simp] def agw:Ω:=[μ 7 0,σ 8 (.bin .eql (.t 7) (.c (.int .u8 (.ofNat 32)))),μ 6 8]
@[simp] def ajw:Ω:=[η 2 3]
@[simp] def aj4:Ω:=[μ 10 0,σ 11 (.bin .eql (.t 10) (.c (.int .u8 (.ofNat 9)))),μ 9 11]
@[simp] def aj8:Ω:=[η 2 4]
@[simp] def ae6:Ω:=[μ 13 0,σ 14 (.bin .eql (.t 13) (.c (.int .u8 (.ofNat 31)))),μ 12 14]
@[simp] def aeY:Ω:=[η 2 5]
@[simp] def ahm:Ω:=[μ 16 0,σ 17 (.bin .eql (.t 16) (.c (.int .u8 (.ofNat 1)))),μ 15 17]
@[simp] def OA:Ω:=[η 2 6]
@[simp] def Ng:Ω:=[μ 19 0,σ 20 (.bin .eql (.t 19) (.c (.int .u8 (.ofNat 2)))),μ 18 20]
@[simp] def Tv:Ω:=[η 2 7]
@[simp] def abW:Ω:=[μ 22 0,σ 23 (.bin .eql (.t 22) (.c (.int .u8 (.ofNat 3)))),μ 21 23]
@[simp] def TX:Ω:=[η 2 8]
@[simp] def Pt:Ω:=[μ 25 0,σ 26 (.bin .gtr (.t 25) (.c (.int .u8 (.ofNat 32)))),μ 27 26,Μ 28 0 27 true,τ 29 (.bin .leq (.t 28) (.c (.int .u8 (.ofNat 126)))) 27 true,ξ 30 27 29,μ 24 30]
@[simp] def aef:Ω:=[η 2 2]
@[simp] def Xn:Ω:=[η 2 0]
def f68:an:=⟨[.t 2],(.seq (.region ahT [0]) (.seq (.block 0 (.seq (.region afE [0,3]) (.cond (.t 3) (.seq (.region akS [2]) .ret) (.seq (.region agw [0,6]) (.cond (.t 6) (.seq (.region ajw [2]) .ret) (.seq (.region aj4 [0,9]) (.cond (.t 9) (.seq (.region aj8 [2]) .ret) (.seq (.region ae6 [0,12]) (.cond (.t 12) (.seq (.region aeY [2]) .ret) (.seq (.region ahm [0,15]) (.cond (.t 15) (.seq (.region OA [2]) .ret) (.seq (.region Ng [0,18]) (.cond (.t 18) (.seq (.region Tv [2]) .ret) (.seq (.region abW [0,21]) (.cond (.t 21) (.seq (.region TX [2]) .ret) (.seq (.region Pt [24]) (.cond (.t 24) (.seq (.region aef [2]) .ret) .skip))))))))))))))))) (.seq (.region Xn [2]) .ret))),true⟩
@[simp] def ai9:Ω:=[η 3 0]
@[simp] def afk:Ω:=[μ 5 3,ρ 6 1,ν 7 .str 6,β 8 .lss 5 7]
@[simp] def aih:Ω:=[μ 9 3,μ 10 3,γ 11 .add 10 1,ρ 12 1,μ 13 3,σ 14 (.index (.t 12) (.t 13)),σ 15 (.call 68 [(.t 14)]),σ 16 (.build [δ,δ,δ] [(0,1,(.t 9)),(1,1,(.t 11)),(2,1,(.t 15))]),σ 4 (.alloc [δ,δ,δ]),ω 3 4 16]
@[simp] def alT:Ω:=[φ 17 2 4,ρ 18 17,γ 19 .eql 18 1,μ 20 19,Φ 21 1 4 20 true,Ρ 22 21 20 true,Ρ 23 1 20 true,τ 24 (.len .str (.t 23)) 20 true,τ 25 (.bin .lss (.t 22) (.t 24)) 20 true,ξ 26 20 25,μ 27 26,Φ 28 1 4 27 true,Ρ 29 28 27 true,Μ 30 3 27 true,τ 31 (.bin .add (.t 30) (κ 3)) 27 true,τ 32 (.bin .lss (.t 29) (.t 31)) 27 true,ξ 33 27 32,μ 34 33,Ρ 35 1 34 true,Φ 36 1 4 34 true,Ρ 37 36 34 true,τ 38 (.index (.t 35) (.t 37)) 34 true,τ 39 (.call 70 [(.t 38)]) 34 true,ξ 40 34 39]
@[simp] def agd:Ω:=[φ 41 1 4,ρ 42 41,γ 43 .add 42 1,φ 44 1 4,ω 1 44 43]
def nG:RC:=(.seq (.seq (.region alT [0,1,3,4,40]) (.cond (.t 40) .skip (.exit 2))) (.block 3 (.region agd [0,1,3,4])))
def yz:RC:=.loop [0,1,3,4] nG
@[simp] def akQ:Ω:=[μ 45 0,Λ 46 3 4,σ 47 (.br (.t 45) [(.t 46)]),σ 48 (.un .not (.t 47))]
@[simp] def akw:Ω:=[φ 49 1 4,ρ 50 49,μ 3 50]
def zq:RC:=(.seq (.seq (.region afk [0,1,3,8]) (.cond (.t 8) .skip (.exit 0))) (.block 1 (.seq (.region aih [0,1,3,4]) (.seq (.block 2 yz) (.seq (.seq (.region akQ [0,1,4,48]) (.cond (.t 48) .ret .skip)) (.region akw [0,1,3]))))))
def vu:RC:=.loop [0,1,3] zq
def f69:an:=⟨[],(.seq (.region ai9 [0,1,3]) (.block 0 vu)),false⟩
@[simp] def ajW:Ω:=[σ 2 (.mv (.c (.bool false)))]
@[simp] def agP:Ω:=[μ 3 0,σ 4 (.bin .eql (.t 3) (.c (.int .u8 (.ofNat 94)))),μ 5 4,Μ 6 0 5 false,τ 7 (.bin .eql (.t 6) (.c (.int .u8 (.ofNat 96)))) 5 false,ζ 8 5 7,μ 9 8,Μ 10 0 9 false,τ 11 (.bin .eql (.t 10) (.c (.int .u8 (.ofNat 126)))) 9 false,ζ 12 9 11,μ 2 12]
def f70:an:=⟨[.t 2],(.seq (.region ajW [0]) (.seq (.region agP [2]) .ret)),true⟩
@[simp] def ahf:Ω:=[η 4 0]
@[simp] def aiH:Ω:=[μ 14 1,ν 15 .str 14,μ 5 15]
@[simp] def afq:Ω:=[μ 17 5,γ 18 .eql 17 0,μ 19 18,Μ 20 1 19 false,Μ 21 0 19 false,τ 22 (.bin .eql (.t 20) (.t 21)) 19 false,ζ 23 19 22,μ 16 23]
@[simp] def alQ:Ω:=[η 4 0]
@[simp] def agI:Ω:=[μ 25 5,γ 26 .eql 25 1,μ 24 26]
@[simp] def ah6:Ω:=[μ 27 0,μ 28 1,σ 29 (.index (.t 28) (κ 0)),σ 30 (.call 61 [(.t 27),(.t 29)]),μ 4 30]
@[simp] def aiO:Ω:=[μ 32 5,μ 33 0,ν 34 .str 33,β 35 .geq 32 34,μ 31 35]
@[simp] def amo:Ω:=[σ 4 (.mv (.c (.int .i64 (.negSucc 0))))]
@[simp] def ak6:Ω:=[μ 37 5,σ 38 .fail,β 39 .leq 37 38,μ 40 39,Μ 41 0 40 true,τ 42 (.len .str (.t 41)) 40 true,τ 43 (.bin .leq (.t 42) (κ 64)) 40 true,ξ 44 40 43,μ 36 44]
@[simp] def aiy:Ω:=[μ 45 0,μ 46 1,σ 47 (.call 75 [(.t 45),(.t 46)]),μ 4 47]
@[simp] def NZ:Ω:=[μ 48 1,σ 49 (.index (.t 48) (κ 0)),μ 6 49]
@[simp] def Ry:Ω:=[μ 50 1,σ 51 (.index (.t 50) (κ 1)),μ 7 51]
@[simp] def MR:Ω:=[η 8 0]
@[simp] def OX:Ω:=[μ 52 0,ν 53 .str 52,μ 54 5,β 55 .sub 53 54,γ 56 .add 55 1,μ 9 56]
@[simp] def aby:Ω:=[η 10 0]
@[simp] def aah:Ω:=[μ 57 8,μ 58 9,β 59 .lss 57 58]
@[simp] def Pa:Ω:=[μ 60 0,μ 61 8,σ 62 (.index (.t 60) (.t 61)),μ 63 6,β 64 .neq 62 63]
@[simp] def acL:Ω:=[μ 65 0,μ 66 8,γ 67 .add 66 1,μ 68 9,σ 69 (.slice true 1 (.t 65) (some (.t 67)) (some (.t 68)) none),μ 70 6,σ 71 (.call 61 [(.t 69),(.t 70)]),μ 11 71]
@[simp] def ZK:Ω:=[μ 72 11,γ 73 .lss 72 0]
@[simp] def S9:Ω:=[σ 4 (.mv (.c (.int .i64 (.negSucc 0))))]
@[simp] def SJ:Ω:=[μ 74 8,μ 75 11,γ 76 .add 75 1,β 77 .add 74 76,μ 8 77]
@[simp] def abe:Ω:=[μ 78 0,μ 79 8,γ 80 .add 79 1,σ 81 (.index (.t 78) (.t 80)),μ 82 7,β 83 .eql 81 82,μ 84 83,Μ 85 0 84 true,Μ 86 8 84 true,Μ 87 8 84 true,Μ 88 5 84 true,τ 89 (.bin .add (.t 87) (.t 88)) 84 true,τ 90 (.slice true 1 (.t 85) (some (.t 86)) (some (.t 89)) none) 84 true,Μ 91 1 84 true,τ 92 (.bin .eql (.t 90) (.t 91)) 84 true,ξ 93 84 92]
@[simp] def XL:Ω:=[μ 94 8,μ 4 94]
@[simp] def Wd:Ω:=[μ 95 8,γ 96 .add 95 1,μ 8 96]
@[simp] def PB:Ω:=[μ 97 10,γ 98 .add 97 1,μ 10 98]
@[simp] def T9:Ω:=[μ 99 5,σ 100 .fail,β 101 .leq 99 100,μ 102 101,Μ 103 10 102 true,Μ 104 8 102 true,τ 105 (.call 76 [(.t 104)]) 102 true,τ 106 (.bin .gtr (.t 103) (.t 105)) 102 true,ξ 107 102 106]
@[simp] def aad:Ω:=[μ 108 0,μ 109 8,σ 110 (.slice true 1 (.t 108) (some (.t 109)) none none),μ 111 1,σ 112 (.call 75 [(.t 110),(.t 111)]),μ 12 112]
@[simp] def ac4:Ω:=[μ 113 12,γ 114 .geq 113 0]
@[simp] def ZQ:Ω:=[μ 115 12,μ 116 8,β 117 .add 115 116,μ 4 117]
@[simp] def LJ:Ω:=[σ 4 (.mv (.c (.int .i64 (.negSucc 0))))]
@[simp] def R8:Ω:=[μ 118 5,σ 119 .fail,β 120 .gtr 118 119,μ 121 120,Μ 122 10 121 true,Μ 123 8 121 true,τ 124 (.bin .shr (.t 123) (.c (.int .u64 (.ofNat 4)))) 121 true,τ 125 (.bin .add (κ 4) (.t 124)) 121 true,τ 126 (.bin .geq (.t 122) (.t 125)) 121 true,ξ 127 121 126,μ 128 127,Μ 129 8 128 true,Μ 130 9 128 true,τ 131 (.bin .lss (.t 129) (.t 130)) 128 true,ξ 132 128 131]
@[simp] def PA:Ω:=[μ 133 0,μ 134 8,σ 135 (.slice true 1 (.t 133) (some (.t 134)) none none),μ 136 1,σ 137 (.call 77 [(.t 135),(.t 136)]),μ 13 137]
@[simp] def U2:Ω:=[μ 138 13,γ 139 .lss 138 0]
@[simp] def ZF:Ω:=[σ 4 (.mv (.c (.int .i64 (.negSucc 0))))]
@[simp] def Xq:Ω:=[μ 140 8,μ 141 13,β 142 .add 140 141,μ 4 142]
def agA:RC:=(.seq (.seq (.region aah [0,1,5,6,7,8,9,10,59]) (.cond (.t 59) .skip (.exit 1))) (.block 2 (.seq (.seq (.region Pa [0,1,5,6,7,8,9,10,64]) (.cond (.t 64) (.seq (.region acL [0,1,5,6,7,8,9,10,11]) (.seq (.seq (.region ZK [0,1,5,6,7,8,9,10,11,73]) (.cond (.t 73) (.seq (.region S9 [4]) .ret) .skip)) (.region SJ [0,1,5,6,7,8,9,10]))) .skip)) (.seq (.seq (.region abe [0,1,5,6,7,8,9,10,93]) (.cond (.t 93) (.seq (.region XL [4]) .ret) .skip)) (.seq (.region Wd [0,1,5,6,7,8,9,10]) (.seq (.region PB [0,1,5,6,7,8,9,10]) (.seq (.region T9 [0,1,5,6,7,8,9,10,107]) (.cond (.t 107) (.seq (.region aad [8,12]) (.seq (.seq (.region ac4 [8,12,114]) (.cond (.t 114) (.seq (.region ZQ [4]) .ret) .skip)) (.seq (.region LJ [4]) .ret))) (.seq (.region R8 [0,1,5,6,7,8,9,10,132]) (.cond (.t 132) (.seq (.region PA [8,13]) (.seq (.seq (.region U2 [8,13,139]) (.cond (.t 139) (.seq (.region ZF [4]) .ret) .skip)) (.seq (.region Xq [4]) .ret))) .skip))))))))))
def ahc:RC:=.loop [0,1,5,6,7,8,9,10] agA
@[simp] def Ny:Ω:=[σ 4 (.mv (.c (.int .i64 (.negSucc 0))))]
def f73:an:=⟨[.t 4],(.seq (.region ahf [0,1]) (.seq (.region aiH [0,1,5]) (.seq (.block 0 (.seq (.region afq [0,1,5,16]) (.cond (.t 16) (.seq (.region alQ [4]) .ret) (.seq (.region agI [0,1,5,24]) (.cond (.t 24) (.seq (.region ah6 [4]) .ret) (.seq (.region aiO [0,1,5,31]) (.cond (.t 31) (.seq (.region amo [4]) .ret) (.seq (.region ak6 [0,1,5,36]) (.cond (.t 36) (.seq (.region aiy [4]) .ret) .skip))))))))) (.seq (.region NZ [0,1,5,6]) (.seq (.region Ry [0,1,5,6,7]) (.seq (.region MR [0,1,5,6,7,8]) (.seq (.region OX [0,1,5,6,7,8,9]) (.seq (.region aby [0,1,5,6,7,8,9,10]) (.seq (.block 1 ahc) (.seq (.region Ny [4]) .ret)))))))))),true⟩
@[simp] def am7:Ω:=[σ 2 (.mv (.c (.bool false)))]
@[simp] def amO:Ω:=[μ 3 0,σ 4 (.bin .geq (.t 3) (.c (.int .u8 (.ofNat 97)))),μ 5 4,Μ 6 0 5 true,τ 7 (.bin .leq (.t 6) (.c (.int .u8 (.ofNat 122)))) 5 true,ξ 8 5 7,μ 9 8,Μ 10 0 9 false,τ 11 (.bin .geq (.t 10) (.c (.int .u8 (.ofNat 65)))) 9 false,Μ 12 11 9 false,Μ 13 0 12 true,τ 14 (.bin .leq (.t 13) (.c (.int .u8 (.ofNat 90)))) 12 true,τ 15 (.pick (.t 12) (.t 14) (.c (.bool false))) 9 false,ζ 16 9 15,μ 2 16]
def f74:an:=⟨[.t 2],(.seq (.region am7 [0]) (.seq (.region amO [2]) .ret)),true⟩
@[simp] def aki:Ω:=[η 2 0]
@[simp] def akF:Ω:=[μ 3 0,γ 4 .add 3 16,γ 5 .quo 4 8,μ 2 5]
def f76:an:=⟨[.t 2],(.seq (.region aki [0]) (.seq (.region akF [2]) .ret)),true⟩
@[simp] def agX:Ω:=[η 4 0]
@[simp] def afl:Ω:=[μ 12 1,σ 13 (.call 78 [(.t 12)]),μ 11 13,ε 14 11 0,ε 15 11 1,μ 5 14,μ 6 15]
@[simp] def af5:Ω:=[μ 16 1,ν 17 .str 16,μ 7 17]
@[simp] def akn:Ω:=[σ 8 (.mv (.c (.int .u32 (.ofNat 0))))]
@[simp] def ajR:Ω:=[η 9 0]
@[simp] def afe:Ω:=[μ 18 9,μ 19 7,β 20 .lss 18 19]
@[simp] def ait:Ω:=[μ 23 8,σ 24 (.bin .mul (.t 23) (.c (.int .u32 (.ofNat 16777619)))),μ 25 0,μ 26 9,σ 27 (.index (.t 25) (.t 26)),σ 28 (.i2i .u32 (.t 27)),β 29 .add 24 28,μ 8 29]
@[simp] def aks:Ω:=[μ 21 9,γ 22 .add 21 1,μ 9 22]
def alx:RC:=(.seq (.seq (.region afe [0,1,5,6,7,8,9,20]) (.cond (.t 20) .skip (.exit 0))) (.seq (.block 1 (.region ait [0,1,5,6,7,8,9])) (.region aks [0,1,5,6,7,8,9])))
def ak5:RC:=.loop [0,1,5,6,7,8,9] alx
@[simp] def ag6:Ω:=[μ 30 8,μ 31 5,β 32 .eql 30 31,μ 33 32,Μ 34 0 33 true,Μ 35 7 33 true,τ 36 (.slice true 1 (.t 34) none (some (.t 35)) none) 33 true,Μ 37 1 33 true,τ 38 (.bin .eql (.t 36) (.t 37)) 33 true,ξ 39 33 38]
@[simp] def ai0:Ω:=[η 4 0]
@[simp] def adS:Ω:=[μ 40 7,μ 10 40]
@[simp] def XT:Ω:=[μ 41 10,μ 42 0,ν 43 .str 42,β 44 .lss 41 43]
@[simp] def W9:Ω:=[μ 45 8,σ 46 (.bin .mul (.t 45) (.c (.int .u32 (.ofNat 16777619)))),μ 8 46]
@[simp] def SH:Ω:=[μ 47 8,μ 48 0,μ 49 10,σ 50 (.index (.t 48) (.t 49)),σ 51 (.i2i .u32 (.t 50)),β 52 .add 47 51,μ 8 52]
@[simp] def Xb:Ω:=[μ 53 8,μ 54 6,μ 55 0,μ 56 10,μ 57 7,β 58 .sub 56 57,σ 59 (.index (.t 55) (.t 58)),σ 60 (.i2i .u32 (.t 59)),β 61 .mul 54 60,β 62 .sub 53 61,μ 8 62]
@[simp] def acW:Ω:=[μ 63 10,γ 64 .add 63 1,μ 10 64]
@[simp] def LD:Ω:=[μ 65 8,μ 66 5,β 67 .eql 65 66,μ 68 67,Μ 69 0 68 true,Μ 70 10 68 true,Μ 71 7 68 true,τ 72 (.bin .sub (.t 70) (.t 71)) 68 true,Μ 73 10 68 true,τ 74 (.slice true 1 (.t 69) (some (.t 72)) (some (.t 73)) none) 68 true,Μ 75 1 68 true,τ 76 (.bin .eql (.t 74) (.t 75)) 68 true,ξ 77 68 76]
@[simp] def adn:Ω:=[μ 78 10,μ 79 7,β 80 .sub 78 79,μ 4 80]
def agx:RC:=(.seq (.seq (.region XT [0,1,5,6,7,8,10,44]) (.cond (.t 44) .skip (.exit 2))) (.block 3 (.seq (.region W9 [0,1,5,6,7,8,10]) (.seq (.region SH [0,1,5,6,7,8,10]) (.seq (.region Xb [0,1,5,6,7,8,10]) (.seq (.region acW [0,1,5,6,7,8,10]) (.seq (.region LD [0,1,5,6,7,8,10,77]) (.cond (.t 77) (.seq (.region adn [4]) .ret) .skip))))))))
def ajI:RC:=.loop [0,1,5,6,7,8,10] agx
@[simp] def PX:Ω:=[σ 4 (.mv (.c (.int .i64 (.negSucc 0))))]
def f77:an:=⟨[.t 4],(.seq (.region agX [0,1]) (.seq (.region afl [0,1,5,6]) (.seq (.region af5 [0,1,5,6,7]) (.seq (.region akn [0,1,5,6,7,8]) (.seq (.seq (.region ajR [0,1,5,6,7,8,9]) (.block 0 ak5)) (.seq (.seq (.region ag6 [0,1,5,6,7,8,39]) (.cond (.t 39) (.seq (.region ai0 [4]) .ret) .skip)) (.seq (.seq (.region adS [0,1,5,6,7,8,10]) (.block 2 ajI)) (.seq (.region PX [4]) .ret)))))))),true⟩
@[simp] def ajn:Ω:=[σ 2 (.mv (.c (.int .u32 (.ofNat 0)))),σ 3 (.mv (.c (.int .u32 (.ofNat 0))))]
@[simp] def akd:Ω:=[σ 4 (.mv (.c (.int .u32 (.ofNat 0))))]
@[simp] def ajA:Ω:=[η 5 0]
@[simp] def alm:Ω:=[μ 9 5,μ 10 0,ν 11 .str 10,β 12 .lss 9 11]
@[simp] def aiC:Ω:=[μ 15 4,σ 16 (.bin .mul (.t 15) (.c (.int .u32 (.ofNat 16777619)))),μ 17 0,μ 18 5,σ 19 (.index (.t 17) (.t 18)),σ 20 (.i2i .u32 (.t 19)),β 21 .add 16 20,μ 4 21]
@[simp] def am1:Ω:=[μ 13 5,γ 14 .add 13 1,μ 5 14]
def aiY:RC:=(.seq (.seq (.region alm [0,4,5,12]) (.cond (.t 12) .skip (.exit 0))) (.seq (.block 1 (.region aiC [0,4,5])) (.region am1 [0,4,5])))
def alZ:RC:=.loop [0,4,5] aiY
@[simp] def al6:Ω:=[σ 6 (.mv (.c (.int .u32 (.ofNat 1)))),σ 7 (.mv (.c (.int .u32 (.ofNat 16777619))))]
@[simp] def agY:Ω:=[μ 22 0,ν 23 .str 22,μ 8 23]
@[simp] def ajv:Ω:=[μ 24 8,γ 25 .gtr 24 0]
@[simp] def aeZ:Ω:=[μ 28 8,γ 29 .and 28 1,γ 30 .neq 29 0]
@[simp] def RT:Ω:=[μ 31 6,μ 32 7,β 33 .mul 31 32,μ 6 33]
@[simp] def Mt:Ω:=[μ 34 7,μ 35 7,β 36 .mul 34 35,μ 7 36]
@[simp] def Oc:Ω:=[μ 26 8,σ 27 (.bin .shr (.t 26) (.c (.int .u64 (.ofNat 1)))),μ 8 27]
def afn:RC:=(.seq (.seq (.region ajv [4,6,7,8,25]) (.cond (.t 25) .skip (.exit 2))) (.seq (.block 3 (.seq (.seq (.region aeZ [4,6,7,8,30]) (.cond (.t 30) (.region RT [4,6,7,8]) .skip)) (.region Mt [4,6,7,8]))) (.region Oc [4,6,7,8])))
def alh:RC:=.loop [4,6,7,8] afn
@[simp] def Nk:Ω:=[μ 37 4,μ 38 6,μ 2 37,μ 3 38]
def f78:an:=⟨[.t 2,.t 3],(.seq (.region ajn [0]) (.seq (.region akd [0,4]) (.seq (.seq (.region ajA [0,4,5]) (.block 0 alZ)) (.seq (.region al6 [0,4,6,7]) (.seq (.seq (.region agY [4,6,7,8]) (.block 2 alh)) (.seq (.region Nk [2,3]) .ret)))))),true⟩
@[simp] def Uc:Ω:=[σ 2 (.alloc [(.str []),θ,δ,δ,δ,δ,δ,δ,δ,δ,δ,δ,δ,δ,δ,δ,δ,δ,δ,(.str []),θ])]
@[simp] def Le:Ω:=[μ 4 0,σ 5 (.call 26 [(κ 8)]),σ 6 (.build [(.str []),θ,δ,δ,δ,δ,δ,δ,δ,δ,δ,δ,δ,δ,δ,δ,δ,δ,δ,(.str []),θ] [(0,1,(.t 4)),(2,17,(.t 5))]),σ 3 (.alloc [(.str []),θ,δ,δ,δ,δ,δ,δ,δ,δ,δ,δ,δ,δ,δ,δ,δ,δ,δ,(.str []),θ]),ω 21 3 6]
@[simp] def Xc:Ω:=[μ 7 0,ν 8 .str 7,γ 9 .gtr 8 0]
@[simp] def Nh:Ω:=[μ 10 0,ν 11 .str 10,σ 12 (.build [δ,δ,δ,δ] [(0,1,(.t 11))]),σ 13 (.lit 4 true [δ,δ,δ,δ] 1 [(0,(.t 12))]),φ 14 1 3,ω 1 14 13]
@[simp] def Ug:Ω:=[Λ 15 21 3,ω 21 2 15]
def f105:an:=⟨[.cell 2 21 true],(.seq (.region Uc [0,2]) (.seq (.region Le [0,2,3]) (.seq (.seq (.region Xc [0,2,3,9]) (.cond (.t 9) (.region Nh [2,3]) .skip)) (.seq (.region Ug [2]) .ret)))),true⟩
@[simp] def U0:Ω:=[σ 1 (.box 21 (.t 0)),σ 2 (.mv (.c θ)),η 3 0]
@[simp] def ac5:Ω:=[Λ 9 21 1,σ 10 (.call 117 [(.t 9)]),μ 8 10,ε 11 8 0,ε 12 8 1,μ 4 11,μ 5 12]
@[simp] def Tn:Ω:=[μ 13 5,γ 14 .neq 13 0]
@[simp] def RU:Ω:=[μ 15 5,σ 2 (.mv (.c θ)),μ 3 15]
@[simp] def abI:Ω:=[σ 6 (.alloc [θ])]
@[simp] def Nz:Ω:=[Λ 16 21 1,μ 17 4,σ 18 (.call 118 [(.t 16),(.t 17)])]
@[simp] def rY:Ω:=[σ 7 (.alloc [δ,δ,δ,δ,δ,δ,δ,(.bool false)]),ω 8 7 19]
@[simp] def sx:Ω:=[ρ 20 6,Λ 21 8 7,σ 22 (.lit 8 true [δ,δ,δ,δ,δ,δ,δ,(.bool false)] 1 [(0,(.t 21))]),σ 23 (.append 8 true 64 (.t 20) (.t 22)),ω 1 6 23]
@[simp] def LP:Ω:=[ρ 24 6,μ 2 24,η 3 0]
def f106:an:=⟨[.t 2,.t 3],(.seq (.region U0 [1]) (.seq (.region ac5 [1,4,5]) (.seq (.seq (.region Tn [1,4,5,14]) (.cond (.t 14) (.seq (.region RU [2,3]) .ret) .skip)) (.seq (.region abI [1,4,6]) (.seq (.seq (.region Nz [6,18]) (.block 0 (.gf (.t 18) [19] (.region rY [6,7]) (.block 1 (.region sx [])) [6,18]))) (.seq (.region LP [2,3]) .ret)))))),true⟩
@[simp] def Sb:Ω:=[σ 2 (.mv (.c (.bool false)))]
@[simp] def Y2:Ω:=[μ 5 0,ν 6 .slice 5,η 7 0]
@[simp] def Zn:Ω:=[β 8 .lss 7 6]
@[simp] def YO:Ω:=[ι 9 8 5 7,Λ 10 8 9,σ 4 (.alloc [δ,δ,δ,δ,δ,δ,δ,(.bool false)]),ω 8 4 10]
@[simp] def O4:Ω:=[φ 11 0 4,ρ 12 11,γ 13 .eql 12 4]
@[simp] def X7:Ω:=[σ 2 (.mv (.c (.bool true)))]
@[simp] def WS:Ω:=[γ 14 .add 7 1,μ 7 14]
def TL:RC:=(.seq (.region Zn [5,6,7,8]) (.seq (.cond (.t 8) .skip (.exit 0)) (.seq (.block 1 (.seq (.region YO [4,5,6,7]) (.seq (.region O4 [5,6,7,13]) (.cond (.t 13) (.seq (.region X7 [2]) .ret) .skip)))) (.region WS [5,6,7]))))
def Xi:RC:=.loop [5,6,7] TL
@[simp] def abP:Ω:=[σ 2 (.mv (.c (.bool false)))]
def f108:an:=⟨[.t 2],(.seq (.region Sb [0]) (.seq (.seq (.region Y2 [5,6,7]) (.block 0 Xi)) (.seq (.region abP [2]) .ret))),true⟩
@[simp] def XV:Ω:=[η 2 0]
@[simp] def Z2:Ω:=[μ 5 0,ν 6 .slice 5,γ 7 .gtr 6 8192]
@[simp] def PQ:Ω:=[η 2 3]
@[simp] def S4:Ω:=[μ 8 0,ν 9 .slice 8,η 10 0]
@[simp] def Z6:Ω:=[β 11 .lss 10 9]
@[simp] def UG:Ω:=[ι 12 8 8 10,Λ 13 8 12,σ 4 (.alloc [δ,δ,δ,δ,δ,δ,δ,(.bool false)]),ω 8 4 13]
@[simp] def ach:Ω:=[Λ 14 8 4,σ 15 (.call 120 [(.t 14)])]
@[simp] def ZN:Ω:=[η 2 2]
@[simp] def abt:Ω:=[γ 16 .add 10 1,μ 10 16]
def rS:RC:=(.seq (.region Z6 [8,9,10,11]) (.seq (.cond (.t 11) .skip (.exit 0)) (.seq (.block 1 (.seq (.region UG [4,8,9,10]) (.seq (.region ach [8,9,10,15]) (.cond (.t 15) (.seq (.region ZN [2]) .ret) .skip)))) (.region abt [8,9,10]))))
def oy:RC:=.loop [8,9,10] rS
@[simp] def abg:Ω:=[η 2 0]
def f109:an:=⟨[.t 2],(.seq (.region XV [0]) (.seq (.seq (.region Z2 [0,7]) (.cond (.t 7) (.seq (.region PQ [2]) .ret) .skip)) (.seq (.seq (.region S4 [8,9,10]) (.block 0 oy)) (.seq (.region abg [2]) .ret)))),true⟩
@[simp] def aam:Ω:=[η 8 0,η 9 0]
@[simp] def Oo:Ω:=[μ 14 0,μ 15 1,μ 16 2,σ 17 (.call 121 [(.t 14),(.t 15),(.t 16)]),μ 10 17]
@[simp] def Q7:Ω:=[μ 18 10,γ 19 .neq 18 0]
@[simp] def acr:Ω:=[μ 20 10,η 8 0,μ 9 20]
@[simp] def Sf:Ω:=[μ 21 3,σ 22 (.call 122 [(.t 21)]),σ 23 (.un .not (.t 22))]
@[simp] def Zd:Ω:=[η 8 0,η 9 5]
@[simp] def aaP:Ω:=[μ 24 3,μ 11 24]
@[simp] def Yf:Ω:=[μ 25 0,μ 26 1,μ 27 2,σ 28 (.call 123 [(.t 25),(.t 26),(.t 27)]),ν 29 .slice 28,η 30 0]
@[simp] def Om:Ω:=[β 31 .lss 30 29]
@[simp] def Pv:Ω:=[ι 32 8 28 30,Λ 33 8 32,σ 13 (.alloc [δ,δ,δ,δ,δ,δ,δ,(.bool false)]),ω 8 13 33]
@[simp] def HG:Ω:=[φ 34 0 13,ρ 35 34]
@[simp] def F8:Ω:=[γ 37 .eql 35 1,μ 36 37]
@[simp] def Kx:Ω:=[γ 38 .eql 35 2,μ 36 38]
@[simp] def DA:Ω:=[μ 39 11,φ 40 3 13,ρ 41 40,β 42 .add 39 41,μ 11 42]
@[simp] def Ef:Ω:=[γ 44 .eql 35 4,μ 43 44]
@[simp] def Kv:Ω:=[μ 45 11,σ 46 (.call 124 [(.t 45)]),μ 11 46]
@[simp] def E3:Ω:=[γ 47 .add 30 1,μ 30 47]
def mV:RC:=(.seq (.region Om [0,2,3,11,28,29,30,31]) (.seq (.cond (.t 31) .skip (.exit 0)) (.seq (.block 1 (.seq (.region Pv [0,2,3,11,13,28,29,30]) (.seq (.region HG [0,2,3,11,13,28,29,30,35]) (.block 2 (.seq (.seq (.region F8 [0,2,3,11,13,28,29,30,35,36]) (.cond (.t 36) .skip (.region Kx [0,2,3,11,13,28,29,30,35,36]))) (.cond (.t 36) (.region DA [0,2,3,11,28,29,30]) (.seq (.region Ef [0,2,3,11,28,29,30,43]) (.cond (.t 43) (.region Kv [0,2,3,11,28,29,30]) .skip)))))))) (.region E3 [0,2,3,11,28,29,30]))))
def sR:RC:=.loop [0,2,3,11,28,29,30] mV
@[simp] def Ft:Ω:=[μ 48 2,μ 49 0,ν 50 .slice 49,β 51 .lss 48 50,μ 52 51,Μ 53 0 52 true,Μ 54 2 52 true,τ 55 (.aJ 8 (.t 53) (.t 54)) 52 true,Φ 56 0 55 52 true,Ρ 57 56 52 true,τ 58 (.bin .eql (.t 57) (κ 3)) 52 true,ξ 59 52 58]
@[simp] def JB:Ω:=[μ 60 11,μ 61 0,μ 62 2,ι 63 8 61 62,φ 64 3 63,ρ 65 64,β 66 .add 60 65,μ 11 66]
@[simp] def GB:Ω:=[μ 67 11,μ 68 3,β 69 .sub 67 68,μ 8 69,η 9 0]
def f110:an:=⟨[.t 8,.t 9],(.seq (.region aam [0,1,2,3]) (.seq (.seq (.region Oo [0,1,2,3,10]) (.seq (.region Q7 [0,1,2,3,10,19]) (.cond (.t 19) (.seq (.region acr [8,9]) .ret) .skip))) (.seq (.seq (.region Sf [0,1,2,3,23]) (.cond (.t 23) (.seq (.region Zd [8,9]) .ret) .skip)) (.seq (.region aaP [0,1,2,3,11]) (.seq (.seq (.region Yf [0,2,3,11,28,29,30]) (.block 0 sR)) (.seq (.seq (.region Ft [0,2,3,11,59]) (.cond (.t 59) (.region JB [3,11]) .skip)) (.seq (.region GB [8,9]) .ret))))))),true⟩
@[simp] def abv:Ω:=[σ 4 (.box 1 (.t 1)),σ 5 (.box 2 (.t 2)),σ 6 (.mv (.c θ)),η 7 0]
@[simp] def ZM:Ω:=[μ 12 0,σ 13 (.call 109 [(.t 12)]),μ 8 13]
@[simp] def Nx:Ω:=[μ 14 8,γ 15 .neq 14 0]
@[simp] def NI:Ω:=[μ 16 8,σ 6 (.mv (.c θ)),μ 7 16]
@[simp] def Nw:Ω:=[ρ 17 4,Λ 18 2 5,σ 19 (.call 126 [(.t 17),(.t 18)]),μ 9 19]
@[simp] def acj:Ω:=[μ 20 9,γ 21 .neq 20 0]
@[simp] def XP:Ω:=[μ 22 9,σ 6 (.mv (.c θ)),μ 7 22]
@[simp] def Sg:Ω:=[μ 23 0,σ 24 (.fF 127 [] [(.t 4),(.t 5)]),σ 25 (.build [θ,.bL,θ] [(0,1,(.t 23)),(1,1,(.t 24))]),σ 26 (.box 3 (.t 25)),μ 10 26]
@[simp] def Zj:Ω:=[η 11 0]
@[simp] def aa2:Ω:=[μ 27 11,μ 28 0,ν 29 .slice 28,β 30 .lss 27 29,μ 31 30,Μ 32 0 31 true,Μ 33 11 31 true,τ 34 (.aJ 8 (.t 32) (.t 33)) 31 true,Φ 35 0 34 31 true,Ρ 36 35 31 true,τ 37 (.bin .eql (.t 36) (κ 2)) 31 true,ξ 38 31 37]
@[simp] def JK:Ω:=[μ 39 11,γ 40 .add 39 1,μ 11 40]
def oz:RC:=(.seq (.seq (.region aa2 [0,10,11,38]) (.cond (.t 38) .skip (.exit 0))) (.block 1 (.region JK [0,10,11])))
def mP:RC:=.loop [0,10,11] oz
@[simp] def Gw:Ω:=[μ 41 11,μ 42 0,ν 43 .slice 42,β 44 .eql 41 43]
@[simp] def I0:Ω:=[μ 45 0,ν 46 .slice 45,μ 47 0,ν 48 .slice 47,σ 49 (.build [δ,δ,(.bool false),(.bool false),δ] [(0,1,(.t 46)),(1,1,(.t 48))]),σ 50 (.lit 5 true [δ,δ,(.bool false),(.bool false),δ] 1 [(0,(.t 49))]),μ 6 50,η 7 0]
@[simp] def Dy:Ω:=[μ 51 11,μ 52 0,ν 53 .slice 52,μ 54 10,σ 55 (.fF 129 [(.t 54)] []),μ 56 10,σ 57 (.fF 130 [(.t 56)] []),σ 58 (.call 128 [(.t 51),(.t 53),(.t 55),(.t 57)])]
@[simp] def Hi:Ω:=[μ 59 10,σ 60 (.ak (.t 59)),φ 61 2 60,ρ 62 61,μ 6 62,η 7 0]
def f113:an:=⟨[.t 6,.t 7],(.seq (.region abv [0,4,5]) (.seq (.seq (.region ZM [0,4,5,8]) (.seq (.region Nx [0,4,5,8,15]) (.cond (.t 15) (.seq (.region NI [6,7]) .ret) .skip))) (.seq (.seq (.region Nw [0,4,5,9]) (.seq (.region acj [0,4,5,9,21]) (.cond (.t 21) (.seq (.region XP [6,7]) .ret) .skip))) (.seq (.region Sg [0,10]) (.seq (.region Zj [0,10,11]) (.seq (.block 0 mP) (.seq (.seq (.region Gw [0,10,11,44]) (.cond (.t 44) (.seq (.region I0 [6,7]) .ret) .skip)) (.seq (.region Dy [10]) (.seq (.region Hi [6,7]) .ret))))))))),true⟩
@[simp] def aav:Ω:=[σ 4 (.box 2 (.t 1)),σ 6 (.alloc [δ,δ])]
@[simp] def NY:Ω:=[μ 8 2,γ 9 .lss 8 0,μ 7 9]
@[simp] def QG:Ω:=[σ 10 (.build [δ,δ] []),ω 2 6 10]
@[simp] def MD:Ω:=[μ 12 2,μ 13 0,ν 14 .slice 13,β 15 .lss 12 14,μ 11 15]
@[simp] def Q1:Ω:=[μ 16 0,μ 17 2,ι 18 2 16 17,Λ 19 2 18,ω 2 6 19]
@[simp] def PD:Ω:=[Λ 20 2 4,ω 2 6 20]
def f114:an:=⟨[.cell 6 2 true],(.seq (.region aav [0,2,4,6]) (.seq (.block 0 (.seq (.region NY [0,2,4,6,7]) (.cond (.t 7) (.seq (.region QG [6]) .ret) (.seq (.region MD [0,2,4,6,11]) (.cond (.t 11) (.seq (.region Q1 [6]) .ret) .skip))))) (.seq (.region PD [6]) .ret))),true⟩
@[simp] def Sc:Ω:=[σ 1 (.box 21 (.t 0)),σ 2 (.mv (.c θ)),η 3 0]
@[simp] def TI:Ω:=[Λ 7 21 1,σ 8 (.call 10 [(.t 7)]),μ 6 8,ε 9 6 0,ε 10 6 1,μ 4 9,μ 5 10]
@[simp] def SU:Ω:=[μ 11 5,γ 12 .eql 11 0,μ 13 12,Φ 14 2 1 13 true,Φ 15 14 14 13 true,Ρ 16 15 13 true,τ 17 (.bin .geq (.t 16) (κ 2)) 13 true,ξ 18 13 17,μ 19 18,Μ 20 4 19 true,τ 21 (.len .slice (.t 20)) 19 true,τ 22 (.bin .gtr (.t 21) (κ 0)) 19 true,ξ 23 19 22,μ 24 23,Μ 25 4 24 true,τ 26 (.aJ 6 (.t 25) (κ 0)) 24 true,Φ 27 2 26 24 true,Ρ 28 27 24 true,τ 29 (.bin .eql (.t 28) (κ 1)) 24 true,ξ 30 24 29]
@[simp] def acO:Ω:=[μ 31 4,σ 32 (.slice false 6 (.t 31) (some (κ 1)) none none),μ 4 32]
@[simp] def MS:Ω:=[μ 33 4,μ 34 5,μ 2 33,μ 3 34]
def f117:an:=⟨[.t 2,.t 3],(.seq (.region Sc [1]) (.seq (.region TI [1,4,5]) (.seq (.seq (.region SU [4,5,30]) (.cond (.t 30) (.region acO [4,5]) .skip)) (.seq (.region MS [2,3]) .ret)))),true⟩
@[simp] def aeq:Ω:=[σ 2 (.box 21 (.t 0)),σ 3 (.box 1 (.t 1)),σ 4 (.mv (.c .bL))]
@[simp] def UQ:Ω:=[σ 5 (.fF 131 [] [(.t 2),(.t 3)]),μ 4 5]
def f118:an:=⟨[.t 4],(.seq (.region aeq [2,3]) (.seq (.region UQ [4]) .ret)),false⟩
@[simp] def aaq:Ω:=[σ 1 (.box 8 (.t 0)),σ 2 (.mv (.c (.bool false)))]
@[simp] def acF:Ω:=[φ 3 0 1,ρ 4 3,γ 5 .lss 4 1,μ 6 5,Φ 7 0 1 6 false,Ρ 8 7 6 false,τ 9 (.bin .gtr (.t 8) (κ 4)) 6 false,ζ 10 6 9,μ 11 10,Φ 12 1 1 11 false,Ρ 13 12 11 false,τ 14 (.bin .lss (.t 13) (κ 0)) 11 false,ζ 15 11 14,μ 16 15,Φ 17 2 1 16 false,Ρ 18 17 16 false,Φ 19 1 1 16 false,Ρ 20 19 16 false,τ 21 (.bin .lss (.t 18) (.t 20)) 16 false,ζ 22 16 21,μ 23 22,Φ 24 3 1 23 false,Ρ 25 24 23 false,τ 26 (.bin .lss (.t 25) (κ 0)) 23 false,ζ 27 23 26,μ 28 27,Φ 29 3 1 28 false,Ρ 30 29 28 false,τ 31 (.bin .gtr (.t 30) (κ 2097152)) 28 false,ζ 32 28 31,μ 33 32,Φ 34 4 1 33 false,Ρ 35 34 33 false,τ 36 (.call 122 [(.t 35)]) 33 false,τ 37 (.un .not (.t 36)) 33 false,ζ 38 33 37,μ 39 38,Φ 40 5 1 39 false,Ρ 41 40 39 false,τ 42 (.call 122 [(.t 41)]) 39 false,τ 43 (.un .not (.t 42)) 39 false,ζ 44 39 43,μ 45 44,Φ 46 6 1 45 false,Ρ 47 46 45 false,τ 48 (.call 122 [(.t 47)]) 45 false,τ 49 (.un .not (.t 48)) 45 false,ζ 50 45 49]
@[simp] def Yu:Ω:=[σ 2 (.mv (.c (.bool true)))]
@[simp] def XY:Ω:=[φ 51 0 1,ρ 52 51,γ 53 .neq 52 3,μ 54 53,Φ 55 7 1 54 true,Ρ 56 55 54 true,Μ 57 56 54 true,Φ 58 6 1 57 false,Ρ 59 58 57 false,τ 60 (.bin .neq (.t 59) (κ 0)) 57 false,τ 61 (.pick (.t 57) (.c (.bool true)) (.t 60)) 54 true,ξ 62 54 61,μ 63 62,Φ 64 0 1 63 false,Ρ 65 64 63 false,τ 66 (.bin .neq (.t 65) (κ 2)) 63 false,Μ 67 66 63 false,Φ 68 4 1 67 true,Ρ 69 68 67 true,τ 70 (.bin .neq (.t 69) (κ 0)) 67 true,Μ 71 70 67 true,Φ 72 5 1 71 false,Ρ 73 72 71 false,τ 74 (.bin .neq (.t 73) (κ 0)) 71 false,τ 75 (.pick (.t 71) (.c (.bool true)) (.t 74)) 67 true,τ 76 (.pick (.t 67) (.t 75) (.c (.bool false))) 63 false,ζ 77 63 76,μ 78 77,Φ 79 0 1 78 false,Ρ 80 79 78 false,τ 81 (.bin .eql (.t 80) (κ 4)) 78 false,Μ 82 81 78 false,Φ 83 3 1 82 true,Ρ 84 83 82 true,τ 85 (.bin .neq (.t 84) (κ 0)) 82 true,τ 86 (.pick (.t 82) (.t 85) (.c (.bool false))) 78 false,ζ 87 78 86,μ 2 87]
def f120:an:=⟨[.t 2],(.seq (.region aaq [1]) (.seq (.seq (.region acF [1,50]) (.cond (.t 50) (.seq (.region Yu [2]) .ret) .skip)) (.seq (.region XY [2]) .ret))),true⟩
@[simp] def ab9:Ω:=[η 6 0]
@[simp] def YK:Ω:=[μ 8 0,σ 9 (.call 109 [(.t 8)]),μ 7 9]
@[simp] def ad3:Ω:=[μ 10 7,γ 11 .eql 10 0,μ 12 11,Μ 13 1 12 true,τ 14 (.bin .lss (.t 13) (κ 0)) 12 true,Μ 15 14 12 true,Μ 16 2 15 false,Μ 17 1 15 false,τ 18 (.bin .lss (.t 16) (.t 17)) 15 false,τ 19 (.pick (.t 15) (.c (.bool true)) (.t 18)) 12 true,Μ 20 19 12 true,Μ 21 2 20 false,Μ 22 0 20 false,τ 23 (.len .slice (.t 22)) 20 false,τ 24 (.bin .gtr (.t 21) (.t 23)) 20 false,τ 25 (.pick (.t 20) (.c (.bool true)) (.t 24)) 12 true,ξ 26 12 25]
@[simp] def WH:Ω:=[η 7 5]
@[simp] def aej:Ω:=[μ 27 7,μ 6 27]
def f121:an:=⟨[.t 6],(.seq (.region ab9 [0,1,2]) (.seq (.region YK [0,1,2,7]) (.seq (.seq (.region ad3 [7,26]) (.cond (.t 26) (.region WH [7]) .skip)) (.seq (.region aej [6]) .ret)))),true⟩
@[simp] def Qf:Ω:=[σ 2 (.mv (.c (.bool false)))]
@[simp] def SE:Ω:=[μ 3 0,γ 4 .geq 3 0,μ 5 4,Μ 6 0 5 true,τ 7 (.bin .leq (.t 6) (κ 4095)) 5 true,ξ 8 5 7,μ 2 8]
def f122:an:=⟨[.t 2],(.seq (.region Qf [0]) (.seq (.region SE [2]) .ret)),true⟩
@[simp] def abL:Ω:=[σ 6 (.mv (.c θ))]
@[simp] def YW:Ω:=[μ 7 2,μ 8 1,β 9 .gtr 7 8,μ 10 9,Μ 11 0 10 true,Μ 12 2 10 true,τ 13 (.bin .sub (.t 12) (κ 1)) 10 true,τ 14 (.aJ 8 (.t 11) (.t 13)) 10 true,Φ 15 0 14 10 true,Ρ 16 15 10 true,τ 17 (.bin .eql (.t 16) (κ 2)) 10 true,ξ 18 10 17]
@[simp] def X5:Ω:=[μ 19 2,γ 20 .sub 19 1,μ 2 20]
def oG:RC:=(.seq (.seq (.region YW [0,1,2,18]) (.cond (.t 18) .skip (.exit 0))) (.block 1 (.region X5 [0,1,2])))
def na:RC:=.loop [0,1,2] oG
@[simp] def Qg:Ω:=[μ 21 0,μ 22 1,μ 23 2,σ 24 (.slice false 8 (.t 21) (some (.t 22)) (some (.t 23)) none),μ 6 24]
def f123:an:=⟨[.t 6],(.seq (.region abL [0,1,2]) (.seq (.block 0 na) (.seq (.region Qg [6]) .ret))),true⟩
@[simp] def N0:Ω:=[η 2 0]
@[simp] def adY:Ω:=[μ 6 0,σ 7 (.call 139 [(.c θ),(.t 6)]),μ 5 7,ε 8 5 0,ε 9 5 1,σ 3 (.alloc [δ,δ]),ω 2 3 8,μ 4 9]
@[simp] def Sy:Ω:=[μ 10 4,γ 11 .eql 10 0]
@[simp] def L9:Ω:=[φ 12 0 3,ρ 13 12,μ 2 13]
@[simp] def MQ:Ω:=[μ 14 0,γ 15 .quo 14 48,γ 16 .add 15 1,γ 17 .mul 16 48,μ 2 17]
def f124:an:=⟨[.t 2],(.seq (.region N0 [0]) (.seq (.seq (.region adY [0,3,4]) (.seq (.region Sy [0,3,11]) (.cond (.t 11) (.seq (.region L9 [2]) .ret) .skip))) (.seq (.region MQ [2]) .ret))),true⟩
@[simp] def xY:Ω:=[σ 3 (.box 2 (.t 1)),η 4 0]
@[simp] def xA:Ω:=[μ 7 0,ν 8 .slice 7,γ 9 .gtr 8 256]
@[simp] def xZ:Ω:=[η 4 3]
@[simp] def wv:Ω:=[μ 10 0,σ 11 (.append 2 true 16 (.c θ) (.t 10)),Λ 12 2 3,σ 13 (.lit 2 true [δ,δ] 1 [(0,(.t 12))]),σ 14 (.append 2 true 16 (.t 11) (.t 13)),ν 15 .slice 14,η 16 0]
@[simp] def Pf:Ω:=[β 17 .lss 16 15]
@[simp] def aar:Ω:=[ι 18 2 14 16,Λ 19 2 18,σ 6 (.alloc [δ,δ]),ω 2 6 19]
@[simp] def aaw:Ω:=[Λ 20 2 6,σ 21 (.call 140 [(.t 20)]),σ 22 (.un .not (.t 21))]
@[simp] def abO:Ω:=[η 4 2]
@[simp] def Nt:Ω:=[γ 23 .add 16 1,μ 16 23]
def rW:RC:=(.seq (.region Pf [14,15,16,17]) (.seq (.cond (.t 17) .skip (.exit 0)) (.seq (.block 1 (.seq (.region aar [6,14,15,16]) (.seq (.region aaw [14,15,16,22]) (.cond (.t 22) (.seq (.region abO [4]) .ret) .skip)))) (.region Nt [14,15,16]))))
def mw:RC:=.loop [14,15,16] rW
@[simp] def A4:Ω:=[η 4 0]
def f126:an:=⟨[.t 4],(.seq (.region xY [0,3]) (.seq (.seq (.region xA [0,3,9]) (.cond (.t 9) (.seq (.region xZ [4]) .ret) .skip)) (.seq (.seq (.au wv [] [(2,[0]),(3,[0])] [14,15,16]) (.block 0 mw)) (.seq (.region A4 [4]) .ret)))),true⟩
@[simp] def Nn:Ω:=[σ 4 (.alloc [δ,δ])]
@[simp] def LS:Ω:=[ρ 5 1,Λ 6 2 2,μ 7 0,σ 8 (.call 114 [(.t 5),(.t 6),(.t 7)]),ω 2 4 8]
def f127:an:=⟨[.cell 4 2 true],(.seq (.region Nn [0,1,2,4]) (.seq (.region LS [4]) .ret)),false⟩
@[simp] def P7:Ω:=[μ 9 0,μ 8 9]
@[simp] def ac7:Ω:=[μ 10 8,μ 11 1,β 12 .lss 10 11]
@[simp] def WV:Ω:=[μ 13 3,μ 14 2,μ 15 8,σ 16 (.br (.t 14) [(.t 15)]),σ 17 (.br (.t 13) [(.t 16)]),μ 8 17]
def si:RC:=(.seq (.seq (.region ac7 [1,2,3,8,12]) (.cond (.t 12) .skip (.exit 0))) (.seq (.block 1 .skip) (.region WV [1,2,3,8])))
def pJ:RC:=.loop [1,2,3,8] si
def f128:an:=⟨[],(.seq (.region P7 [1,2,3,8]) (.block 0 pJ)),false⟩
@[simp] def xC:Ω:=[η 4 0]
@[simp] def sP:Ω:=[μ 14 0,σ 15 (.ak (.t 14)),φ 16 1 15,ρ 17 16,μ 18 0,σ 19 (.ak (.t 18)),φ 20 2 19,ρ 21 20,ν 22 .slice 21,σ 23 (.br (.t 17) [(.t 22)]),σ 5 (.alloc [δ,δ]),ω 2 5 23]
@[simp] def xS:Ω:=[σ 6 (.mv (.c (.int .i64 (.negSucc 0)))),η 7 0,σ 8 (.mv (.c (.bool false)))]
@[simp] def xu:Ω:=[φ 24 0 5,ρ 25 24,μ 9 25]
@[simp] def wg:Ω:=[φ 26 0 5,ρ 27 26,μ 10 27]
@[simp] def wE:Ω:=[μ 28 1,μ 11 28]
@[simp] def BW:Ω:=[μ 29 11,μ 30 0,σ 31 (.ak (.t 30)),φ 32 0 31,ρ 33 32,ν 34 .slice 33,β 35 .leq 29 34]
@[simp] def s9:Ω:=[μ 38 11,μ 39 1,β 40 .gtr 38 39,μ 41 40,Μ 42 0 41 true,Μ 43 11 41 true,τ 44 (.call 141 [(.t 42),(.t 43)]) 41 true,ξ 45 41 44]
@[simp] def sI:Ω:=[μ 46 10,φ 47 0 5,ρ 48 47,β 49 .sub 46 48,μ 12 49]
@[simp] def sn:Ω:=[μ 50 11,μ 51 0,σ 52 (.ak (.t 51)),φ 53 0 52,ρ 54 53,ν 55 .slice 54,β 56 .lss 50 55,μ 57 56,Μ 58 0 57 true,τ 59 (.ak (.t 58)) 57 true,Φ 60 0 59 57 true,Ρ 61 60 57 true,Μ 62 11 57 true,τ 63 (.aJ 8 (.t 61) (.t 62)) 57 true,Φ 64 0 63 57 true,Ρ 65 64 57 true,τ 66 (.bin .eql (.t 65) (κ 3)) 57 true,ξ 67 57 66]
@[simp] def oj:Ω:=[μ 68 12,μ 69 0,σ 70 (.ak (.t 69)),φ 71 0 70,ρ 72 71,μ 73 11,ι 74 8 72 73,φ 75 3 74,ρ 76 75,β 77 .add 68 76,μ 12 77]
@[simp] def tB:Ω:=[μ 78 6,γ 79 .lss 78 0,μ 80 79,Μ 81 12 80 false,Φ 82 1 5 80 false,Ρ 83 82 80 false,τ 84 (.bin .leq (.t 81) (.t 83)) 80 false,ζ 85 80 84]
@[simp] def tr:Ω:=[μ 86 12,φ 87 1 5,ρ 88 87,β 89 .gtr 86 88]
@[simp] def sO:Ω:=[σ 8 (.mv (.c (.bool true)))]
@[simp] def tC:Ω:=[μ 90 11,μ 91 12,μ 6 90,μ 7 91]
@[simp] def so:Ω:=[μ 92 12,φ 93 1 5,ρ 94 93,β 95 .gtr 92 94]
@[simp] def yO:Ω:=[μ 96 11,μ 97 0,σ 98 (.ak (.t 97)),φ 99 0 98,ρ 100 99,ν 101 .slice 100,β 102 .lss 96 101]
@[simp] def yU:Ω:=[μ 103 0,μ 104 11,μ 105 9,σ 106 (.call 142 [(.t 103),(.t 104),(.t 105)]),μ 9 106]
@[simp] def yl:Ω:=[μ 107 0,σ 108 (.ak (.t 107)),φ 109 0 108,ρ 110 109,μ 111 11,ι 112 8 110 111,φ 113 0 112,ρ 114 113,γ 115 .neq 114 2]
@[simp] def yv:Ω:=[μ 116 9,μ 10 116]
@[simp] def EX:Ω:=[μ 36 11,γ 37 .add 36 1,μ 11 37]
def pY:RC:=(.seq (.seq (.region BW [0,1,5,6,7,8,9,10,11,35]) (.cond (.t 35) .skip (.exit 0))) (.seq (.block 1 (.seq (.seq (.region s9 [0,1,5,6,7,8,9,10,11,45]) (.cond (.t 45) (.seq (.region sI [0,1,5,6,7,8,9,10,11,12]) (.seq (.seq (.region sn [0,1,5,6,7,8,9,10,11,12,67]) (.cond (.t 67) (.region oj [0,1,5,6,7,8,9,10,11,12]) .skip)) (.seq (.seq (.region tB [0,1,5,6,7,8,9,10,11,12,85]) (.cond (.t 85) (.seq (.seq (.region tr [0,1,5,8,9,10,11,12,89]) (.cond (.t 89) (.region sO [0,1,5,8,9,10,11,12]) .skip)) (.region tC [0,1,5,6,7,8,9,10,11,12])) .skip)) (.seq (.region so [0,1,5,6,7,8,9,10,11,95]) (.cond (.t 95) (.exit 0) .skip))))) .skip)) (.seq (.region yO [0,1,5,6,7,8,9,10,11,102]) (.cond (.t 102) (.seq (.region yU [0,1,5,6,7,8,9,10,11]) (.seq (.region yl [0,1,5,6,7,8,9,10,11,115]) (.cond (.t 115) (.region yv [0,1,5,6,7,8,9,10,11]) .skip))) .skip)))) (.region EX [0,1,5,6,7,8,9,10,11])))
def iP:RC:=.loop [0,1,5,6,7,8,9,10,11] pY
@[simp] def sf:Ω:=[μ 117 1,μ 118 6,μ 119 8,μ 120 7,σ 121 (.build [δ,δ,(.bool false),(.bool false),δ] [(0,1,(.t 117)),(1,1,(.t 118)),(2,1,(.t 119)),(4,1,(.t 120))]),σ 13 (.alloc [δ,δ,(.bool false),(.bool false),δ]),ω 5 13 121]
@[simp] def sE:Ω:=[μ 122 6,μ 123 0,σ 124 (.ak (.t 123)),φ 125 0 124,ρ 126 125,ν 127 .slice 126,β 128 .lss 122 127,μ 129 128,Μ 130 0 129 true,τ 131 (.ak (.t 130)) 129 true,Φ 132 0 131 129 true,Ρ 133 132 129 true,Μ 134 6 129 true,τ 135 (.aJ 8 (.t 133) (.t 134)) 129 true,Φ 136 7 135 129 true,Ρ 137 136 129 true,ξ 138 129 137,φ 139 3 13,ω 1 139 138]
@[simp] def tD:Ω:=[μ 140 0,μ 141 0,σ 142 (.ak (.t 141)),φ 143 2 142,ρ 144 143,Λ 145 5 13,σ 146 (.lit 5 true [δ,δ,(.bool false),(.bool false),δ] 1 [(0,(.t 145))]),σ 147 (.append 5 true 32 (.t 144) (.t 146)),σ 148 (.ak (.t 140)),φ 149 2 148,ω 1 149 147]
@[simp] def yS:Ω:=[μ 150 6,μ 4 150]
def f129:an:=⟨[.t 4],(.seq (.region xC [0,1]) (.seq (.au sP [10] [] [0,1,5]) (.seq (.region xS [0,1,5,6,7,8]) (.seq (.region xu [0,1,5,6,7,8,9]) (.seq (.region wg [0,1,5,6,7,8,9,10]) (.seq (.seq (.region wE [0,1,5,6,7,8,9,10,11]) (.block 0 iP)) (.seq (.region sf [0,6,13]) (.seq (.region sE [0,6,13]) (.seq (.au tD [] [] [6]) (.seq (.region yS [4]) .ret)))))))))),false⟩
@[simp] def Wm:Ω:=[η 4 0]
@[simp] def Xm:Ω:=[μ 5 1,μ 6 0,σ 7 (.ak (.t 6)),φ 8 0 7,ρ 9 8,ν 10 .slice 9,β 11 .lss 5 10,μ 12 11,Μ 13 1 12 true,τ 14 (.bin .geq (.t 13) (κ 0)) 12 true,ξ 15 12 14,μ 16 15,Μ 17 0 16 true,τ 18 (.ak (.t 17)) 16 true,Φ 19 0 18 16 true,Ρ 20 19 16 true,Μ 21 1 16 true,τ 22 (.aJ 8 (.t 20) (.t 21)) 16 true,Φ 23 0 22 16 true,Ρ 24 23 16 true,τ 25 (.bin .eql (.t 24) (κ 3)) 16 true,ξ 26 16 25]
@[simp] def Y5:Ω:=[μ 27 1,γ 28 .add 27 1,μ 1 28]
@[simp] def acZ:Ω:=[μ 29 1,μ 30 0,σ 31 (.ak (.t 30)),φ 32 0 31,ρ 33 32,ν 34 .slice 33,β 35 .lss 29 34,μ 36 35,Μ 37 0 36 true,τ 38 (.ak (.t 37)) 36 true,Φ 39 0 38 36 true,Ρ 40 39 36 true,Μ 41 1 36 true,τ 42 (.aJ 8 (.t 40) (.t 41)) 36 true,Φ 43 0 42 36 true,Ρ 44 43 36 true,τ 45 (.bin .eql (.t 44) (κ 2)) 36 true,ξ 46 36 45]
@[simp] def adM:Ω:=[μ 47 1,γ 48 .add 47 1,μ 1 48]
def pH:RC:=(.seq (.seq (.region acZ [0,1,46]) (.cond (.t 46) .skip (.exit 0))) (.block 1 (.region adM [0,1])))
def iW:RC:=.loop [0,1] pH
@[simp] def Vb:Ω:=[μ 49 1,μ 4 49]
def f130:an:=⟨[.t 4],(.seq (.region Wm [0,1]) (.seq (.seq (.region Xm [0,1,26]) (.cond (.t 26) (.region Y5 [0,1]) .skip)) (.seq (.block 0 iW) (.seq (.region Vb [4]) .ret)))),false⟩
@[simp] def WI:Ω:=[σ 3 (.box 1 (.t 0))]
@[simp] def aaM:Ω:=[Λ 12 21 1,ρ 13 2,σ 14 (.call 132 [(.t 12),(.t 13)]),μ 4 14]
@[simp] def aci:Ω:=[σ 15 (.fF 133 [] [(.t 2),(.t 1)]),μ 5 15]
@[simp] def Xw:Ω:=[σ 7 (.alloc [δ]),η 6 0,⟨none,.store 1 (.t 7) (κ 0),none⟩]
@[simp] def PH:Ω:=[σ 16 (.fF 134 [] [(.t 7),(.t 3),(.t 2)]),μ 8 16]
@[simp] def Yz:Ω:=[ρ 17 2,ν 18 .slice 17,η 19 0]
@[simp] def Ql:Ω:=[β 20 .lss 19 18]
@[simp] def VT:Ω:=[μ 21 19,ι 22 6 17 19,Λ 23 6 22,σ 10 (.alloc [δ,δ,δ,δ,δ,δ]),μ 9 21,ω 6 10 23]
@[simp] def PS:Ω:=[Λ 24 6 10,σ 25 (.call 136 [(.t 24)]),σ 26 (.un .not (.t 25))]
@[simp] def Rk:Ω:=[μ 27 8,μ 28 9,σ 29 (.br (.t 27) [(.t 28)]),σ 30 (.un .not (.t 29)),μ 31 30,Ρ 32 3 31 false,τ 33 (.load 6 true (.t 10)) 31 false,τ 34 (.call 137 [(.t 33)]) 31 false,τ 35 (.br (.t 32) [(.t 34)]) 31 false,τ 36 (.un .not (.t 35)) 31 false,ζ 37 31 36]
@[simp] def Gj:Ω:=[μ 38 9,γ 39 .add 38 1,μ 40 9,γ 41 .add 40 1,μ 6 39,ω 1 7 41]
@[simp] def I3:Ω:=[μ 42 9,ρ 43 7,β 44 .eql 42 43]
@[simp] def Iy:Ω:=[φ 45 0 10,ρ 46 45,φ 47 0 10,ρ 48 47,σ 49 (.build [δ,δ,δ,δ,δ,δ,δ,(.bool false)] [(0,1,(κ 3)),(1,1,(.t 46)),(2,1,(.t 48))]),σ 11 (.alloc [δ,δ,δ,δ,δ,δ,δ,(.bool false)]),ω 8 11 49]
@[simp] def IN:Ω:=[μ 51 4,μ 52 9,ι 53 1 51 52,ρ 54 53,μ 50 54]
@[simp] def GM:Ω:=[φ 55 3 10,ρ 56 55,σ 57 (.call 138 [(.t 56)]),φ 58 6 11,⟨none,.store 1 (.t 58) (κ 100),none⟩,φ 59 7 11,⟨none,.store 1 (.t 59) (.c (.bool true)),none⟩,φ 60 3 11,ω 1 60 57]
@[simp] def Kg:Ω:=[μ 62 5,μ 63 9,γ 64 .sub 63 1,σ 65 (.br (.t 62) [(.t 64)]),μ 66 65,Μ 67 5 66 true,Μ 68 9 66 true,τ 69 (.br (.t 67) [(.t 68)]) 66 true,τ 70 (.un .not (.t 69)) 66 true,ξ 71 66 70,μ 72 71,Μ 73 9 72 true,τ 74 (.bin .sub (.t 73) (κ 1)) 72 true,Μ 75 6 72 true,τ 76 (.bin .gtr (.t 74) (.t 75)) 72 true,ξ 77 72 76,μ 61 77]
@[simp] def DX:Ω:=[φ 78 6 11,⟨none,.store 1 (.t 78) (κ 50),none⟩]
@[simp] def Fy:Ω:=[μ 79 8,μ 80 9,σ 81 (.br (.t 79) [(.t 80)]),σ 82 (.un .not (.t 81)),μ 83 82,Ρ 84 3 83 false,τ 85 (.load 8 true (.t 11)) 83 false,τ 86 (.br (.t 84) [(.t 85)]) 83 false,τ 87 (.un .not (.t 86)) 83 false,ζ 88 83 87]
@[simp] def Kl:Ω:=[μ 89 9,ω 1 7 89]
@[simp] def Gb:Ω:=[γ 90 .add 19 1,μ 19 90]
def jr:RC:=(.seq (.region Ql [2,3,4,5,6,7,8,17,18,19,20]) (.seq (.cond (.t 20) .skip (.exit 0)) (.seq (.block 1 (.seq (.region VT [2,3,4,5,6,7,8,9,10,17,18,19]) (.seq (.seq (.region PS [2,3,4,5,6,7,8,9,10,17,18,19,26]) (.cond (.t 26) (.seq (.seq (.au Rk [] [] [2,3,4,5,7,8,9,17,18,19,37]) (.cond (.t 37) .ret .skip)) (.seq (.region Gj [2,3,4,5,6,7,8,17,18,19]) (.exit 1))) .skip)) (.seq (.seq (.region I3 [2,3,4,5,6,7,8,9,10,17,18,19,44]) (.cond (.t 44) (.exit 1) .skip)) (.seq (.region Iy [2,3,4,5,6,7,8,9,10,11,17,18,19]) (.seq (.block 2 (.seq (.region IN [2,3,4,5,6,7,8,9,10,11,17,18,19,50]) (.cond (.t 50) (.region GM [2,3,4,5,6,7,8,9,11,17,18,19]) (.seq (.region Kg [2,3,4,5,6,7,8,9,11,17,18,19,61]) (.cond (.t 61) (.region DX [2,3,4,5,6,7,8,9,11,17,18,19]) (.exit 1)))))) (.seq (.seq (.region Fy [2,3,4,5,6,7,8,9,17,18,19,88]) (.cond (.t 88) .ret .skip)) (.region Kl [2,3,4,5,6,7,8,17,18,19])))))))) (.region Gb [2,3,4,5,6,7,8,17,18,19]))))
def fU:RC:=.loop [2,3,4,5,6,7,8,17,18,19] jr
@[simp] def Ip:Ω:=[μ 91 8,ρ 92 2,ν 93 .slice 92,σ 94 (.br (.t 91) [(.t 93)])]
def f131:an:=⟨[],(.seq (.region WI [1,2,3]) (.seq (.region aaM [1,2,3,4]) (.seq (.region aci [2,3,4,5]) (.seq (.region Xw [2,3,4,5,6,7]) (.seq (.region PH [2,3,4,5,6,7,8]) (.seq (.seq (.region Yz [2,3,4,5,6,7,8,17,18,19]) (.block 0 fU)) (.region Ip []))))))),false⟩
@[simp] def TJ:Ω:=[σ 2 (.box 21 (.t 0)),σ 4 (.mv (.c θ))]
@[simp] def S5:Ω:=[μ 14 1,ν 15 .slice 14,γ 16 .add 15 1,σ 17 (.bG 1 false 1 [(.bool false)] (.t 16) (.t 16)),μ 5 17]
@[simp] def NA:Ω:=[φ 18 2 2,φ 19 12 18,ρ 20 19,γ 21 .eql 20 0]
@[simp] def SD:Ω:=[μ 22 5,μ 4 22]
@[simp] def ab7:Ω:=[σ 23 (.call 143 []),μ 6 23]
@[simp] def R7:Ω:=[η 7 0]
@[simp] def Mj:Ω:=[μ 24 7,μ 25 1,ν 26 .slice 25,β 27 .lss 24 26]
@[simp] def SO:Ω:=[μ 28 1,μ 29 7,ι 30 6 28 29,φ 31 2 30,ρ 32 31,γ 33 .neq 32 1]
@[simp] def V8:Ω:=[μ 34 7,γ 35 .add 34 1,μ 7 35]
@[simp] def NR:Ω:=[μ 36 7,μ 8 36]
@[simp] def Ik:Ω:=[σ 9 (.mv (.c θ))]
@[simp] def Jj:Ω:=[μ 37 8,μ 38 1,ν 39 .slice 38,β 40 .lss 37 39,μ 41 40,Μ 42 1 41 true,Μ 43 8 41 true,τ 44 (.aJ 6 (.t 42) (.t 43)) 41 true,Φ 45 2 44 41 true,Ρ 46 45 41 true,τ 47 (.bin .eql (.t 46) (κ 1)) 41 true,ξ 48 41 47,μ 49 48,Μ 50 1 49 true,Μ 51 8 49 true,τ 52 (.aJ 6 (.t 50) (.t 51)) 49 true,Φ 53 3 52 49 true,Ρ 54 53 49 true,Μ 55 1 49 true,Μ 56 7 49 true,τ 57 (.aJ 6 (.t 55) (.t 56)) 49 true,Φ 58 3 57 49 true,Ρ 59 58 49 true,τ 60 (.bin .eql (.t 54) (.t 59)) 49 true,ξ 61 49 60]
@[simp] def E6:Ω:=[μ 62 9,φ 63 0 2,ρ 64 63,μ 65 1,μ 66 8,ι 67 6 65 66,φ 68 0 67,ρ 69 68,σ 70 (.index (.t 64) (.t 69)),σ 71 (.lit 1 false [(.int .u8 (.ofNat 0))] 1 [(0,(.t 70))]),σ 72 (.append 1 false 1 (.t 62) (.t 71)),μ 9 72]
@[simp] def Ia:Ω:=[μ 73 8,γ 74 .add 73 1,μ 8 74]
def mN:RC:=(.seq (.seq (.au Jj [] [] [1,2,5,6,7,8,9,61]) (.cond (.t 61) .skip (.exit 2))) (.block 3 (.seq (.au E6 [] [] [1,2,5,6,7,8,9]) (.region Ia [1,2,5,6,7,8,9]))))
def kX:RC:=.loop [1,2,5,6,7,8,9] mN
@[simp] def Dz:Ω:=[μ 76 6,μ 77 9,σ 78 (.b2s (.t 77)),σ 79 (.call 144 [(.t 76),(.t 78)]),μ 75 79,ε 80 75 0,ε 81 75 1,μ 10 80,μ 11 81]
@[simp] def Kq:Ω:=[μ 82 10,ν 83 .slice 82,η 84 0]
@[simp] def Fl:Ω:=[β 85 .lss 84 83]
@[simp] def F7:Ω:=[ι 86 1 82 84,ρ 87 86,μ 13 87]
@[simp] def Km:Ω:=[μ 88 5,μ 89 7,μ 90 13,β 91 .add 89 90,ι 92 1 88 91,⟨none,.store 1 (.t 92) (.c (.bool true)),none⟩]
@[simp] def Fo:Ω:=[γ 93 .add 84 1,μ 84 93]
def wT:RC:=(.seq (.region Fl [1,2,5,6,7,8,82,83,84,85]) (.seq (.cond (.t 85) .skip (.exit 4)) (.seq (.block 5 (.seq (.region F7 [1,2,5,6,7,8,13,82,83,84]) (.region Km [1,2,5,6,7,8,82,83,84]))) (.region Fo [1,2,5,6,7,8,82,83,84]))))
def tA:RC:=.loop [1,2,5,6,7,8,82,83,84] wT
@[simp] def Fw:Ω:=[μ 94 8,μ 7 94]
def tm:RC:=(.seq (.seq (.region Mj [1,2,5,6,7,27]) (.cond (.t 27) .skip (.exit 0))) (.block 1 (.seq (.seq (.region SO [1,2,5,6,7,33]) (.cond (.t 33) (.seq (.region V8 [1,2,5,6,7]) (.exit 1)) .skip)) (.seq (.region NR [1,2,5,6,7,8]) (.seq (.region Ik [1,2,5,6,7,8,9]) (.seq (.block 2 kX) (.seq (.region Dz [1,2,5,6,7,8,10]) (.seq (.seq (.region Kq [1,2,5,6,7,8,82,83,84]) (.block 4 tA)) (.region Fw [1,2,5,6,7])))))))))
def pB:RC:=.loop [1,2,5,6,7] tm
@[simp] def EY:Ω:=[μ 95 5,μ 4 95]
def f132:an:=⟨[.t 4],(.seq (.region TJ [1,2]) (.seq (.region S5 [1,2,5]) (.seq (.seq (.region NA [1,2,5,21]) (.cond (.t 21) (.seq (.region SD [4]) .ret) .skip)) (.seq (.region ab7 [1,2,5,6]) (.seq (.seq (.region R7 [1,2,5,6,7]) (.block 0 pB)) (.seq (.region EY [4]) .ret)))))),true⟩
@[simp] def N2:Ω:=[σ 4 (.mv (.c (.bool false)))]
@[simp] def SB:Ω:=[ρ 5 1,μ 6 0,ι 7 6 5 6,φ 8 2 7,ρ 9 8,γ 10 .eql 9 2,μ 11 10,Φ 12 0 2 11 true,Ρ 13 12 11 true,Ρ 14 1 11 true,Μ 15 0 11 true,τ 16 (.aJ 6 (.t 14) (.t 15)) 11 true,Φ 17 0 16 11 true,Ρ 18 17 11 true,τ 19 (.index (.t 13) (.t 18)) 11 true,τ 20 (.bin .eql (.t 19) (.c (.int .u8 (.ofNat 45)))) 11 true,ξ 21 11 20,μ 4 21]
def f133:an:=⟨[.t 4],(.seq (.region N2 [0,1,2]) (.seq (.au SB [] [] [4]) .ret)),false⟩
@[simp] def Wt:Ω:=[σ 5 (.mv (.c (.bool false)))]
@[simp] def UA:Ω:=[ρ 6 1,μ 7 0,β 8 .geq 6 7,μ 9 8,Ρ 10 2 9 false,Ρ 11 3 9 false,Ρ 12 1 9 false,Μ 13 0 9 false,τ 14 (.call 135 [(.t 11),(.t 12),(.t 13)]) 9 false,τ 15 (.br (.t 10) [(.t 14)]) 9 false,ζ 16 9 15,μ 5 16]
def f134:an:=⟨[.t 5],(.seq (.region Wt [0,1,2,3]) (.seq (.au UA [] [] [5]) .ret)),false⟩
@[simp] def Ud:Ω:=[σ 6 (.alloc [δ,δ,δ,δ,δ,δ,δ,(.bool false)])]
@[simp] def aeo:Ω:=[μ 10 0,μ 11 1,μ 12 2,σ 13 (.call 23 [(.t 10),(.t 11),(.t 12)]),μ 9 13,ε 14 9 0,ε 15 9 1,μ 7 14,μ 8 15]
@[simp] def QT:Ω:=[μ 16 0,μ 17 1,ι 18 6 16 17,φ 19 0 18,ρ 20 19,μ 21 0,μ 22 2,γ 23 .sub 22 1,ι 24 6 21 23,φ 25 1 24,ρ 26 25,μ 27 7,σ 28 (.build [δ,δ,δ,δ,δ,δ,δ,(.bool false)] [(0,1,(κ 1)),(1,1,(.t 20)),(2,1,(.t 26)),(3,1,(.t 27))]),ω 8 6 28]
def f135:an:=⟨[.cell 6 8 true],(.seq (.region Ud [0,1,2,6]) (.seq (.region aeo [0,1,2,6,7]) (.seq (.au QT [] [] [6]) .ret))),true⟩
@[simp] def Rc:Ω:=[σ 1 (.box 6 (.t 0)),σ 2 (.mv (.c (.bool false)))]
@[simp] def TA:Ω:=[φ 3 2 1,ρ 4 3,γ 5 .neq 4 3,μ 6 5,Φ 7 2 1 6 true,Ρ 8 7 6 true,τ 9 (.bin .neq (.t 8) (κ 4)) 6 true,ξ 10 6 9,μ 11 10,Φ 12 2 1 11 true,Ρ 13 12 11 true,τ 14 (.bin .neq (.t 13) (κ 5)) 11 true,ξ 15 11 14,μ 2 15]
def f136:an:=⟨[.t 2],(.seq (.region Rc [1]) (.seq (.region TA [2]) .ret)),true⟩
@[simp] def Q5:Ω:=[σ 1 (.box 6 (.t 0)),σ 2 (.alloc [δ,δ,δ,δ,δ,δ,δ,(.bool false)])]
@[simp] def aed:Ω:=[φ 3 2 1,ρ 4 3]
@[simp] def Lm:Ω:=[γ 6 .eql 4 3,μ 5 6]
@[simp] def acw:Ω:=[φ 7 0 1,ρ 8 7,φ 9 1 1,ρ 10 9,φ 11 4 1,ρ 12 11,φ 13 4 1,ρ 14 13,γ 15 .quo 14 2,φ 16 4 1,ρ 17 16,γ 18 .quo 17 3,σ 19 (.build [δ,δ,δ,δ,δ,δ,δ,(.bool false)] [(0,1,(κ 2)),(1,1,(.t 8)),(2,1,(.t 10)),(3,1,(.t 12)),(4,1,(.t 15)),(5,1,(.t 18))]),ω 8 2 19]
@[simp] def Mo:Ω:=[γ 21 .eql 4 4,μ 20 21]
@[simp] def Xp:Ω:=[φ 22 0 1,ρ 23 22,φ 24 1 1,ρ 25 24,σ 26 (.build [δ,δ,δ,δ,δ,δ,δ,(.bool false)] [(0,1,(κ 4)),(1,1,(.t 23)),(2,1,(.t 25))]),ω 8 2 26]
@[simp] def Wn:Ω:=[φ 27 0 1,ρ 28 27,φ 29 1 1,ρ 30 29,φ 31 3 1,ρ 32 31,σ 33 (.call 138 [(.t 32)]),σ 34 (.build [δ,δ,δ,δ,δ,δ,δ,(.bool false)] [(0,1,(κ 3)),(1,1,(.t 28)),(2,1,(.t 30)),(3,1,(.t 33)),(6,1,(κ 50)),(7,1,(.c (.bool true)))]),ω 8 2 34]
def f137:an:=⟨[.cell 2 8 true],(.seq (.region Q5 [1,2]) (.seq (.seq (.region aed [1,2,4]) (.block 0 (.seq (.region Lm [1,2,4,5]) (.cond (.t 5) (.seq (.region acw [2]) .ret) (.seq (.region Mo [1,2,20]) (.cond (.t 20) (.seq (.region Xp [2]) .ret) .skip)))))) (.seq (.au Wn [] [] [2]) .ret))),true⟩
@[simp] def OP:Ω:=[η 2 0]
@[simp] def UE:Ω:=[μ 6 0,σ 7 (.call 17 [(.c (.str [45])),(.t 6)]),μ 5 7,ε 8 5 0,ε 9 5 1,μ 3 8,μ 4 9]
@[simp] def Xt:Ω:=[μ 10 3,μ 2 10]
def f138:an:=⟨[.t 2],(.seq (.region OP [0]) (.seq (.region UE [3]) (.seq (.region Xt [2]) .ret))),true⟩
@[simp] def adR:Ω:=[σ 4 (.alloc [δ,δ]),η 5 0]
@[simp] def PY:Ω:=[μ 7 0,σ 8 (.call 145 [(.t 7)]),μ 6 8]
@[simp] def ado:Ω:=[μ 9 6,γ 10 .neq 9 0]
@[simp] def XB:Ω:=[σ 11 (.build [δ,δ] []),μ 12 6,ω 2 4 11,μ 5 12]
@[simp] def Yi:Ω:=[μ 13 1,γ 14 .lss 13 0,μ 15 14,Μ 16 1 15 false,τ 17 (.bin .gtr (.t 16) (κ 8190)) 15 false,ζ 18 15 17]
@[simp] def XO:Ω:=[σ 19 (.build [δ,δ] []),ω 2 4 19,η 5 5]
@[simp] def ZX:Ω:=[μ 20 0,μ 21 1,σ 22 (.call 146 [(.t 20),(.t 21)]),ω 2 4 22,η 5 0]
def f139:an:=⟨[.cell 4 2 true,.t 5],(.seq (.region adR [0,1,4]) (.seq (.seq (.region PY [0,1,4,6]) (.seq (.region ado [0,1,4,6,10]) (.cond (.t 10) (.seq (.region XB [4,5]) .ret) .skip))) (.seq (.seq (.region Yi [0,1,4,18]) (.cond (.t 18) (.seq (.region XO [4,5]) .ret) .skip)) (.seq (.region ZX [4,5]) .ret)))),true⟩
@[simp] def WA:Ω:=[σ 1 (.box 2 (.t 0)),σ 2 (.mv (.c (.bool false)))]
@[simp] def LU:Ω:=[φ 3 0 1,ρ 4 3,γ 5 .geq 4 0,μ 6 5,Φ 7 0 1 6 true,Ρ 8 7 6 true,τ 9 (.bin .leq (.t 8) (κ 4095)) 6 true,ξ 10 6 9,μ 11 10,Φ 12 1 1 11 true,Ρ 13 12 11 true,τ 14 (.bin .geq (.t 13) (κ 0)) 11 true,ξ 15 11 14,μ 16 15,Φ 17 1 1 16 true,Ρ 18 17 16 true,τ 19 (.bin .leq (.t 18) (κ 4095)) 16 true,ξ 20 16 19,μ 2 20]
def f140:an:=⟨[.t 2],(.seq (.region WA [1]) (.seq (.region LU [2]) .ret)),true⟩
@[simp] def NH:Ω:=[σ 4 (.mv (.c (.bool false)))]
@[simp] def MM:Ω:=[μ 5 1,μ 6 0,σ 7 (.ak (.t 6)),φ 8 0 7,ρ 9 8,ν 10 .slice 9,β 11 .eql 5 10,μ 12 11,Μ 13 0 12 false,τ 14 (.ak (.t 13)) 12 false,Φ 15 0 14 12 false,Ρ 16 15 12 false,Μ 17 1 12 false,τ 18 (.aJ 8 (.t 16) (.t 17)) 12 false,Φ 19 0 18 12 false,Ρ 20 19 12 false,τ 21 (.bin .eql (.t 20) (κ 3)) 12 false,ζ 22 12 21]
@[simp] def Rq:Ω:=[σ 4 (.mv (.c (.bool true)))]
@[simp] def abq:Ω:=[μ 23 0,σ 24 (.ak (.t 23)),φ 25 0 24,ρ 26 25,μ 27 1,ι 28 8 26 27,φ 29 0 28,ρ 30 29,γ 31 .eql 30 2,μ 32 31,Μ 33 1 32 true,τ 34 (.bin .gtr (.t 33) (κ 0)) 32 true,ξ 35 32 34,μ 36 35,Μ 37 0 36 true,τ 38 (.ak (.t 37)) 36 true,Φ 39 0 38 36 true,Ρ 40 39 36 true,Μ 41 1 36 true,τ 42 (.bin .sub (.t 41) (κ 1)) 36 true,τ 43 (.aJ 8 (.t 40) (.t 42)) 36 true,Φ 44 0 43 36 true,Ρ 45 44 36 true,τ 46 (.bin .neq (.t 45) (κ 2)) 36 true,ξ 47 36 46,μ 4 47]
def f141:an:=⟨[.t 4],(.seq (.region NH [0,1]) (.seq (.seq (.region MM [0,1,22]) (.cond (.t 22) (.seq (.region Rq [4]) .ret) .skip)) (.seq (.region abq [4]) .ret))),false⟩
@[simp] def Vr:Ω:=[η 6 0]
@[simp] def Y9:Ω:=[μ 9 0,σ 10 (.ak (.t 9)),φ 11 0 10,ρ 12 11,μ 13 1,ι 14 8 12 13,φ 15 0 14,ρ 16 15]
@[simp] def P9:Ω:=[γ 18 .eql 16 1,μ 17 18]
@[simp] def QE:Ω:=[γ 19 .eql 16 2,μ 17 19]
@[simp] def TF:Ω:=[μ 20 2,μ 21 0,σ 22 (.ak (.t 21)),φ 23 0 22,ρ 24 23,μ 25 1,ι 26 8 24 25,φ 27 3 26,ρ 28 27,β 29 .add 20 28,μ 6 29]
@[simp] def QV:Ω:=[γ 31 .eql 16 4,μ 30 31]
@[simp] def abu:Ω:=[μ 33 0,σ 34 (.ak (.t 33)),φ 35 0 34,ρ 36 35,μ 37 1,μ 38 1,γ 39 .add 38 1,σ 40 (.slice false 8 (.t 36) (some (.t 37)) (some (.t 39)) none),μ 41 2,σ 42 (.min [(.t 41),(κ 4095)]),σ 43 (.call 110 [(.t 40),(κ 0),(κ 1),(.t 42)]),μ 32 43,ε 44 32 0,ε 45 32 1,μ 7 44,μ 8 45]
@[simp] def acG:Ω:=[μ 46 2,γ 47 .gtr 46 4095]
@[simp] def VY:Ω:=[μ 48 2,γ 49 .quo 48 48,γ 50 .add 49 1,γ 51 .mul 50 48,μ 6 51]
@[simp] def XF:Ω:=[μ 52 2,μ 53 7,β 54 .add 52 53,μ 6 54]
@[simp] def He:Ω:=[μ 55 2,μ 6 55]
def f142:an:=⟨[.t 6],(.seq (.region Vr [0,1,2]) (.seq (.seq (.region Y9 [0,1,2,16]) (.block 0 (.seq (.seq (.region P9 [0,1,2,16,17]) (.cond (.t 17) .skip (.region QE [0,1,2,16,17]))) (.cond (.t 17) (.seq (.region TF [6]) .ret) (.seq (.region QV [0,1,2,30]) (.cond (.t 30) (.seq (.region abu [2,7]) (.seq (.seq (.region acG [2,7,47]) (.cond (.t 47) (.seq (.region VY [6]) .ret) .skip)) (.seq (.region XF [6]) .ret))) .skip)))))) (.seq (.region He [6]) .ret))),false⟩
@[simp] def Mg:Ω:=[σ 0 (.mv (.c .bp))]
@[simp] def abN:Ω:=[σ 4 (.call 148 [(.c (.str [49,116,97,32,49,116,101,32,49,116,105,32,49,116,111,32,49,110,97,32,49,110,101,32,49,110,105,32,49,108,97,32,49,108,101,32,49,108,105,32,49,114,97,32,49,114,101,32,49,109,97,32,49,109,101,32,49,112,97,32,49,112,101,32,49,99,97,32,49,99,111,32,49,100,101,32,49,115,97,32,49,103,101,32,49,98,108,32,116,50,116,101,32,108,50,108,101,32,110,50,110,101,32,114,50,114,101,32,50,98,108,101,46,32,52,108,101,46,32,46,114,101,51,97,32,49,112,104,101]))]),σ 5 (.lit 1 false [(.str [])] 3 [(0,(.c (.str [116,97,45,98,108,101]))),(1,(.c (.str [112,114,111,45,106,101,99,116]))),(2,(.c (.str [104,121,45,112,104,101,110,45,97,45,116,105,111,110])))]),σ 6 (.call 147 [(.t 4),(.t 5)]),μ 3 6,ε 7 3 0,ε 8 3 1,μ 1 7,μ 2 8]
@[simp] def Pk:Ω:=[μ 9 1,μ 0 9]
def f143:an:=⟨[.t 0],(.seq (.region Mg []) (.seq (.region abN [1]) (.seq (.region Pk [0]) .ret))),false⟩
@[simp] def W4:Ω:=[σ 4 (.mv (.c θ)),η 5 0]
@[simp] def Mi:Ω:=[μ 13 0,σ 14 (.eq .ptr false (.t 13) (.c .bp)),μ 15 14,Μ 16 0 15 false,τ 17 (.ak (.t 16)) 15 false,Φ 18 0 17 15 false,Ρ 19 18 15 false,τ 20 (.eq .ptr false (.t 19) (.c .bp)) 15 false,ζ 21 15 20]
@[simp] def ME:Ω:=[σ 4 (.mv (.c θ)),η 5 1]
@[simp] def ads:Ω:=[μ 23 1,σ 24 (.call 149 [(.t 23)]),μ 22 24,ε 25 22 0,ε 26 22 1,μ 6 25,μ 7 26]
@[simp] def Zx:Ω:=[μ 27 7,σ 28 (.un .not (.t 27))]
@[simp] def aak:Ω:=[σ 4 (.mv (.c θ)),η 5 4]
@[simp] def U4:Ω:=[μ 30 0,σ 31 (.ak (.t 30)),φ 32 1 31,ρ 33 32,μ 34 6,σ 35 (.lookup [.str] θ (.t 33) (.t 34) true),μ 29 35,ε 36 29 0,ε 37 29 1,μ 8 36,μ 9 37]
@[simp] def U7:Ω:=[μ 38 9]
@[simp] def T8:Ω:=[μ 39 8,σ 40 (.call 150 [(.t 39)]),μ 4 40,η 5 0]
@[simp] def Uk:Ω:=[μ 41 6,ν 42 .str 41,γ 43 .add 42 3,σ 44 (.bG 1 false 1 [(.int .u8 (.ofNat 0))] (.t 43) (.t 43)),μ 10 44]
@[simp] def HD:Ω:=[μ 45 0,μ 46 6,σ 47 (.bin .add (.c (.str [46])) (.t 46)),σ 48 (.bin .add (.t 47) (.c (.str [46]))),μ 49 10,σ 50 (.fF 152 [(.t 49)] []),σ 51 (.call 151 [(.t 45),(.t 48),(.t 50)])]
@[simp] def Ic:Ω:=[σ 11 (.mv (.c θ))]
@[simp] def IK:Ω:=[η 12 2]
@[simp] def Jx:Ω:=[μ 52 12,μ 53 6,ν 54 .str 53,γ 55 .sub 54 3,β 56 .leq 52 55]
@[simp] def Fj:Ω:=[μ 59 10,μ 60 12,γ 61 .add 60 1,ι 62 1 59 61,ρ 63 62,σ 64 (.bin .rem (.t 63) (.c (.int .u8 (.ofNat 2)))),σ 65 (.bin .eql (.t 64) (.c (.int .u8 (.ofNat 1))))]
@[simp] def Ji:Ω:=[μ 66 11,μ 67 12,σ 68 (.lit 1 false [δ] 1 [(0,(.t 67))]),σ 69 (.append 1 false 8 (.t 66) (.t 68)),μ 11 69]
@[simp] def DC:Ω:=[μ 57 12,γ 58 .add 57 1,μ 12 58]
def sw:RC:=(.seq (.seq (.region Jx [6,10,11,12,56]) (.cond (.t 56) .skip (.exit 0))) (.seq (.block 1 (.seq (.region Fj [6,10,11,12,65]) (.cond (.t 65) (.region Ji [6,10,11,12]) .skip))) (.region DC [6,10,11,12])))
def oD:RC:=.loop [6,10,11,12] sw
@[simp] def DQ:Ω:=[μ 70 11,μ 4 70,η 5 0]
def f144:an:=⟨[.t 4,.t 5],(.seq (.region W4 [0,1]) (.seq (.seq (.region Mi [0,1,21]) (.cond (.t 21) (.seq (.region ME [4,5]) .ret) .skip)) (.seq (.region ads [0,6,7]) (.seq (.seq (.region Zx [0,6,28]) (.cond (.t 28) (.seq (.region aak [4,5]) .ret) .skip)) (.seq (.seq (.region U4 [0,6,8,9]) (.seq (.region U7 [0,6,8,38]) (.cond (.t 38) (.seq (.region T8 [4,5]) .ret) .skip))) (.seq (.region Uk [0,6,10]) (.seq (.region HD [6,10]) (.seq (.region Ic [6,10,11]) (.seq (.seq (.region IK [6,10,11,12]) (.block 0 oD)) (.seq (.region DQ [4,5]) .ret)))))))))),false⟩
@[simp] def abl:Ω:=[η 2 0]
@[simp] def RR:Ω:=[μ 6 0,ν 7 .slice 6,γ 8 .gtr 7 16]
@[simp] def Tg:Ω:=[η 2 2]
@[simp] def YS:Ω:=[η 3 0]
@[simp] def aeg:Ω:=[μ 9 0,ν 10 .slice 9,η 11 0]
@[simp] def Oq:Ω:=[β 12 .lss 11 10]
@[simp] def acp:Ω:=[ι 13 2 9 11,Λ 14 2 13,σ 5 (.alloc [δ,δ]),ω 2 5 14]
@[simp] def V9:Ω:=[φ 15 0 5,ρ 16 15,μ 17 3,β 18 .leq 16 17,μ 19 18,Φ 20 0 5 19 false,Ρ 21 20 19 false,τ 22 (.bin .gtr (.t 21) (κ 4095)) 19 false,ζ 23 19 22,μ 24 23,Φ 25 1 5 24 false,Ρ 26 25 24 false,τ 27 (.bin .neq (.t 26) (κ 0)) 24 false,Μ 28 27 24 false,Φ 29 1 5 28 true,Ρ 30 29 28 true,τ 31 (.bin .neq (.t 30) (κ 2)) 28 true,τ 32 (.pick (.t 28) (.t 31) (.c (.bool false))) 24 false,Μ 33 32 24 false,Φ 34 1 5 33 true,Ρ 35 34 33 true,τ 36 (.bin .neq (.t 35) (κ 3)) 33 true,τ 37 (.pick (.t 33) (.t 36) (.c (.bool false))) 24 false,ζ 38 24 37]
@[simp] def YC:Ω:=[η 2 2]
@[simp] def aa9:Ω:=[φ 39 0 5,ρ 40 39,μ 3 40]
@[simp] def Fg:Ω:=[γ 41 .add 11 1,μ 11 41]
def Bd:RC:=(.seq (.region Oq [3,9,10,11,12]) (.seq (.cond (.t 12) .skip (.exit 0)) (.seq (.block 1 (.seq (.region acp [3,5,9,10,11]) (.seq (.seq (.region V9 [5,9,10,11,38]) (.cond (.t 38) (.seq (.region YC [2]) .ret) .skip)) (.region aa9 [3,9,10,11])))) (.region Fg [3,9,10,11]))))
def wN:RC:=.loop [3,9,10,11] Bd
@[simp] def DS:Ω:=[η 2 0]
def f145:an:=⟨[.t 2],(.seq (.region abl [0]) (.seq (.seq (.region RR [0,8]) (.cond (.t 8) (.seq (.region Tg [2]) .ret) .skip)) (.seq (.region YS [0,3]) (.seq (.seq (.region aeg [3,9,10,11]) (.block 0 wN)) (.seq (.region DS [2]) .ret))))),true⟩
@[simp] def Qr:Ω:=[σ 4 (.alloc [δ,δ])]
@[simp] def Ru:Ω:=[μ 8 0,μ 9 1,γ 10 .add 9 1,σ 11 (.call 153 [(.t 8),(.t 10),(.f 154)]),μ 7 11,ε 12 7 0,ε 13 7 1,μ 5 12,μ 6 13]
@[simp] def PG:Ω:=[μ 14 5,μ 15 0,ν 16 .slice 15,β 17 .lss 14 16]
@[simp] def RP:Ω:=[μ 18 0,μ 19 5,ι 20 2 18 19,Λ 21 2 20,ω 2 4 21]
@[simp] def N1:Ω:=[μ 22 1,γ 23 .quo 22 48,γ 24 .add 23 1,γ 25 .mul 24 48,σ 26 (.build [δ,δ] [(0,1,(.t 25))]),ω 2 4 26]
def f146:an:=⟨[.cell 4 2 true],(.seq (.region Qr [0,1,4]) (.seq (.region Ru [0,1,4,5]) (.seq (.seq (.region PG [0,1,4,5,17]) (.cond (.t 17) (.seq (.region RP [4]) .ret) .skip)) (.seq (.region N1 [4]) .ret)))),true⟩
@[simp] def Mz:Ω:=[σ 4 (.mv (.c .bp)),η 5 0]
@[simp] def Vi:Ω:=[μ 20 0,ν 21 .slice 20,γ 22 .gtr 21 256,μ 23 22,Μ 24 1 23 false,τ 25 (.len .slice (.t 24)) 23 false,τ 26 (.bin .gtr (.t 25) (κ 64)) 23 false,ζ 27 23 26]
@[simp] def NB:Ω:=[σ 4 (.mv (.c .bp)),η 5 3]
@[simp] def MA:Ω:=[σ 28 (.build [.aD,θ] []),σ 29 (.box 2 (.t 28)),σ 30 .gh,σ 31 (.build [.bp,.aD] [(0,1,(.t 29)),(1,1,(.t 30))]),σ 32 (.box 2 (.t 31)),μ 6 32]
@[simp] def Yj:Ω:=[μ 33 0,ν 34 .slice 33,η 35 0]
@[simp] def MG:Ω:=[β 36 .lss 35 34]
@[simp] def Nb:Ω:=[ι 37 1 33 35,ρ 38 37,μ 8 38]
@[simp] def Qz:Ω:=[μ 40 8,σ 41 (.call 156 [(.t 40)]),μ 39 41,ε 42 39 0,ε 43 39 1,ε 44 39 2,μ 9 42,μ 10 43,μ 11 44]
@[simp] def Ob:Ω:=[μ 45 11,σ 46 (.un .not (.t 45))]
@[simp] def V7:Ω:=[σ 4 (.mv (.c .bp)),η 5 4]
@[simp] def GR:Ω:=[μ 47 6,σ 48 (.ak (.t 47)),φ 49 0 48,ρ 50 49,μ 51 9,μ 52 10,σ 53 (.call 157 [(.t 50),(.t 51),(.t 52)])]
@[simp] def F0:Ω:=[γ 54 .add 35 1,μ 35 54]
def sg:RC:=(.seq (.region MG [1,6,33,34,35,36]) (.seq (.cond (.t 36) .skip (.exit 0)) (.seq (.block 1 (.seq (.region Nb [1,6,8,33,34,35]) (.seq (.region Qz [1,6,9,10,11,33,34,35]) (.seq (.seq (.region Ob [1,6,9,10,33,34,35,46]) (.cond (.t 46) (.seq (.region V7 [4,5]) .ret) .skip)) (.region GR [1,6,33,34,35]))))) (.region F0 [1,6,33,34,35]))))
def oS:RC:=.loop [1,6,33,34,35] sg
@[simp] def Ds:Ω:=[σ 12 (.mv (.c (.bool false)))]
@[simp] def FR:Ω:=[μ 55 1,ν 56 .slice 55,η 57 0]
@[simp] def D3:Ω:=[β 58 .lss 57 56]
@[simp] def Fv:Ω:=[ι 59 1 55 57,ρ 60 59,μ 14 60]
@[simp] def Jq:Ω:=[μ 62 14,σ 63 (.call 158 [(.t 62)]),μ 61 63,ε 64 61 0,ε 65 61 1,ε 66 61 2,μ 15 64,μ 16 65,μ 17 66]
@[simp] def Jz:Ω:=[μ 67 17,σ 68 (.un .not (.t 67))]
@[simp] def Jg:Ω:=[σ 4 (.mv (.c .bp)),η 5 4]
@[simp] def Jy:Ω:=[μ 70 6,σ 71 (.ak (.t 70)),φ 72 1 71,ρ 73 72,μ 74 15,σ 75 (.lookup [.str] θ (.t 73) (.t 74) true),μ 69 75,ε 76 69 0,ε 77 69 1,μ 18 76,μ 19 77]
@[simp] def Jc:Ω:=[μ 78 12,μ 79 78,Μ 80 19 79 false,ζ 81 79 80,μ 12 81]
@[simp] def Kn:Ω:=[μ 82 6,σ 83 (.ak (.t 82)),φ 84 1 83,ρ 85 84,μ 86 15,μ 87 16,⟨none,.eD [.str] (.t 85) (.t 86) (.t 87),none⟩]
@[simp] def J0:Ω:=[γ 88 .add 57 1,μ 57 88]
def oQ:RC:=(.seq (.region D3 [6,12,55,56,57,58]) (.seq (.cond (.t 58) .skip (.exit 2)) (.seq (.block 3 (.seq (.region Fv [6,12,14,55,56,57]) (.seq (.region Jq [6,12,15,16,17,55,56,57]) (.seq (.seq (.region Jz [6,12,15,16,55,56,57,68]) (.cond (.t 68) (.seq (.region Jg [4,5]) .ret) .skip)) (.seq (.region Jy [6,12,15,16,19,55,56,57]) (.seq (.region Jc [6,12,15,16,55,56,57]) (.region Kn [6,12,55,56,57]))))))) (.region J0 [6,12,55,56,57]))))
def nk:RC:=.loop [6,12,55,56,57] oQ
@[simp] def Eu:Ω:=[μ 89 12]
@[simp] def D8:Ω:=[σ 4 (.mv (.c .bp)),η 5 7]
@[simp] def Fz:Ω:=[μ 90 6,μ 4 90,η 5 0]
def f147:an:=⟨[.t 4,.t 5],(.seq (.region Mz [0,1]) (.seq (.seq (.region Vi [0,1,27]) (.cond (.t 27) (.seq (.region NB [4,5]) .ret) .skip)) (.seq (.region MA [0,1,6]) (.seq (.seq (.region Yj [1,6,33,34,35]) (.block 0 oS)) (.seq (.region Ds [1,6,12]) (.seq (.seq (.region FR [6,12,55,56,57]) (.block 2 nk)) (.seq (.seq (.region Eu [6,89]) (.cond (.t 89) (.seq (.region D8 [4,5]) .ret) .skip)) (.seq (.region Fz [4,5]) .ret)))))))),false⟩
@[simp] def LZ:Ω:=[σ 2 (.mv (.c θ))]
@[simp] def Pd:Ω:=[η 3 0]
@[simp] def Mc:Ω:=[η 4 1]
@[simp] def Oe:Ω:=[σ 5 (.mv (.c (.int .u8 (.ofNat 0))))]
@[simp] def Zm:Ω:=[η 6 0]
@[simp] def acK:Ω:=[μ 13 6,μ 14 0,ν 15 .str 14,β 16 .lss 13 15]
@[simp] def aa4:Ω:=[μ 19 0,μ 20 6,σ 21 (.index (.t 19) (.t 20)),μ 7 21]
@[simp] def WL:Ω:=[μ 22 5,μ 23 7,β 24 .or 22 23,μ 5 24]
@[simp] def OR:Ω:=[μ 25 7,σ 26 (.ft 1 256 (.c gy) (.t 25)),ρ 27 26,σ 28 (.i2i .i64 (.t 27)),μ 8 28]
@[simp] def Lz:Ω:=[μ 29 3,μ 30 4,μ 31 8,σ 32 (.un .xor (.t 31)),β 33 .and 30 32,β 34 .add 29 33,μ 3 34]
@[simp] def Is:Ω:=[μ 35 8,μ 4 35]
@[simp] def JL:Ω:=[μ 17 6,γ 18 .add 17 1,μ 6 18]
def Wq:RC:=(.seq (.seq (.region acK [0,3,4,5,6,16]) (.cond (.t 16) .skip (.exit 0))) (.seq (.block 1 (.seq (.region aa4 [0,3,4,5,6,7]) (.seq (.region WL [0,3,4,5,6,7]) (.seq (.region OR [0,3,4,5,6,8]) (.seq (.region Lz [0,3,5,6,8]) (.region Is [0,3,4,5,6])))))) (.region JL [0,3,4,5,6])))
def Yl:RC:=.loop [0,3,4,5,6] Wq
@[simp] def F6:Ω:=[μ 36 5,σ 37 (.bin .geq (.t 36) (.c (.int .u8 (.ofNat 128))))]
@[simp] def GU:Ω:=[μ 38 0,σ 39 (.call 159 [(.t 38),(.f 160)]),μ 2 39]
@[simp] def FW:Ω:=[μ 40 3,σ 41 (.bG 1 false 16 [(.str [])] (.t 40) (.t 40)),μ 9 41]
@[simp] def Jd:Ω:=[η 10 0]
@[simp] def JT:Ω:=[η 11 0]
@[simp] def JA:Ω:=[η 12 0]
@[simp] def JZ:Ω:=[μ 42 12,μ 43 0,ν 44 .str 43,β 45 .lss 42 44,μ 46 45,Μ 47 0 46 true,Μ 48 12 46 true,τ 49 (.index (.t 47) (.t 48)) 46 true,τ 50 (.ft 1 256 (.c gy) (.t 49)) 46 true,Ρ 51 50 46 true,τ 52 (.bin .neq (.t 51) (.c (.int .u8 (.ofNat 0)))) 46 true,ξ 53 46 52]
@[simp] def JY:Ω:=[μ 54 12,γ 55 .add 54 1,μ 12 55]
def Nl:RC:=(.seq (.seq (.region JZ [0,9,10,12,53]) (.cond (.t 53) .skip (.exit 2))) (.block 3 (.region JY [0,9,10,12])))
def Xy:RC:=.loop [0,9,10,12] Nl
@[simp] def E7:Ω:=[μ 56 12,μ 11 56]
@[simp] def Gu:Ω:=[μ 57 12,μ 58 0,ν 59 .str 58,β 60 .lss 57 59]
@[simp] def En:Ω:=[μ 61 0,μ 62 12,σ 63 (.index (.t 61) (.t 62)),σ 64 (.ft 1 256 (.c gy) (.t 63)),ρ 65 64,σ 66 (.bin .eql (.t 65) (.c (.int .u8 (.ofNat 0))))]
@[simp] def IU:Ω:=[μ 67 12,γ 68 .add 67 1,μ 12 68]
@[simp] def Hr:Ω:=[μ 69 9,μ 70 10,μ 71 0,μ 72 11,μ 73 12,σ 74 (.slice true 1 (.t 71) (some (.t 72)) (some (.t 73)) none),ι 75 1 69 70,ω 1 75 74]
@[simp] def El:Ω:=[μ 76 10,γ 77 .add 76 1,μ 10 77]
@[simp] def Fc:Ω:=[μ 78 12,γ 79 .add 78 1,μ 12 79]
@[simp] def GA:Ω:=[μ 80 12,μ 81 0,ν 82 .str 81,β 83 .lss 80 82,μ 84 83,Μ 85 0 84 true,Μ 86 12 84 true,τ 87 (.index (.t 85) (.t 86)) 84 true,τ 88 (.ft 1 256 (.c gy) (.t 87)) 84 true,Ρ 89 88 84 true,τ 90 (.bin .neq (.t 89) (.c (.int .u8 (.ofNat 0)))) 84 true,ξ 91 84 90]
@[simp] def E1:Ω:=[μ 92 12,γ 93 .add 92 1,μ 12 93]
def OG:RC:=(.seq (.seq (.region GA [0,9,10,12,91]) (.cond (.t 91) .skip (.exit 6))) (.block 7 (.region E1 [0,9,10,12])))
def Z7:RC:=.loop [0,9,10,12] OG
@[simp] def Hp:Ω:=[μ 94 12,μ 11 94]
def ZG:RC:=(.seq (.seq (.region Gu [0,9,10,11,12,60]) (.cond (.t 60) .skip (.exit 4))) (.block 5 (.seq (.seq (.region En [0,9,10,11,12,66]) (.cond (.t 66) (.seq (.region IU [0,9,10,11,12]) (.exit 5)) .skip)) (.seq (.region Hr [0,9,10,12]) (.seq (.region El [0,9,10,12]) (.seq (.region Fc [0,9,10,12]) (.seq (.block 6 Z7) (.region Hp [0,9,10,11,12]))))))))
def Me:RC:=.loop [0,9,10,11,12] ZG
@[simp] def E9:Ω:=[μ 95 11,μ 96 0,ν 97 .str 96,β 98 .lss 95 97]
@[simp] def JQ:Ω:=[μ 99 9,μ 100 10,μ 101 0,μ 102 11,σ 103 (.slice true 1 (.t 101) (some (.t 102)) none none),ι 104 1 99 100,ω 1 104 103]
@[simp] def Ib:Ω:=[μ 105 9,μ 2 105]
def f148:an:=⟨[.t 2],(.seq (.region LZ [0]) (.seq (.region Pd [0,3]) (.seq (.region Mc [0,3,4]) (.seq (.region Oe [0,3,4,5]) (.seq (.seq (.region Zm [0,3,4,5,6]) (.block 0 Yl)) (.seq (.seq (.region F6 [0,3,37]) (.cond (.t 37) (.seq (.region GU [2]) .ret) .skip)) (.seq (.region FW [0,9]) (.seq (.region Jd [0,9,10]) (.seq (.region JT [0,9,10]) (.seq (.region JA [0,9,10,12]) (.seq (.block 2 Xy) (.seq (.region E7 [0,9,10,11,12]) (.seq (.block 4 Me) (.seq (.seq (.region E9 [0,9,10,11,98]) (.cond (.t 98) (.region JQ [9]) .skip)) (.seq (.region Ib [2]) .ret))))))))))))))),true⟩
@[simp] def YD:Ω:=[σ 2 (.mv (.c (.str []))),σ 3 (.mv (.c (.bool false)))]
@[simp] def Rg:Ω:=[μ 7 0,ν 8 .str 7,γ 9 .lss 8 1,μ 10 9,Μ 11 0 10 false,τ 12 (.len .str (.t 11)) 10 false,τ 13 (.bin .gtr (.t 12) (κ 64)) 10 false,ζ 14 10 13]
@[simp] def Wf:Ω:=[σ 2 (.mv (.c (.str []))),σ 3 (.mv (.c (.bool false)))]
@[simp] def ada:Ω:=[μ 15 0,σ 16 (.s2h (.t 15)),μ 4 16]
@[simp] def U1:Ω:=[μ 17 4,ν 18 .slice 17,η 19 0]
@[simp] def abU:Ω:=[β 20 .lss 19 18]
@[simp] def aeb:Ω:=[μ 21 19,ι 22 1 17 19,ρ 23 22,μ 5 21,μ 6 23]
@[simp] def aaz:Ω:=[μ 24 6,σ 25 (.bin .geq (.t 24) (.c (.int .u8 (.ofNat 65)))),μ 26 25,Μ 27 6 26 true,τ 28 (.bin .leq (.t 27) (.c (.int .u8 (.ofNat 90)))) 26 true,ξ 29 26 28]
@[simp] def Qk:Ω:=[μ 30 4,μ 31 5,μ 32 6,σ 33 (.bin .add (.t 32) (.c (.int .u8 (.ofNat 97)))),σ 34 (.bin .sub (.t 33) (.c (.int .u8 (.ofNat 65)))),ι 35 1 30 31,ω 1 35 34]
@[simp] def aaD:Ω:=[μ 36 4,μ 37 5,ι 38 1 36 37,ρ 39 38,σ 40 (.call 161 [(.t 39)]),σ 41 (.un .not (.t 40))]
@[simp] def IZ:Ω:=[σ 2 (.mv (.c (.str []))),σ 3 (.mv (.c (.bool false)))]
@[simp] def J7:Ω:=[γ 42 .add 19 1,μ 19 42]
def jd:RC:=(.seq (.region abU [4,17,18,19,20]) (.seq (.cond (.t 20) .skip (.exit 0)) (.seq (.block 1 (.seq (.region aeb [4,5,6,17,18,19]) (.seq (.seq (.region aaz [4,5,6,17,18,19,29]) (.cond (.t 29) (.region Qk [4,5,17,18,19]) .skip)) (.seq (.region aaD [4,17,18,19,41]) (.cond (.t 41) (.seq (.region IZ [2,3]) .ret) .skip))))) (.region J7 [4,17,18,19]))))
def gT:RC:=.loop [4,17,18,19] jd
@[simp] def Hk:Ω:=[μ 43 4,σ 44 (.b2s (.t 43)),μ 2 44,σ 3 (.mv (.c (.bool true)))]
def f149:an:=⟨[.t 2,.t 3],(.seq (.region YD [0]) (.seq (.seq (.region Rg [0,14]) (.cond (.t 14) (.seq (.region Wf [2,3]) .ret) .skip)) (.seq (.region ada [4]) (.seq (.seq (.region U1 [4,17,18,19]) (.block 0 gT)) (.seq (.region Hk [2,3]) .ret))))),true⟩
@[simp] def Nv:Ω:=[σ 2 (.mv (.c θ))]
@[simp] def WK:Ω:=[μ 3 0,σ 4 (.eq .slice false (.t 3) (.c θ))]
@[simp] def Lt:Ω:=[σ 2 (.mv (.c θ))]
@[simp] def TD:Ω:=[σ 5 (.lit 1 false [δ] 0 []),μ 6 0,σ 7 (.append 1 false 8 (.t 5) (.t 6)),μ 2 7]
def f150:an:=⟨[.t 2],(.seq (.region Nv [0]) (.seq (.seq (.region WK [0,4]) (.cond (.t 4) (.seq (.region Lt [2]) .ret) .skip)) (.seq (.region TD [2]) .ret))),true⟩
@[simp] def Vu:Ω:=[μ 10 1,ν 11 .str 10,η 12 0]
@[simp] def aa3:Ω:=[β 13 .lss 12 11]
@[simp] def Yk:Ω:=[μ 14 12,μ 6 14]
@[simp] def ace:Ω:=[μ 15 0,σ 16 (.ak (.t 15)),φ 17 0 16,ρ 18 17,μ 7 18]
@[simp] def Rr:Ω:=[μ 19 1,μ 20 6,σ 21 (.slice true 1 (.t 19) (some (.t 20)) none none),σ 22 (.s2b (.t 21)),ν 23 .slice 22,η 24 0]
@[simp] def Sz:Ω:=[β 25 .lss 24 23]
@[simp] def acx:Ω:=[ι 26 1 22 24,ρ 27 26,μ 9 27]
@[simp] def RJ:Ω:=[μ 28 7,σ 29 (.ak (.t 28)),φ 30 0 29,ρ 31 30,μ 32 9,σ 33 (.lookup [.int] .bp (.t 31) (.t 32) false),μ 7 33]
@[simp] def Wo:Ω:=[μ 34 7,σ 35 (.eq .ptr false (.t 34) (.c .bp))]
@[simp] def Mf:Ω:=[μ 36 7,σ 37 (.ak (.t 36)),φ 38 1 37,ρ 39 38,σ 40 (.eq .slice true (.t 39) (.c θ))]
@[simp] def Ey:Ω:=[μ 41 2,μ 42 6,μ 43 7,σ 44 (.ak (.t 43)),φ 45 1 44,ρ 46 45,σ 47 (.br (.t 41) [(.t 42),(.t 46)])]
@[simp] def IF:Ω:=[γ 48 .add 24 1,μ 24 48]
def pX:RC:=(.seq (.region Sz [0,1,2,6,7,11,12,22,23,24,25]) (.seq (.cond (.t 25) .skip (.exit 2)) (.seq (.block 3 (.seq (.region acx [0,1,2,6,7,9,11,12,22,23,24]) (.seq (.region RJ [0,1,2,6,7,11,12,22,23,24]) (.seq (.seq (.region Wo [0,1,2,6,7,11,12,22,23,24,35]) (.cond (.t 35) (.exit 2) .skip)) (.seq (.region Mf [0,1,2,6,7,11,12,22,23,24,40]) (.cond (.t 40) (.region Ey [0,1,2,6,7,11,12,22,23,24]) .skip)))))) (.region IF [0,1,2,6,7,11,12,22,23,24]))))
def m8:RC:=.loop [0,1,2,6,7,11,12,22,23,24] pX
@[simp] def DE:Ω:=[γ 49 .add 12 1,μ 12 49]
def xb:RC:=(.seq (.region aa3 [0,1,2,11,12,13]) (.seq (.cond (.t 13) .skip (.exit 0)) (.seq (.block 1 (.seq (.region Yk [0,1,2,6,11,12]) (.seq (.region ace [0,1,2,6,7,11,12]) (.seq (.region Rr [0,1,2,6,7,11,12,22,23,24]) (.block 2 m8))))) (.region DE [0,1,2,11,12]))))
def sA:RC:=.loop [0,1,2,11,12] xb
def f151:an:=⟨[],(.seq (.region Vu [0,1,2,11,12]) (.block 0 sA)),false⟩
@[simp] def Vm:Ω:=[μ 8 2,ν 9 .slice 8,η 10 0]
@[simp] def abw:Ω:=[β 11 .lss 10 9]
@[simp] def U5:Ω:=[μ 12 10,ι 13 1 8 10,ρ 14 13,μ 6 12,μ 7 14]
@[simp] def aei:Ω:=[μ 15 0,μ 16 1,μ 17 6,β 18 .add 16 17,μ 19 0,μ 20 1,μ 21 6,β 22 .add 20 21,ι 23 1 19 22,ρ 24 23,μ 25 7,σ 26 (.max [(.t 24),(.t 25)]),ι 27 1 15 18,ω 1 27 26]
@[simp] def Ue:Ω:=[γ 28 .add 10 1,μ 10 28]
def wj:RC:=(.seq (.region abw [0,1,8,9,10,11]) (.seq (.cond (.t 11) .skip (.exit 0)) (.seq (.block 1 (.seq (.region U5 [0,1,6,7,8,9,10]) (.region aei [0,1,8,9,10]))) (.region Ue [0,1,8,9,10]))))
def sd:RC:=.loop [0,1,8,9,10] wj
def f152:an:=⟨[],(.seq (.region Vm [0,1,8,9,10]) (.block 0 sd)),false⟩
@[simp] def Ta:Ω:=[η 6 0,σ 7 (.mv (.c (.bool false)))]
@[simp] def XJ:Ω:=[μ 12 0,ν 13 .slice 12,μ 8 13]
@[simp] def ZU:Ω:=[μ 14 8,η 9 0,μ 10 14]
@[simp] def acY:Ω:=[μ 15 9,μ 16 10,β 17 .lss 15 16]
@[simp] def Yy:Ω:=[μ 18 9,μ 19 10,β 20 .add 18 19,σ 21 (.i2i .u64 (.t 20)),σ 22 (.bin .shr (.t 21) (.c (.int .u64 (.ofNat 1)))),σ 23 (.i2i .i64 (.t 22)),μ 11 23]
@[simp] def Sm:Ω:=[μ 24 2,μ 25 0,μ 26 11,ι 27 2 25 26,Λ 28 2 27,μ 29 1,σ 30 (.br (.t 24) [(.t 28),(.t 29)]),γ 31 .lss 30 0]
@[simp] def MJ:Ω:=[μ 32 11,γ 33 .add 32 1,μ 9 33]
@[simp] def Tm:Ω:=[μ 34 11,μ 10 34]
def CE:RC:=(.seq (.seq (.region acY [0,1,2,8,9,10,17]) (.cond (.t 17) .skip (.exit 0))) (.block 1 (.seq (.region Yy [0,1,2,8,9,10,11]) (.seq (.region Sm [0,1,2,8,9,10,11,31]) (.cond (.t 31) (.region MJ [0,1,2,8,9,10]) (.region Tm [0,1,2,8,9,10]))))))
def xX:RC:=.loop [0,1,2,8,9,10] CE
@[simp] def Sd:Ω:=[μ 35 9,μ 36 9,μ 37 8,β 38 .lss 36 37,μ 39 38,Μ 40 2 39 true,Μ 41 0 39 true,Μ 42 9 39 true,τ 43 (.aJ 2 (.t 41) (.t 42)) 39 true,τ 44 (.load 2 true (.t 43)) 39 true,Μ 45 1 39 true,τ 46 (.br (.t 40) [(.t 44),(.t 45)]) 39 true,τ 47 (.bin .eql (.t 46) (κ 0)) 39 true,ξ 48 39 47,μ 6 35,μ 7 48]
def f153:an:=⟨[.t 6,.t 7],(.seq (.region Ta [0,1,2]) (.seq (.region XJ [0,1,2,8]) (.seq (.region ZU [0,1,2,8,9,10]) (.seq (.block 0 xX) (.seq (.region Sd [6,7]) .ret))))),false⟩
@[simp] def acQ:Ω:=[σ 2 (.box 2 (.t 0)),η 4 0]
@[simp] def acJ:Ω:=[φ 5 0 2,ρ 6 5,μ 7 1,σ 8 (.call 155 [(.t 6),(.t 7)]),μ 4 8]
def f154:an:=⟨[.t 4],(.seq (.region acQ [1,2]) (.seq (.region acJ [4]) .ret)),true⟩
@[simp] def Tx:Ω:=[η 4 0]
@[simp] def Pz:Ω:=[μ 7 0,σ 8 (.call 162 [(.t 7)]),μ 5 8]
@[simp] def Pl:Ω:=[μ 9 1,σ 10 (.call 162 [(.t 9)]),μ 6 10]
@[simp] def Wh:Ω:=[μ 11 5]
@[simp] def MH:Ω:=[μ 12 6]
@[simp] def YN:Ω:=[η 4 0]
@[simp] def ade:Ω:=[σ 4 (.mv (.c (.int .i64 (.negSucc 0))))]
@[simp] def L5:Ω:=[μ 13 6]
@[simp] def VG:Ω:=[η 4 1]
@[simp] def V1:Ω:=[μ 14 0,μ 15 1,β 16 .lss 14 15]
@[simp] def JW:Ω:=[σ 4 (.mv (.c (.int .i64 (.negSucc 0))))]
@[simp] def Jw:Ω:=[μ 17 0,μ 18 1,β 19 .gtr 17 18]
@[simp] def J8:Ω:=[η 4 1]
@[simp] def JR:Ω:=[η 4 0]
def f155:an:=⟨[.t 4],(.seq (.region Tx [0,1]) (.seq (.region Pz [0,1,5]) (.seq (.region Pl [0,1,5,6]) (.seq (.seq (.region Wh [0,1,6,11]) (.cond (.t 11) (.seq (.seq (.region MH [12]) (.cond (.t 12) (.seq (.region YN [4]) .ret) .skip)) (.seq (.region ade [4]) .ret)) .skip)) (.seq (.seq (.region L5 [0,1,13]) (.cond (.t 13) (.seq (.region VG [4]) .ret) .skip)) (.seq (.seq (.region V1 [0,1,16]) (.cond (.t 16) (.seq (.region JW [4]) .ret) .skip)) (.seq (.seq (.region Jw [19]) (.cond (.t 19) (.seq (.region J8 [4]) .ret) .skip)) (.seq (.region JR [4]) .ret)))))))),true⟩
@[simp] def Xs:Ω:=[σ 2 (.mv (.c (.str []))),σ 3 (.mv (.c θ)),σ 4 (.mv (.c (.bool false)))]
@[simp] def LM:Ω:=[μ 11 0,ν 12 .str 11,γ 13 .lss 12 1,μ 14 13,Μ 15 0 14 false,τ 16 (.len .str (.t 15)) 14 false,τ 17 (.bin .gtr (.t 16) (κ 16)) 14 false,ζ 18 14 17]
@[simp] def We:Ω:=[σ 2 (.mv (.c (.str []))),σ 3 (.mv (.c θ)),σ 4 (.mv (.c (.bool false)))]
@[simp] def abC:Ω:=[σ 5 (.mv (.c θ))]
@[simp] def acu:Ω:=[σ 19 (.jN 1 false [(.int .u8 (.ofNat 0))] 1 [(0,(.c (.int .u8 (.ofNat 0))))]),μ 6 19]
@[simp] def LG:Ω:=[σ 7 (.mv (.c (.bool false))),σ 8 (.mv (.c (.bool true)))]
@[simp] def PC:Ω:=[μ 20 0,σ 21 (.s2h (.t 20)),ν 22 .slice 21,η 23 0]
@[simp] def Qq:Ω:=[β 24 .lss 23 22]
@[simp] def TM:Ω:=[μ 25 23,ι 26 1 21 23,ρ 27 26,μ 9 25,μ 10 27]
@[simp] def aab:Ω:=[μ 29 10,σ 30 (.bin .eql (.t 29) (.c (.int .u8 (.ofNat 46)))),μ 28 30]
@[simp] def FX:Ω:=[μ 31 9,γ 32 .neq 31 0,μ 33 32,Μ 34 9 33 true,Μ 35 0 33 true,τ 36 (.len .str (.t 35)) 33 true,τ 37 (.bin .sub (.t 36) (κ 1)) 33 true,τ 38 (.bin .neq (.t 34) (.t 37)) 33 true,ξ 39 33 38]
@[simp] def Du:Ω:=[σ 2 (.mv (.c (.str []))),σ 3 (.mv (.c θ)),σ 4 (.mv (.c (.bool false)))]
@[simp] def HZ:Ω:=[μ 40 5,μ 41 10,σ 42 (.jN 1 false [(.int .u8 (.ofNat 0))] 1 [(0,(.t 41))]),σ 43 (.append 1 false 1 (.t 40) (.t 42)),μ 44 6,σ 45 (.jN 1 false [(.int .u8 (.ofNat 0))] 1 [(0,(.c (.int .u8 (.ofNat 0))))]),σ 46 (.append 1 false 1 (.t 44) (.t 45)),μ 5 43,μ 6 46]
@[simp] def Iz:Ω:=[σ 8 (.mv (.c (.bool true)))]
@[simp] def Gc:Ω:=[μ 48 10,σ 49 (.call 161 [(.t 48)]),μ 47 49]
@[simp] def Ks:Ω:=[μ 50 5,μ 51 10,σ 52 (.jN 1 false [(.int .u8 (.ofNat 0))] 1 [(0,(.t 51))]),σ 53 (.append 1 false 1 (.t 50) (.t 52)),μ 54 6,σ 55 (.jN 1 false [(.int .u8 (.ofNat 0))] 1 [(0,(.c (.int .u8 (.ofNat 0))))]),σ 56 (.append 1 false 1 (.t 54) (.t 55)),μ 5 53,μ 6 56]
@[simp] def Hz:Ω:=[σ 7 (.mv (.c (.bool true))),σ 8 (.mv (.c (.bool true)))]
@[simp] def H0:Ω:=[μ 58 10,σ 59 (.call 163 [(.t 58)]),μ 60 59,Μ 61 8 60 true,ξ 62 60 61,μ 57 62]
@[simp] def DP:Ω:=[μ 63 6,μ 64 6,ν 65 .slice 64,γ 66 .sub 65 1,μ 67 10,σ 68 (.bin .sub (.t 67) (.c (.int .u8 (.ofNat 48)))),ι 69 1 63 66,ω 1 69 68]
@[simp] def IJ:Ω:=[σ 8 (.mv (.c (.bool false)))]
@[simp] def Ke:Ω:=[σ 2 (.mv (.c (.str []))),σ 3 (.mv (.c θ)),σ 4 (.mv (.c (.bool false)))]
@[simp] def Hj:Ω:=[γ 70 .add 23 1,μ 23 70]
def ja:RC:=(.seq (.region Qq [0,5,6,7,8,21,22,23,24]) (.seq (.cond (.t 24) .skip (.exit 0)) (.seq (.block 1 (.seq (.region TM [0,5,6,7,8,9,10,21,22,23]) (.block 2 (.seq (.region aab [0,5,6,7,8,9,10,21,22,23,28]) (.cond (.t 28) (.seq (.seq (.region FX [0,5,6,7,10,21,22,23,39]) (.cond (.t 39) (.seq (.region Du [2,3,4]) .ret) .skip)) (.seq (.region HZ [0,5,6,7,21,22,23]) (.region Iz [0,5,6,7,8,21,22,23]))) (.seq (.region Gc [0,5,6,7,8,10,21,22,23,47]) (.cond (.t 47) (.seq (.region Ks [0,5,6,21,22,23]) (.region Hz [0,5,6,7,8,21,22,23])) (.seq (.region H0 [0,5,6,7,10,21,22,23,57]) (.cond (.t 57) (.seq (.region DP [0,5,6,7,21,22,23]) (.region IJ [0,5,6,7,8,21,22,23])) (.seq (.region Ke [2,3,4]) .ret)))))))))) (.region Hj [0,5,6,7,8,21,22,23]))))
def dK:RC:=.loop [0,5,6,7,8,21,22,23] ja
@[simp] def Er:Ω:=[μ 71 5,σ 72 (.b2s (.t 71)),μ 73 6,μ 74 7,μ 2 72,μ 3 73,μ 4 74]
def f156:an:=⟨[.t 2,.t 3,.t 4],(.seq (.region Xs [0]) (.seq (.seq (.region LM [0,18]) (.cond (.t 18) (.seq (.region We [2,3,4]) .ret) .skip)) (.seq (.region abC [0,5]) (.seq (.region acu [0,5,6]) (.seq (.region LG [0,5,6,7,8]) (.seq (.seq (.region PC [0,5,6,7,8,21,22,23]) (.block 0 dK)) (.seq (.region Er [2,3,4]) .ret))))))),true⟩
end Go.D.Tab
end
section
namespace Go.D.Tab
@[simp] def Ni:Ω:=[μ 10 1,σ 11 (.s2b (.t 10)),ν 12 .slice 11,η 13 0]
@[simp] def YQ:Ω:=[β 14 .lss 13 12]
@[simp] def MZ:Ω:=[ι 15 1 11 13,ρ 16 15,μ 7 16]
@[simp] def ady:Ω:=[μ 17 0,σ 18 (.ak (.t 17)),φ 19 0 18,ρ 20 19,σ 21 (.eq .map false (.t 20) (.c .aD))]
@[simp] def aeh:Ω:=[μ 22 0,σ 23 .gh,σ 24 (.ak (.t 22)),φ 25 0 24,ω 1 25 23]
@[simp] def adf:Ω:=[μ 26 0,σ 27 (.ak (.t 26)),φ 28 0 27,ρ 29 28,μ 30 7,σ 31 (.lookup [.int] .bp (.t 29) (.t 30) false),σ 32 (.eq .ptr false (.t 31) (.c .bp))]
@[simp] def QL:Ω:=[μ 33 0,σ 34 (.ak (.t 33)),φ 35 0 34,ρ 36 35,μ 37 7,σ 38 (.build [.aD,θ] []),σ 39 (.box 2 (.t 38)),⟨none,.eD [.int] (.t 36) (.t 37) (.t 39),none⟩]
@[simp] def Tl:Ω:=[μ 40 0,σ 41 (.ak (.t 40)),φ 42 0 41,ρ 43 42,μ 44 7,σ 45 (.lookup [.int] .bp (.t 43) (.t 44) false),μ 0 45]
@[simp] def abc:Ω:=[γ 46 .add 13 1,μ 13 46]
def py:RC:=(.seq (.region YQ [0,2,11,12,13,14]) (.seq (.cond (.t 14) .skip (.exit 0)) (.seq (.block 1 (.seq (.region MZ [0,2,7,11,12,13]) (.seq (.seq (.region ady [0,2,7,11,12,13,21]) (.cond (.t 21) (.region aeh [0,2,7,11,12,13]) .skip)) (.seq (.seq (.region adf [0,2,7,11,12,13,32]) (.cond (.t 32) (.region QL [0,2,7,11,12,13]) .skip)) (.region Tl [0,2,11,12,13]))))) (.region abc [0,2,11,12,13]))))
def mF:RC:=.loop [0,2,11,12,13] py
@[simp] def QN:Ω:=[μ 47 0,σ 48 (.ak (.t 47)),φ 49 1 48,ρ 50 49,σ 51 (.eq .slice false (.t 50) (.c θ))]
@[simp] def Ht:Ω:=[μ 52 0,μ 53 2,σ 54 (.call 164 [(.t 53)]),σ 55 (.ak (.t 52)),φ 56 1 55,ω 1 56 54]
@[simp] def ED:Ω:=[μ 57 2,ν 58 .slice 57,η 59 0]
@[simp] def H9:Ω:=[β 60 .lss 59 58]
@[simp] def GH:Ω:=[μ 61 59,ι 62 1 57 59,ρ 63 62,μ 8 61,μ 9 63]
@[simp] def Dv:Ω:=[μ 64 0,σ 65 (.ak (.t 64)),φ 66 1 65,ρ 67 66,μ 68 8,μ 69 0,σ 70 (.ak (.t 69)),φ 71 1 70,ρ 72 71,μ 73 8,ι 74 1 72 73,ρ 75 74,μ 76 9,σ 77 (.max [(.t 75),(.t 76)]),ι 78 1 67 68,ω 1 78 77]
@[simp] def Em:Ω:=[γ 79 .add 59 1,μ 59 79]
def xy:RC:=(.seq (.region H9 [0,57,58,59,60]) (.seq (.cond (.t 60) .skip (.exit 2)) (.seq (.block 3 (.seq (.region GH [0,8,9,57,58,59]) (.au Dv [] [] [0,57,58,59]))) (.region Em [0,57,58,59]))))
def tt:RC:=.loop [0,57,58,59] xy
def f157:an:=⟨[],(.seq (.seq (.region Ni [0,2,11,12,13]) (.block 0 mF)) (.seq (.seq (.region QN [0,2,51]) (.cond (.t 51) (.seq (.region Ht []) .ret) .skip)) (.seq (.region ED [0,57,58,59]) (.block 2 tt)))),false⟩
@[simp] def Zp:Ω:=[σ 2 (.mv (.c (.str []))),σ 3 (.mv (.c θ)),σ 4 (.mv (.c (.bool false)))]
@[simp] def YP:Ω:=[σ 5 (.mv (.c θ))]
@[simp] def Np:Ω:=[σ 6 (.mv (.c θ))]
@[simp] def OL:Ω:=[μ 9 0,σ 10 (.s2b (.t 9)),ν 11 .slice 10,η 12 0]
@[simp] def SK:Ω:=[β 13 .lss 12 11]
@[simp] def Xo:Ω:=[μ 14 12,ι 15 1 10 12,ρ 16 15,μ 7 14,μ 8 16]
@[simp] def MX:Ω:=[μ 18 8,σ 19 (.call 161 [(.t 18)]),μ 17 19]
@[simp] def Za:Ω:=[μ 20 5,μ 21 8,σ 22 (.lit 1 false [(.int .u8 (.ofNat 0))] 1 [(0,(.t 21))]),σ 23 (.append 1 false 1 (.t 20) (.t 22)),μ 5 23]
@[simp] def adl:Ω:=[μ 25 8,σ 26 (.bin .eql (.t 25) (.c (.int .u8 (.ofNat 45)))),μ 27 26,Μ 28 7 27 true,τ 29 (.bin .gtr (.t 28) (κ 0)) 27 true,ξ 30 27 29,μ 31 30,Μ 32 7 31 true,Μ 33 0 31 true,τ 34 (.len .str (.t 33)) 31 true,τ 35 (.bin .sub (.t 34) (κ 1)) 31 true,τ 36 (.bin .lss (.t 32) (.t 35)) 31 true,ξ 37 31 36,μ 38 37,Μ 39 0 38 true,Μ 40 7 38 true,τ 41 (.bin .sub (.t 40) (κ 1)) 38 true,τ 42 (.index (.t 39) (.t 41)) 38 true,τ 43 (.bin .neq (.t 42) (.c (.int .u8 (.ofNat 45)))) 38 true,ξ 44 38 43,μ 24 44]
@[simp] def QO:Ω:=[μ 45 6,μ 46 5,ν 47 .slice 46,σ 48 (.lit 1 false [δ] 1 [(0,(.t 47))]),σ 49 (.append 1 false 8 (.t 45) (.t 48)),μ 6 49]
@[simp] def H4:Ω:=[σ 2 (.mv (.c (.str []))),σ 3 (.mv (.c θ)),σ 4 (.mv (.c (.bool false)))]
@[simp] def DF:Ω:=[γ 50 .add 12 1,μ 12 50]
def gV:RC:=(.seq (.region SK [0,5,6,10,11,12,13]) (.seq (.cond (.t 13) .skip (.exit 0)) (.seq (.block 1 (.seq (.region Xo [0,5,6,7,8,10,11,12]) (.block 2 (.seq (.region MX [0,5,6,7,8,10,11,12,17]) (.cond (.t 17) (.region Za [0,5,6,10,11,12]) (.seq (.region adl [0,5,6,10,11,12,24]) (.cond (.t 24) (.region QO [0,5,6,10,11,12]) (.seq (.region H4 [2,3,4]) .ret)))))))) (.region DF [0,5,6,10,11,12]))))
def fv:RC:=.loop [0,5,6,10,11,12] gV
@[simp] def DW:Ω:=[μ 51 5,σ 52 (.b2s (.t 51)),μ 53 6,μ 54 5,ν 55 .slice 54,γ 56 .geq 55 2,μ 57 56,Μ 58 5 57 true,τ 59 (.len .slice (.t 58)) 57 true,τ 60 (.bin .leq (.t 59) (κ 64)) 57 true,ξ 61 57 60,μ 2 52,μ 3 53,μ 4 61]
def f158:an:=⟨[.t 2,.t 3,.t 4],(.seq (.region Zp [0]) (.seq (.region YP [0,5]) (.seq (.region Np [0,5,6]) (.seq (.seq (.region OL [0,5,6,10,11,12]) (.block 0 fv)) (.seq (.region DW [2,3,4]) .ret))))),true⟩
@[simp] def Xl:Ω:=[σ 4 (.mv (.c θ))]
@[simp] def acf:Ω:=[σ 12 (.jq 2 16 (κ 0) (κ 32)),μ 5 12]
@[simp] def XK:Ω:=[σ 6 (.mv (.c (.int .i64 (.negSucc 0))))]
@[simp] def QH:Ω:=[μ 13 0,σ 14 .fail]
@[simp] def Sj:Ω:=[σ 15 .fail,ε 16 15 0]
@[simp] def UJ:Ω:=[ε 17 15 1,ε 18 15 2,μ 7 17,μ 8 18]
@[simp] def aaI:Ω:=[μ 19 1,μ 20 8,σ 21 (.br (.t 19) [(.t 20)])]
@[simp] def ZY:Ω:=[μ 22 6,γ 23 .geq 22 0]
@[simp] def TU:Ω:=[μ 24 5,μ 25 6,μ 26 7,σ 27 (.build [δ,δ] [(0,1,(.t 25)),(1,1,(.t 26))]),σ 28 (.lit 2 true [δ,δ] 1 [(0,(.t 27))]),σ 29 (.append 2 true 16 (.t 24) (.t 28)),μ 5 29]
@[simp] def aep:Ω:=[μ 30 6,σ 31 (.un .xor (.t 30)),μ 6 31]
@[simp] def Fq:Ω:=[μ 32 6,γ 33 .lss 32 0]
@[simp] def DR:Ω:=[μ 34 7,μ 6 34]
def XE:RC:=(.seq (.region Sj [0,1,5,6,15,16]) (.seq (.cond (.t 16) .skip (.exit 0)) (.block 1 (.seq (.region UJ [0,1,5,6,7,8]) (.seq (.region aaI [0,1,5,6,7,21]) (.cond (.t 21) (.seq (.region ZY [0,1,5,6,7,23]) (.cond (.t 23) (.seq (.region TU [0,1,5,6]) (.region aep [0,1,5,6])) .skip)) (.seq (.region Fq [0,1,5,6,7,33]) (.cond (.t 33) (.region DR [0,1,5,6]) .skip))))))))
def VR:RC:=.loop [0,1,5,6] XE
@[simp] def Eg:Ω:=[μ 35 6,γ 36 .geq 35 0]
@[simp] def GS:Ω:=[μ 37 5,μ 38 6,μ 39 0,ν 40 .str 39,σ 41 (.build [δ,δ] [(0,1,(.t 38)),(1,1,(.t 40))]),σ 42 (.lit 2 true [δ,δ] 1 [(0,(.t 41))]),σ 43 (.append 2 true 16 (.t 37) (.t 42)),μ 5 43]
@[simp] def Gi:Ω:=[μ 44 5,ν 45 .slice 44,σ 46 (.bG 1 false 16 [(.str [])] (.t 45) (.t 45)),μ 9 46]
@[simp] def JC:Ω:=[μ 47 5,ν 48 .slice 47,η 49 0]
@[simp] def EW:Ω:=[β 50 .lss 49 48]
@[simp] def HB:Ω:=[μ 51 49,ι 52 2 47 49,Λ 53 2 52,σ 11 (.alloc [δ,δ]),μ 10 51,ω 2 11 53]
@[simp] def I6:Ω:=[μ 54 9,μ 55 10,μ 56 0,φ 57 0 11,ρ 58 57,φ 59 1 11,ρ 60 59,σ 61 (.slice true 1 (.t 56) (some (.t 58)) (some (.t 60)) none),ι 62 1 54 55,ω 1 62 61]
@[simp] def Ii:Ω:=[γ 63 .add 49 1,μ 49 63]
def XI:RC:=(.seq (.region EW [0,9,47,48,49,50]) (.seq (.cond (.t 50) .skip (.exit 2)) (.seq (.block 3 (.seq (.region HB [0,9,10,11,47,48,49]) (.region I6 [0,9,47,48,49]))) (.region Ii [0,9,47,48,49]))))
def Pu:RC:=.loop [0,9,47,48,49] XI
@[simp] def DD:Ω:=[μ 64 9,μ 4 64]
def f159:an:=⟨[.t 4],(.seq (.region Xl [0,1]) (.seq (.region acf [0,1,5]) (.seq (.region XK [0,1,5,6]) (.seq (.seq (.region QH [0,1,5,6]) (.block 0 VR)) (.seq (.seq (.region Eg [0,5,6,36]) (.cond (.t 36) (.region GS [0,5]) .skip)) (.seq (.region Gi [0,5,9]) (.seq (.seq (.region JC [0,9,47,48,49]) (.block 2 Pu)) (.seq (.region DD [4]) .ret)))))))),false⟩
@[simp] def TP:Ω:=[σ 2 (.mv (.c (.bool false)))]
@[simp] def Vd:Ω:=[μ 3 0,σ 4 (.i2i .u32 (.t 3)),σ 5 (.bin .leq (.t 4) (.c (.int .u32 (.ofNat 255))))]
@[simp] def ad8:Ω:=[μ 6 0]
@[simp] def ab6:Ω:=[σ 8 (.bin .eql (.t 6) (.c (.int .i32 (.ofNat 9)))),μ 7 8]
@[simp] def QB:Ω:=[σ 9 (.bin .eql (.t 6) (.c (.int .i32 (.ofNat 10)))),μ 7 9]
@[simp] def QU:Ω:=[σ 10 (.bin .eql (.t 6) (.c (.int .i32 (.ofNat 11)))),μ 7 10]
@[simp] def OD:Ω:=[σ 11 (.bin .eql (.t 6) (.c (.int .i32 (.ofNat 12)))),μ 7 11]
@[simp] def Up:Ω:=[σ 12 (.bin .eql (.t 6) (.c (.int .i32 (.ofNat 13)))),μ 7 12]
@[simp] def N9:Ω:=[σ 13 (.bin .eql (.t 6) (.c (.int .i32 (.ofNat 32)))),μ 7 13]
@[simp] def RH:Ω:=[σ 14 (.bin .eql (.t 6) (.c (.int .i32 (.ofNat 133)))),μ 7 14]
@[simp] def Ge:Ω:=[σ 15 (.bin .eql (.t 6) (.c (.int .i32 (.ofNat 160)))),μ 7 15]
@[simp] def Hb:Ω:=[σ 2 (.mv (.c (.bool true)))]
@[simp] def HA:Ω:=[σ 2 (.mv (.c (.bool false)))]
@[simp] def FO:Ω:=[σ 16 .fail,μ 17 0,σ 18 (.call 165 [(.t 16),(.t 17)]),μ 2 18]
def f160:an:=⟨[.t 2],(.seq (.region TP [0]) (.seq (.seq (.region Vd [0,5]) (.cond (.t 5) (.seq (.seq (.region ad8 [6]) (.block 0 (.seq (.seq (.region ab6 [6,7]) (.cond (.t 7) .skip (.seq (.region QB [6,7]) (.cond (.t 7) .skip (.seq (.region QU [6,7]) (.cond (.t 7) .skip (.seq (.region OD [6,7]) (.cond (.t 7) .skip (.seq (.region Up [6,7]) (.cond (.t 7) .skip (.seq (.region N9 [6,7]) (.cond (.t 7) .skip (.seq (.region RH [6,7]) (.cond (.t 7) .skip (.region Ge [7]))))))))))))))) (.cond (.t 7) (.seq (.region Hb [2]) .ret) .skip)))) (.seq (.region HA [2]) .ret)) .skip)) (.seq (.region FO [2]) .ret))),true⟩
@[simp] def SQ:Ω:=[σ 2 (.mv (.c (.bool false)))]
@[simp] def Lv:Ω:=[μ 3 0,σ 4 (.bin .geq (.t 3) (.c (.int .u8 (.ofNat 97)))),μ 5 4,Μ 6 0 5 true,τ 7 (.bin .leq (.t 6) (.c (.int .u8 (.ofNat 122)))) 5 true,ξ 8 5 7,μ 2 8]
def f161:an:=⟨[.t 2],(.seq (.region SQ [0]) (.seq (.region Lv [2]) .ret)),true⟩
@[simp] def T1:Ω:=[σ 2 (.mv (.c (.bool false)))]
@[simp] def R3:Ω:=[μ 3 0,μ 4 0,β 5 .neq 3 4,μ 2 5]
def f162:an:=⟨[.t 2],(.seq (.region T1 [0]) (.seq (.region R3 [2]) .ret)),true⟩
@[simp] def RZ:Ω:=[σ 2 (.mv (.c (.bool false)))]
@[simp] def adV:Ω:=[μ 3 0,σ 4 (.bin .geq (.t 3) (.c (.int .u8 (.ofNat 48)))),μ 5 4,Μ 6 0 5 true,τ 7 (.bin .leq (.t 6) (.c (.int .u8 (.ofNat 57)))) 5 true,ξ 8 5 7,μ 2 8]
def f163:an:=⟨[.t 2],(.seq (.region RZ [0]) (.seq (.region adV [2]) .ret)),true⟩
@[simp] def Pg:Ω:=[σ 2 (.mv (.c θ))]
@[simp] def adb:Ω:=[μ 3 0,σ 4 (.eq .slice false (.t 3) (.c θ))]
@[simp] def ad4:Ω:=[σ 2 (.mv (.c θ))]
@[simp] def aaj:Ω:=[σ 5 (.lit 1 false [(.int .u8 (.ofNat 0))] 0 []),μ 6 0,σ 7 (.de 1 false 1 (.t 5) (.t 6)),μ 2 7]
def f164:an:=⟨[.t 2],(.seq (.region Pg [0]) (.seq (.seq (.region adb [0,4]) (.cond (.t 4) (.seq (.region ad4 [2]) .ret) .skip)) (.seq (.region aaj [2]) .ret))),false⟩
@[simp] def Tu:Ω:=[σ 4 (.mv (.c (.bool false)))]
@[simp] def abx:Ω:=[μ 8 0,σ 9 (.ak (.t 8)),φ 10 0 9,ρ 11 10,μ 5 11]
@[simp] def Mu:Ω:=[μ 12 0,σ 13 (.ak (.t 12)),φ 14 2 13,ρ 15 14,μ 6 15]
@[simp] def LH:Ω:=[μ 16 5,ν 17 .slice 16,μ 18 6,β 19 .gtr 17 18,μ 20 19,Μ 21 1 20 true,τ 22 (.i2i .u32 (.t 21)) 20 true,Μ 23 5 20 true,Μ 24 5 20 true,τ 25 (.len .slice (.t 24)) 20 true,τ 26 (.bin .sub (.t 25) (κ 1)) 20 true,τ 27 (.aJ 3 (.t 23) (.t 26)) 20 true,Φ 28 1 27 20 true,Ρ 29 28 20 true,τ 30 (.i2i .u32 (.t 29)) 20 true,τ 31 (.bin .leq (.t 22) (.t 30)) 20 true,ξ 32 20 31]
@[simp] def Pj:Ω:=[μ 33 5,μ 34 6,σ 35 (.slice false 3 (.t 33) (some (.t 34)) none none),μ 36 1,σ 37 (.i2i .u16 (.t 36)),σ 38 (.call 166 [(.t 35),(.t 37)]),μ 4 38]
@[simp] def Sx:Ω:=[μ 39 0,σ 40 (.ak (.t 39)),φ 41 1 40,ρ 42 41,μ 7 42]
@[simp] def abi:Ω:=[μ 43 7,ν 44 .slice 43,γ 45 .gtr 44 0,μ 46 45,Μ 47 1 46 true,Μ 48 7 46 true,τ 49 (.aJ 3 (.t 48) (κ 0)) 46 true,Φ 50 0 49 46 true,Ρ 51 50 46 true,τ 52 (.i2i .i32 (.t 51)) 46 true,τ 53 (.bin .geq (.t 47) (.t 52)) 46 true,ξ 54 46 53]
@[simp] def Xj:Ω:=[μ 55 7,μ 56 1,σ 57 (.i2i .u32 (.t 56)),σ 58 (.call 167 [(.t 55),(.t 57)]),μ 4 58]
@[simp] def adU:Ω:=[σ 4 (.mv (.c (.bool false)))]
def f165:an:=⟨[.t 4],(.seq (.region Tu [0,1]) (.seq (.region abx [0,1,5]) (.seq (.seq (.region Mu [0,1,5,6]) (.seq (.region LH [0,1,5,6,32]) (.cond (.t 32) (.seq (.region Pj [4]) .ret) .skip))) (.seq (.region Sx [1,7]) (.seq (.seq (.region abi [1,7,54]) (.cond (.t 54) (.seq (.region Xj [4]) .ret) .skip)) (.seq (.region adU [4]) .ret)))))),false⟩
@[simp] def O8:Ω:=[σ 4 (.mv (.c (.bool false)))]
@[simp] def S8:Ω:=[μ 11 0,ν 12 .slice 11,γ 13 .leq 12 18,μ 14 13,Μ 15 1 14 false,τ 16 (.bin .leq (.t 15) (.c (.int .u16 (.ofNat 255)))) 14 false,ζ 17 14 16]
@[simp] def Xh:Ω:=[μ 18 0,ν 19 .slice 18,η 20 0]
@[simp] def Lh:Ω:=[β 21 .lss 20 19]
@[simp] def LR:Ω:=[μ 22 20,μ 5 22]
@[simp] def Ur:Ω:=[μ 23 0,μ 24 5,ι 25 3 23 24,μ 6 25]
@[simp] def Ms:Ω:=[μ 26 1,μ 27 6,σ 28 (.ak (.t 27)),φ 29 0 28,ρ 30 29,β 31 .lss 26 30]
@[simp] def US:Ω:=[σ 4 (.mv (.c (.bool false)))]
@[simp] def Qw:Ω:=[μ 32 1,μ 33 6,σ 34 (.ak (.t 33)),φ 35 1 34,ρ 36 35,β 37 .leq 32 36]
@[simp] def RF:Ω:=[μ 38 6,σ 39 (.ak (.t 38)),φ 40 2 39,ρ 41 40,σ 42 (.bin .eql (.t 41) (.c (.int .u16 (.ofNat 1)))),μ 43 42,Μ 44 1 43 false,Μ 45 6 43 false,τ 46 (.ak (.t 45)) 43 false,Φ 47 0 46 43 false,Ρ 48 47 43 false,τ 49 (.bin .sub (.t 44) (.t 48)) 43 false,Μ 50 6 43 false,τ 51 (.ak (.t 50)) 43 false,Φ 52 2 51 43 false,Ρ 53 52 43 false,τ 54 (.bin .rem (.t 49) (.t 53)) 43 false,τ 55 (.bin .eql (.t 54) (.c (.int .u16 (.ofNat 0)))) 43 false,ζ 56 43 55,μ 4 56]
@[simp] def GX:Ω:=[γ 57 .add 20 1,μ 20 57]
def aek:RC:=(.seq (.region Lh [0,1,19,20,21]) (.seq (.cond (.t 21) .skip (.exit 0)) (.seq (.block 1 (.seq (.region LR [0,1,5,19,20]) (.seq (.region Ur [0,1,6,19,20]) (.seq (.seq (.region Ms [0,1,6,19,20,31]) (.cond (.t 31) (.seq (.region US [4]) .ret) .skip)) (.seq (.region Qw [0,1,6,19,20,37]) (.cond (.t 37) (.seq (.au RF [] [] [4]) .ret) .skip)))))) (.region GX [0,1,19,20]))))
def XG:RC:=.loop [0,1,19,20] aek
@[simp] def FC:Ω:=[σ 4 (.mv (.c (.bool false)))]
@[simp] def Ee:Ω:=[η 7 0]
@[simp] def E2:Ω:=[μ 58 0,ν 59 .slice 58,μ 8 59]
@[simp] def IQ:Ω:=[μ 60 7,μ 61 8,β 62 .lss 60 61]
@[simp] def F5:Ω:=[μ 63 7,μ 64 8,β 65 .add 63 64,σ 66 (.i2i .u64 (.t 65)),σ 67 (.bin .shr (.t 66) (.c (.int .u64 (.ofNat 1)))),σ 68 (.i2i .i64 (.t 67)),μ 9 68]
@[simp] def HV:Ω:=[μ 69 0,μ 70 9,ι 71 3 69 70,μ 10 71]
@[simp] def Fu:Ω:=[μ 72 10,σ 73 (.ak (.t 72)),φ 74 0 73,ρ 75 74,μ 76 1,β 77 .leq 75 76,μ 78 77,Μ 79 1 78 true,Μ 80 10 78 true,τ 81 (.ak (.t 80)) 78 true,Φ 82 1 81 78 true,Ρ 83 82 78 true,τ 84 (.bin .leq (.t 79) (.t 83)) 78 true,ξ 85 78 84]
@[simp] def IL:Ω:=[μ 86 10,σ 87 (.ak (.t 86)),φ 88 2 87,ρ 89 88,σ 90 (.bin .eql (.t 89) (.c (.int .u16 (.ofNat 1)))),μ 91 90,Μ 92 1 91 false,Μ 93 10 91 false,τ 94 (.ak (.t 93)) 91 false,Φ 95 0 94 91 false,Ρ 96 95 91 false,τ 97 (.bin .sub (.t 92) (.t 96)) 91 false,Μ 98 10 91 false,τ 99 (.ak (.t 98)) 91 false,Φ 100 2 99 91 false,Ρ 101 100 91 false,τ 102 (.bin .rem (.t 97) (.t 101)) 91 false,τ 103 (.bin .eql (.t 102) (.c (.int .u16 (.ofNat 0)))) 91 false,ζ 104 91 103,μ 4 104]
@[simp] def Fk:Ω:=[μ 105 1,μ 106 10,σ 107 (.ak (.t 106)),φ 108 0 107,ρ 109 108,β 110 .lss 105 109]
@[simp] def GZ:Ω:=[μ 111 9,μ 8 111]
@[simp] def GO:Ω:=[μ 112 9,γ 113 .add 112 1,μ 7 113]
def aen:RC:=(.seq (.seq (.region IQ [0,1,7,8,62]) (.cond (.t 62) .skip (.exit 2))) (.block 3 (.seq (.region F5 [0,1,7,8,9]) (.seq (.region HV [0,1,7,8,9,10]) (.seq (.seq (.region Fu [0,1,7,8,9,10,85]) (.cond (.t 85) (.seq (.au IL [] [] [4]) .ret) .skip)) (.seq (.region Fk [0,1,7,8,9,110]) (.cond (.t 110) (.region GZ [0,1,7,8]) (.region GO [0,1,7,8]))))))))
def TK:RC:=.loop [0,1,7,8] aen
@[simp] def Ek:Ω:=[σ 4 (.mv (.c (.bool false)))]
def f166:an:=⟨[.t 4],(.seq (.region O8 [0,1]) (.seq (.seq (.region S8 [0,1,17]) (.cond (.t 17) (.seq (.seq (.region Xh [0,1,19,20]) (.block 0 XG)) (.seq (.region FC [4]) .ret)) .skip)) (.seq (.region Ee [0,1,7]) (.seq (.region E2 [0,1,7,8]) (.seq (.block 2 TK) (.seq (.region Ek [4]) .ret)))))),true⟩
@[simp] def XH:Ω:=[σ 4 (.mv (.c (.bool false)))]
@[simp] def Vt:Ω:=[μ 11 0,ν 12 .slice 11,γ 13 .leq 12 18]
@[simp] def O5:Ω:=[μ 14 0,ν 15 .slice 14,η 16 0]
@[simp] def Wu:Ω:=[β 17 .lss 16 15]
@[simp] def TY:Ω:=[μ 18 16,μ 5 18]
@[simp] def Te:Ω:=[μ 19 0,μ 20 5,ι 21 3 19 20,μ 6 21]
@[simp] def Vf:Ω:=[μ 22 1,μ 23 6,σ 24 (.ak (.t 23)),φ 25 0 24,ρ 26 25,β 27 .lss 22 26]
@[simp] def Q0:Ω:=[σ 4 (.mv (.c (.bool false)))]
@[simp] def Tp:Ω:=[μ 28 1,μ 29 6,σ 30 (.ak (.t 29)),φ 31 1 30,ρ 32 31,β 33 .leq 28 32]
@[simp] def Zq:Ω:=[μ 34 6,σ 35 (.ak (.t 34)),φ 36 2 35,ρ 37 36,σ 38 (.bin .eql (.t 37) (.c (.int .u32 (.ofNat 1)))),μ 39 38,Μ 40 1 39 false,Μ 41 6 39 false,τ 42 (.ak (.t 41)) 39 false,Φ 43 0 42 39 false,Ρ 44 43 39 false,τ 45 (.bin .sub (.t 40) (.t 44)) 39 false,Μ 46 6 39 false,τ 47 (.ak (.t 46)) 39 false,Φ 48 2 47 39 false,Ρ 49 48 39 false,τ 50 (.bin .rem (.t 45) (.t 49)) 39 false,τ 51 (.bin .eql (.t 50) (.c (.int .u32 (.ofNat 0)))) 39 false,ζ 52 39 51,μ 4 52]
@[simp] def Ko:Ω:=[γ 53 .add 16 1,μ 16 53]
def adQ:RC:=(.seq (.region Wu [0,1,15,16,17]) (.seq (.cond (.t 17) .skip (.exit 0)) (.seq (.block 1 (.seq (.region TY [0,1,5,15,16]) (.seq (.region Te [0,1,6,15,16]) (.seq (.seq (.region Vf [0,1,6,15,16,27]) (.cond (.t 27) (.seq (.region Q0 [4]) .ret) .skip)) (.seq (.region Tp [0,1,6,15,16,33]) (.cond (.t 33) (.seq (.au Zq [] [] [4]) .ret) .skip)))))) (.region Ko [0,1,15,16]))))
def UZ:RC:=.loop [0,1,15,16] adQ
@[simp] def GD:Ω:=[σ 4 (.mv (.c (.bool false)))]
@[simp] def GF:Ω:=[η 7 0]
@[simp] def Ed:Ω:=[μ 54 0,ν 55 .slice 54,μ 8 55]
@[simp] def I2:Ω:=[μ 56 7,μ 57 8,β 58 .lss 56 57]
@[simp] def Hd:Ω:=[μ 59 7,μ 60 8,β 61 .add 59 60,σ 62 (.i2i .u64 (.t 61)),σ 63 (.bin .shr (.t 62) (.c (.int .u64 (.ofNat 1)))),σ 64 (.i2i .i64 (.t 63)),μ 9 64]
@[simp] def Gz:Ω:=[μ 65 0,μ 66 9,ι 67 3 65 66,Λ 68 3 67,σ 10 (.alloc [(.int .u32 (.ofNat 0)),(.int .u32 (.ofNat 0)),(.int .u32 (.ofNat 0))]),ω 3 10 68]
@[simp] def DZ:Ω:=[φ 69 0 10,ρ 70 69,μ 71 1,β 72 .leq 70 71,μ 73 72,Μ 74 1 73 true,Φ 75 1 10 73 true,Ρ 76 75 73 true,τ 77 (.bin .leq (.t 74) (.t 76)) 73 true,ξ 78 73 77]
@[simp] def Gm:Ω:=[φ 79 2 10,ρ 80 79,σ 81 (.bin .eql (.t 80) (.c (.int .u32 (.ofNat 1)))),μ 82 81,Μ 83 1 82 false,Φ 84 0 10 82 false,Ρ 85 84 82 false,τ 86 (.bin .sub (.t 83) (.t 85)) 82 false,Φ 87 2 10 82 false,Ρ 88 87 82 false,τ 89 (.bin .rem (.t 86) (.t 88)) 82 false,τ 90 (.bin .eql (.t 89) (.c (.int .u32 (.ofNat 0)))) 82 false,ζ 91 82 90,μ 4 91]
@[simp] def DI:Ω:=[μ 92 1,φ 93 0 10,ρ 94 93,β 95 .lss 92 94]
@[simp] def I5:Ω:=[μ 96 9,μ 8 96]
@[simp] def D6:Ω:=[μ 97 9,γ 98 .add 97 1,μ 7 98]
def Su:RC:=(.seq (.seq (.region I2 [0,1,7,8,58]) (.cond (.t 58) .skip (.exit 2))) (.block 3 (.seq (.region Hd [0,1,7,8,9]) (.seq (.region Gz [0,1,7,8,9,10]) (.seq (.seq (.region DZ [0,1,7,8,9,10,78]) (.cond (.t 78) (.seq (.region Gm [4]) .ret) .skip)) (.seq (.region DI [0,1,7,8,9,95]) (.cond (.t 95) (.region I5 [0,1,7,8]) (.region D6 [0,1,7,8]))))))))
def Uv:RC:=.loop [0,1,7,8] Su
@[simp] def JP:Ω:=[σ 4 (.mv (.c (.bool false)))]
def f167:an:=⟨[.t 4],(.seq (.region XH [0,1]) (.seq (.seq (.region Vt [0,1,13]) (.cond (.t 13) (.seq (.seq (.region O5 [0,1,15,16]) (.block 0 UZ)) (.seq (.region GD [4]) .ret)) .skip)) (.seq (.region GF [0,1,7]) (.seq (.region Ed [0,1,7,8]) (.seq (.block 2 Uv) (.seq (.region JP [4]) .ret)))))),true⟩
@[simp] def V0:Ω:=[σ 1 (.box 21 (.t 0)),η 2 0,η 3 0]
@[simp] def Uo:Ω:=[Λ 7 21 1,σ 8 (.call 10 [(.t 7)]),μ 6 8,ε 9 6 0,ε 10 6 1,μ 4 9,μ 5 10]
@[simp] def acU:Ω:=[μ 11 5,γ 12 .neq 11 0]
@[simp] def LN:Ω:=[μ 13 5,η 2 0,μ 3 13]
@[simp] def Qu:Ω:=[Λ 14 21 1,μ 15 4,σ 16 (.call 234 [(.t 14),(.t 15)]),μ 2 16,η 3 0]
def f211:an:=⟨[.t 2,.t 3],(.seq (.region V0 [1]) (.seq (.region Uo [1,4,5]) (.seq (.seq (.region acU [1,4,5,12]) (.cond (.t 12) (.seq (.region LN [2,3]) .ret) .skip)) (.seq (.region Qu [2,3]) .ret)))),true⟩
@[simp] def abG:Ω:=[σ 5 (.box 2 (.t 2)),σ 6 (.mv (.c θ)),η 7 0,η 8 0]
@[simp] def NP:Ω:=[μ 23 0,μ 24 1,Λ 25 2 5,σ 26 (.call 242 [(.t 23),(.t 24),(.t 25)]),μ 9 26]
@[simp] def aaO:Ω:=[μ 27 9,γ 28 .neq 27 0]
@[simp] def XZ:Ω:=[μ 29 9,σ 6 (.mv (.c θ)),η 7 0,μ 8 29]
@[simp] def N4:Ω:=[μ 30 0,μ 31 1,Λ 32 2 5,σ 33 (.build [θ,θ,δ,δ,θ,θ,θ,θ] [(0,1,(.t 30)),(1,1,(.t 31)),(2,2,(.t 32))]),σ 34 (.box 8 (.t 33)),μ 10 34]
@[simp] def Lx:Ω:=[μ 35 10,σ 36 (.call 243 [(.t 35)])]
@[simp] def Rx:Ω:=[μ 37 10,σ 38 (.call 244 [(.t 37)])]
@[simp] def VE:Ω:=[μ 39 0,ν 40 .slice 39,μ 41 0,ν 42 .slice 41,σ 43 (.build [δ,δ,(.bool false),(.bool false),δ] [(0,1,(.t 40)),(1,1,(.t 42))]),σ 44 (.lit 5 true [δ,δ,(.bool false),(.bool false),δ] 1 [(0,(.t 43))]),μ 6 44,η 7 100,η 8 0]
@[simp] def UX:Ω:=[μ 45 10,σ 46 (.call 245 [(.t 45)]),μ 11 46]
@[simp] def X0:Ω:=[σ 12 (.mv (.c (.int .i64 (.negSucc 0)))),η 13 0]
@[simp] def Fa:Ω:=[η 14 0]
@[simp] def Ga:Ω:=[μ 47 14,μ 48 0,ν 49 .slice 48,β 50 .leq 47 49]
@[simp] def D9:Ω:=[μ 54 11,μ 55 0,ν 56 .slice 55,μ 57 14,σ 58 (.build [δ,δ] [(0,1,(.t 56)),(1,1,(.t 57))]),σ 59 (.lookup [.int,.int] (.agg [δ,δ]) (.t 54) (.t 58) true),μ 53 59,ε 60 53 0,ε 61 53 1,σ 15 (.alloc [δ,δ]),ω 2 15 60,μ 16 61]
@[simp] def I8:Ω:=[μ 62 16,μ 63 62,Μ 64 12 63 true,τ 65 (.bin .lss (.t 64) (κ 0)) 63 true,Μ 66 65 63 true,Φ 67 0 15 66 false,Ρ 68 67 66 false,Μ 69 13 66 false,τ 70 (.bin .lss (.t 68) (.t 69)) 66 false,τ 71 (.pick (.t 66) (.c (.bool true)) (.t 70)) 63 true,ξ 72 63 71]
@[simp] def HS:Ω:=[μ 73 14,φ 74 0 15,ρ 75 74,μ 12 73,μ 13 75]
@[simp] def HH:Ω:=[μ 51 14,γ 52 .add 51 1,μ 14 52]
def Nf:RC:=(.seq (.seq (.region Ga [0,1,5,10,11,12,13,14,50]) (.cond (.t 50) .skip (.exit 0))) (.seq (.block 1 (.seq (.region D9 [0,1,5,10,11,12,13,14,15,16]) (.seq (.region I8 [0,1,5,10,11,12,13,14,15,72]) (.cond (.t 72) (.au HS [] [] [0,1,5,10,11,12,13,14]) .skip)))) (.region HH [0,1,5,10,11,12,13,14])))
def adG:RC:=.loop [0,1,5,10,11,12,13,14] Nf
@[simp] def Je:Ω:=[μ 76 12,γ 77 .lss 76 0]
@[simp] def Fm:Ω:=[σ 6 (.mv (.c θ)),η 7 0,η 8 6]
@[simp] def Kj:Ω:=[σ 17 (.mv (.c θ))]
@[simp] def Kr:Ω:=[μ 78 12,μ 79 0,ν 80 .slice 79,μ 18 78,μ 19 80]
@[simp] def ER:Ω:=[μ 81 18,γ 82 .geq 81 0]
@[simp] def G9:Ω:=[μ 85 11,μ 86 19,μ 87 18,σ 88 (.build [δ,δ] [(0,1,(.t 86)),(1,1,(.t 87))]),σ 89 (.lookup [.int,.int] (.agg [δ,δ]) (.t 85) (.t 88) false),σ 90 (.field 1 false 1 (.t 89)),μ 20 90]
@[simp] def IP:Ω:=[μ 91 10,μ 92 20,σ 93 (.call 246 [(.t 91),(.t 92)]),μ 21 93]
@[simp] def FZ:Ω:=[μ 94 10,μ 95 21,μ 96 19,σ 97 (.call 247 [(.t 94),(.t 95),(.t 96)]),μ 22 97]
@[simp] def Ha:Ω:=[μ 98 17,μ 99 21,μ 100 19,μ 101 22,μ 102 1,Λ 103 2 5,μ 104 18,σ 105 (.call 114 [(.t 102),(.t 103),(.t 104)]),σ 106 (.field 1 false 1 (.t 105)),β 107 .gtr 101 106,μ 108 10,μ 109 19,σ 110 (.call 248 [(.t 108),(.t 109)]),μ 111 22,σ 112 (.build [δ,δ,(.bool false),(.bool false),δ] [(0,1,(.t 99)),(1,1,(.t 100)),(2,1,(.t 107)),(3,1,(.t 110)),(4,1,(.t 111))]),σ 113 (.lit 5 true [δ,δ,(.bool false),(.bool false),δ] 1 [(0,(.t 112))]),σ 114 (.de 5 true 32 (.t 98) (.t 113)),μ 17 114]
@[simp] def E4:Ω:=[μ 115 20,μ 19 115]
@[simp] def FJ:Ω:=[μ 83 18,γ 84 .sub 83 1,μ 18 84]
def Ls:RC:=(.seq (.seq (.region ER [1,5,10,11,13,17,18,19,82]) (.cond (.t 82) .skip (.exit 2))) (.seq (.block 3 (.seq (.region G9 [1,5,10,11,13,17,18,19,20]) (.seq (.region IP [1,5,10,11,13,17,18,19,20,21]) (.seq (.region FZ [1,5,10,11,13,17,18,19,20,21,22]) (.seq (.region Ha [1,5,10,11,13,17,18,20]) (.region E4 [1,5,10,11,13,17,18,19])))))) (.region FJ [1,5,10,11,13,17,18,19])))
def ad7:RC:=.loop [1,5,10,11,13,17,18,19] Ls
@[simp] def DL:Ω:=[μ 116 17,σ 117 (.call 249 [(.t 116)])]
@[simp] def GJ:Ω:=[μ 118 17,μ 119 13,μ 6 118,μ 7 119,η 8 0]
def f218:an:=⟨[.t 6,.t 7,.t 8],(.seq (.region abG [0,1,5]) (.seq (.seq (.region NP [0,1,5,9]) (.seq (.region aaO [0,1,5,9,28]) (.cond (.t 28) (.seq (.region XZ [6,7,8]) .ret) .skip))) (.seq (.region N4 [0,1,5,10]) (.seq (.region Lx [0,1,5,10]) (.seq (.seq (.region Rx [0,1,5,10,38]) (.cond (.t 38) (.seq (.region VE [6,7,8]) .ret) .skip)) (.seq (.region UX [0,1,5,10,11]) (.seq (.region X0 [0,1,5,10,11,12,13]) (.seq (.seq (.region Fa [0,1,5,10,11,12,13,14]) (.block 0 adG)) (.seq (.seq (.region Je [0,1,5,10,11,12,13,77]) (.cond (.t 77) (.seq (.region Fm [6,7,8]) .ret) .skip)) (.seq (.region Kj [0,1,5,10,11,12,13,17]) (.seq (.seq (.region Kr [1,5,10,11,13,17,18,19]) (.block 2 ad7)) (.seq (.region DL [13,17]) (.seq (.region GJ [6,7,8]) .ret))))))))))))),true⟩
@[simp] def Md:Ω:=[σ 2 (.box 21 (.t 0)),η 4 0]
@[simp] def WR:Ω:=[φ 7 2 2,φ 8 14 7,ρ 9 8,γ 10 .lss 9 2,μ 11 10,Μ 12 1 11 false,τ 13 (.len .slice (.t 12)) 11 false,τ 14 (.bin .eql (.t 13) (κ 0)) 11 false,ζ 15 11 14,μ 16 15,Μ 17 1 16 false,τ 18 (.aJ 6 (.t 17) (κ 0)) 16 false,Φ 19 2 18 16 false,Ρ 20 19 16 false,τ 21 (.bin .neq (.t 20) (κ 1)) 16 false,ζ 22 16 21]
@[simp] def acP:Ω:=[η 4 0]
@[simp] def Vj:Ω:=[φ 24 0 2,ρ 25 24,σ 26 (.slice true 1 (.t 25) none (some (κ 1)) none),φ 27 2 2,φ 28 0 27,ρ 29 28,φ 30 2 2,φ 31 14 30,ρ 32 31,β 33 .mul 29 32,σ 34 (.min [(.t 33),(κ 64)]),σ 35 (.call 17 [(.t 26),(.t 34)]),μ 23 35,ε 36 23 0,ε 37 23 1,μ 5 36,μ 6 37]
@[simp] def VQ:Ω:=[μ 38 5,γ 39 .add 38 4,μ 4 39]
def f234:an:=⟨[.t 4],(.seq (.region Md [1,2]) (.seq (.seq (.region WR [2,22]) (.cond (.t 22) (.seq (.region acP [4]) .ret) .skip)) (.seq (.au Vj [] [] [5]) (.seq (.region VQ [4]) .ret)))),true⟩
@[simp] def MB:Ω:=[σ 5 (.box 2 (.t 2)),η 6 0]
@[simp] def Vk:Ω:=[μ 8 0,σ 9 (.call 109 [(.t 8)]),μ 7 9]
@[simp] def Z4:Ω:=[μ 10 7,γ 11 .eql 10 0]
@[simp] def Ox:Ω:=[μ 12 1,Λ 13 2 5,σ 14 (.call 126 [(.t 12),(.t 13)]),μ 7 14]
@[simp] def RB:Ω:=[μ 15 7,γ 16 .eql 15 0,μ 17 16,Μ 18 0 17 true,τ 19 (.call 108 [(.t 18)]) 17 true,ξ 20 17 19]
@[simp] def adL:Ω:=[η 7 9]
@[simp] def To:Ω:=[μ 21 7,μ 6 21]
def f242:an:=⟨[.t 6],(.seq (.region MB [0,1,5]) (.seq (.region Vk [0,1,5,7]) (.seq (.seq (.region Z4 [0,1,5,7,11]) (.cond (.t 11) (.region Ox [0,7]) .skip)) (.seq (.seq (.region RB [7,20]) (.cond (.t 20) (.region adL [7]) .skip)) (.seq (.region To [6]) .ret))))),true⟩
@[simp] def Nc:Ω:=[μ 6 0,σ 7 (.ak (.t 6)),φ 8 0 7,ρ 9 8,ν 10 .slice 9,μ 2 10]
@[simp] def aea:Ω:=[μ 11 0,μ 12 0,μ 13 0,μ 14 0,μ 15 2,γ 16 .add 15 1,σ 17 (.bG 1 false 8 [δ] (.t 16) (.t 16)),μ 18 2,γ 19 .add 18 1,σ 20 (.bG 1 false 8 [δ] (.t 19) (.t 19)),μ 21 2,γ 22 .add 21 1,σ 23 (.bG 1 false 8 [δ] (.t 22) (.t 22)),μ 24 2,γ 25 .add 24 1,σ 26 (.bG 1 false 8 [δ] (.t 25) (.t 25)),σ 27 (.ak (.t 11)),φ 28 4 27,ω 1 28 17,σ 29 (.ak (.t 12)),φ 30 5 29,ω 1 30 20,σ 31 (.ak (.t 13)),φ 32 6 31,ω 1 32 23,σ 33 (.ak (.t 14)),φ 34 7 33,ω 1 34 26]
@[simp] def UC:Ω:=[μ 35 0,σ 36 (.ak (.t 35)),φ 37 0 36,ρ 38 37,ν 39 .slice 38,η 40 0]
@[simp] def abR:Ω:=[β 41 .lss 40 39]
@[simp] def aa6:Ω:=[μ 42 40,ι 43 8 38 40,Λ 44 8 43,σ 4 (.alloc [δ,δ,δ,δ,δ,δ,δ,(.bool false)]),μ 3 42,ω 8 4 44]
@[simp] def aaE:Ω:=[φ 45 3 4,ρ 46 45,μ 5 46]
@[simp] def Uh:Ω:=[φ 47 0 4,ρ 48 47,γ 49 .eql 48 3]
@[simp] def Zb:Ω:=[η 5 0]
@[simp] def X6:Ω:=[μ 50 0,σ 51 (.ak (.t 50)),φ 52 4 51,ρ 53 52,μ 54 3,γ 55 .add 54 1,μ 56 0,σ 57 (.ak (.t 56)),φ 58 5 57,ρ 59 58,μ 60 3,γ 61 .add 60 1,μ 62 0,σ 63 (.ak (.t 62)),φ 64 6 63,ρ 65 64,μ 66 3,γ 67 .add 66 1,μ 68 0,σ 69 (.ak (.t 68)),φ 70 4 69,ρ 71 70,μ 72 3,ι 73 1 71 72,ρ 74 73,μ 75 5,β 76 .add 74 75,μ 77 0,σ 78 (.ak (.t 77)),φ 79 5 78,ρ 80 79,μ 81 3,ι 82 1 80 81,ρ 83 82,φ 84 4 4,ρ 85 84,β 86 .add 83 85,μ 87 0,σ 88 (.ak (.t 87)),φ 89 6 88,ρ 90 89,μ 91 3,ι 92 1 90 91,ρ 93 92,φ 94 5 4,ρ 95 94,β 96 .add 93 95,ι 97 1 53 55,ω 1 97 76,ι 98 1 59 61,ω 1 98 86,ι 99 1 65 67,ω 1 99 96]
@[simp] def Lo:Ω:=[μ 100 0,σ 101 (.ak (.t 100)),φ 102 7 101,ρ 103 102,μ 104 3,γ 105 .add 104 1,μ 106 3,γ 107 .add 106 1,ι 108 1 103 105,ω 1 108 107]
@[simp] def I4:Ω:=[φ 109 0 4,ρ 110 109,γ 111 .eql 110 2]
@[simp] def HU:Ω:=[μ 112 0,σ 113 (.ak (.t 112)),φ 114 7 113,ρ 115 114,μ 116 3,γ 117 .add 116 1,μ 118 0,σ 119 (.ak (.t 118)),φ 120 7 119,ρ 121 120,μ 122 3,ι 123 1 121 122,ρ 124 123,ι 125 1 115 117,ω 1 125 124]
@[simp] def DK:Ω:=[γ 126 .add 40 1,μ 40 126]
def U9:RC:=(.seq (.region abR [0,38,39,40,41]) (.seq (.cond (.t 41) .skip (.exit 0)) (.seq (.block 1 (.seq (.region aa6 [0,3,4,38,39,40]) (.seq (.region aaE [0,3,4,5,38,39,40]) (.seq (.seq (.region Uh [0,3,4,5,38,39,40,49]) (.cond (.t 49) (.region Zb [0,3,4,5,38,39,40]) .skip)) (.seq (.au X6 [] [(35,[1]),(45,[1,2])] [0,3,4,38,39,40]) (.seq (.region Lo [0,3,4,38,39,40]) (.seq (.region I4 [0,3,38,39,40,111]) (.cond (.t 111) (.au HU [] [] [0,38,39,40]) .skip)))))))) (.region DK [0,38,39,40]))))
def Yq:RC:=.loop [0,38,39,40] U9
def f243:an:=⟨[],(.seq (.region Nc [0,2]) (.seq (.au aea [6,9,12,15] [] [0]) (.seq (.region UC [0,38,39,40]) (.block 0 Yq)))),false⟩
@[simp] def ND:Ω:=[σ 2 (.mv (.c (.bool false)))]
@[simp] def T3:Ω:=[μ 3 0,σ 4 (.call 246 [(.t 3),(.c (.int .i64 (.negSucc 0)))]),μ 5 0,σ 6 (.ak (.t 5)),φ 7 0 6,ρ 8 7,ν 9 .slice 8,β 10 .eql 4 9,μ 2 10]
def f244:an:=⟨[.t 2],(.seq (.region ND [0]) (.seq (.au T3 [] [(5,[0]),(6,[0])] [2]) .ret)),false⟩
@[simp] def abr:Ω:=[σ 1 (.box 1 (.t 0)),σ 2 (.mv (.c .aD))]
@[simp] def NW:Ω:=[σ 17 .gh,μ 3 17]
@[simp] def UO:Ω:=[ρ 18 1,σ 19 (.call 265 [(.t 18)]),μ 4 19]
@[simp] def Wa:Ω:=[σ 20 (.lit 1 false [δ] 1 [(0,(.c (.int .i64 (.negSucc 0))))]),μ 5 20]
@[simp] def Uw:Ω:=[η 6 0]
@[simp] def Zv:Ω:=[μ 21 5,ν 22 .slice 21,γ 23 .gtr 22 0]
@[simp] def OI:Ω:=[σ 7 (.mv (.c θ))]
@[simp] def OS:Ω:=[μ 26 5,ν 27 .slice 26,η 28 0]
@[simp] def aaQ:Ω:=[β 29 .lss 28 27]
@[simp] def UH:Ω:=[ι 30 1 26 28,ρ 31 30,μ 9 31]
@[simp] def EB:Ω:=[ρ 32 1,μ 33 9,σ 34 (.call 246 [(.t 32),(.t 33)]),μ 10 34]
@[simp] def GK:Ω:=[μ 35 9,γ 36 .add 35 1,μ 11 36]
@[simp] def Ez:Ω:=[μ 37 11,ρ 38 1,σ 39 (.ak (.t 38)),φ 40 0 39,ρ 41 40,ν 42 .slice 41,β 43 .leq 37 42]
@[simp] def JU:Ω:=[μ 46 4,μ 47 46,Μ 48 11 47 true,Μ 49 10 47 true,τ 50 (.bin .gtr (.t 48) (.t 49)) 47 true,ξ 51 47 50,μ 52 51,Ρ 53 1 52 true,Μ 54 10 52 true,Μ 55 11 52 true,Μ 56 6 52 true,τ 57 (.call 266 [(.t 53),(.t 54),(.t 55),(.t 56)]) 52 true,ξ 58 52 57]
@[simp] def Ix:Ω:=[ρ 59 1,μ 60 9,μ 61 11,σ 62 (.call 267 [(.t 59),(.t 60),(.t 61)]),σ 63 (.un .not (.t 62))]
@[simp] def IV:Ω:=[ρ 65 1,μ 66 9,μ 67 11,μ 68 6,σ 69 (.call 268 [(.t 65),(.t 66),(.t 67),(.t 68)]),μ 64 69,ε 70 64 0,ε 71 64 1,μ 12 70,μ 13 71]
@[simp] def FN:Ω:=[μ 72 13,σ 73 (.un .not (.t 72))]
@[simp] def Jl:Ω:=[μ 74 3,μ 75 9,μ 76 6,γ 77 .sub 76 1,σ 78 (.build [δ,δ] [(0,1,(.t 75)),(1,1,(.t 77))]),σ 79 (.lookup [.int,.int] (.agg [δ,δ]) (.t 74) (.t 78) false),σ 80 (.field 1 false 0 (.t 79)),μ 81 12,β 82 .add 80 81,μ 83 9,σ 84 (.build [δ,δ] [(0,1,(.t 82)),(1,1,(.t 83))]),σ 14 (.alloc [δ,δ]),ω 2 14 84]
@[simp] def D7:Ω:=[μ 86 3,μ 87 11,μ 88 6,σ 89 (.build [δ,δ] [(0,1,(.t 87)),(1,1,(.t 88))]),σ 90 (.lookup [.int,.int] (.agg [δ,δ]) (.t 86) (.t 89) true),μ 85 90,ε 91 85 0,ε 92 85 1,σ 15 (.alloc [δ,δ]),ω 2 15 91,μ 16 92]
@[simp] def Jm:Ω:=[μ 93 16,σ 94 (.un .not (.t 93))]
@[simp] def Gy:Ω:=[μ 95 7,μ 96 11,σ 97 (.lit 1 false [δ] 1 [(0,(.t 96))]),σ 98 (.de 1 false 8 (.t 95) (.t 97)),μ 7 98]
@[simp] def HF:Ω:=[μ 99 16,σ 100 (.un .not (.t 99)),μ 101 100,Φ 102 0 14 101 false,Ρ 103 102 101 false,Φ 104 0 15 101 false,Ρ 105 104 101 false,τ 106 (.call 155 [(.t 103),(.t 105)]) 101 false,Φ 107 1 14 101 false,Ρ 108 107 101 false,Φ 109 1 15 101 false,Ρ 110 109 101 false,τ 111 (.call 155 [(.t 108),(.t 110)]) 101 false,τ 112 (.lit 1 false [δ] 2 [(0,(.t 106)),(1,(.t 111))]) 101 false,τ 113 (.call 269 [(.t 112)]) 101 false,τ 114 (.bin .lss (.t 113) (κ 0)) 101 false,ζ 115 101 114]
@[simp] def FT:Ω:=[μ 116 3,μ 117 11,μ 118 6,σ 119 (.build [δ,δ] [(0,1,(.t 117)),(1,1,(.t 118))]),Λ 120 2 14,⟨none,.eD [.int,.int] (.t 116) (.t 119) (.t 120),none⟩]
@[simp] def Hs:Ω:=[μ 44 11,γ 45 .add 44 1,μ 11 45]
def R6:RC:=(.seq (.seq (.region Ez [1,3,4,6,7,9,10,11,26,27,28,43]) (.cond (.t 43) .skip (.exit 4))) (.seq (.block 5 (.seq (.seq (.region JU [1,3,4,6,7,9,10,11,26,27,28,58]) (.cond (.t 58) (.exit 4) .skip)) (.seq (.seq (.region Ix [1,3,4,6,7,9,10,11,26,27,28,63]) (.cond (.t 63) (.exit 5) .skip)) (.seq (.region IV [1,3,4,6,7,9,10,11,12,13,26,27,28]) (.seq (.seq (.region FN [1,3,4,6,7,9,10,11,12,26,27,28,73]) (.cond (.t 73) (.exit 5) .skip)) (.seq (.region Jl [1,3,4,6,7,9,10,11,14,26,27,28]) (.seq (.region D7 [1,3,4,6,7,9,10,11,14,15,16,26,27,28]) (.seq (.seq (.region Jm [1,3,4,6,7,9,10,11,14,15,16,26,27,28,94]) (.cond (.t 94) (.region Gy [1,3,4,6,7,9,10,11,14,15,16,26,27,28]) .skip)) (.seq (.au HF [] [] [1,3,4,6,7,9,10,11,14,26,27,28,115]) (.cond (.t 115) (.region FT [1,3,4,6,7,9,10,11,26,27,28]) .skip)))))))))) (.region Hs [1,3,4,6,7,9,10,11,26,27,28])))
def acy:RC:=.loop [1,3,4,6,7,9,10,11,26,27,28] R6
@[simp] def Hu:Ω:=[γ 121 .add 28 1,μ 28 121]
def Po:RC:=(.seq (.region aaQ [1,3,4,6,7,26,27,28,29]) (.seq (.cond (.t 29) .skip (.exit 2)) (.seq (.block 3 (.seq (.region UH [1,3,4,6,7,9,26,27,28]) (.seq (.region EB [1,3,4,6,7,9,10,26,27,28]) (.seq (.region GK [1,3,4,6,7,9,10,11,26,27,28]) (.block 4 acy))))) (.region Hu [1,3,4,6,7,26,27,28]))))
def adZ:RC:=.loop [1,3,4,6,7,26,27,28] Po
@[simp] def G7:Ω:=[μ 122 7,σ 123 (.fF 271 [] [(.t 1)]),σ 124 (.call 270 [(.t 122),(.t 123)]),μ 5 124]
@[simp] def Gd:Ω:=[μ 125 5,σ 126 (.call 272 [(.t 125)])]
@[simp] def Fs:Ω:=[μ 24 6,γ 25 .add 24 1,μ 6 25]
def ad9:RC:=(.seq (.seq (.region Zv [1,3,4,5,6,23]) (.cond (.t 23) .skip (.exit 0))) (.seq (.block 1 (.seq (.region OI [1,3,4,5,6,7]) (.seq (.seq (.region OS [1,3,4,6,7,26,27,28]) (.block 2 adZ)) (.seq (.region G7 [1,3,4,5,6]) (.region Gd [1,3,4,5,6]))))) (.region Fs [1,3,4,5,6])))
def ZB:RC:=.loop [1,3,4,5,6] ad9
@[simp] def Jf:Ω:=[μ 127 3,μ 2 127]
def f245:an:=⟨[.t 2],(.seq (.region abr [1]) (.seq (.region NW [1,3]) (.seq (.region UO [1,3,4]) (.seq (.region Wa [1,3,4,5]) (.seq (.seq (.region Uw [1,3,4,5,6]) (.block 0 ZB)) (.seq (.region Jf [2]) .ret)))))),false⟩
@[simp] def VX:Ω:=[η 4 0]
@[simp] def L7:Ω:=[μ 5 1,γ 6 .lss 5 0]
@[simp] def Lg:Ω:=[η 1 0]
@[simp] def Y3:Ω:=[μ 7 1,μ 8 0,σ 9 (.ak (.t 8)),φ 10 0 9,ρ 11 10,ν 12 .slice 11,β 13 .lss 7 12,μ 14 13,Μ 15 0 14 true,τ 16 (.ak (.t 15)) 14 true,Φ 17 0 16 14 true,Ρ 18 17 14 true,Μ 19 1 14 true,τ 20 (.aJ 8 (.t 18) (.t 19)) 14 true,Φ 21 0 20 14 true,Ρ 22 21 14 true,τ 23 (.bin .eql (.t 22) (κ 3)) 14 true,ξ 24 14 23]
@[simp] def abp:Ω:=[μ 25 1,γ 26 .add 25 1,μ 1 26]
@[simp] def aaN:Ω:=[μ 27 1,μ 28 0,σ 29 (.ak (.t 28)),φ 30 0 29,ρ 31 30,ν 32 .slice 31,β 33 .lss 27 32,μ 34 33,Μ 35 0 34 true,τ 36 (.ak (.t 35)) 34 true,Φ 37 0 36 34 true,Ρ 38 37 34 true,Μ 39 1 34 true,τ 40 (.aJ 8 (.t 38) (.t 39)) 34 true,Φ 41 0 40 34 true,Ρ 42 41 34 true,τ 43 (.bin .eql (.t 42) (κ 2)) 34 true,ξ 44 34 43]
@[simp] def N6:Ω:=[μ 45 1,γ 46 .add 45 1,μ 1 46]
def abE:RC:=(.seq (.seq (.region aaN [0,1,44]) (.cond (.t 44) .skip (.exit 0))) (.block 1 (.region N6 [0,1])))
def Xu:RC:=.loop [0,1] abE
@[simp] def Oj:Ω:=[μ 47 1,μ 4 47]
def f246:an:=⟨[.t 4],(.seq (.region VX [0,1]) (.seq (.seq (.region L7 [0,1,6]) (.cond (.t 6) (.region Lg [0,1]) (.seq (.region Y3 [0,1,24]) (.cond (.t 24) (.region abp [0,1]) .skip)))) (.seq (.block 0 Xu) (.seq (.region Oj [4]) .ret)))),false⟩
@[simp] def aaB:Ω:=[η 6 0]
@[simp] def Oh:Ω:=[μ 8 0,σ 9 (.ak (.t 8)),φ 10 4 9,ρ 11 10,μ 12 0,σ 13 (.ak (.t 12)),φ 14 7 13,ρ 15 14,μ 16 2,ι 17 1 15 16,ρ 18 17,μ 19 1,σ 20 (.max [(.t 18),(.t 19)]),ι 21 1 11 20,ρ 22 21,μ 23 0,σ 24 (.ak (.t 23)),φ 25 4 24,ρ 26 25,μ 27 1,ι 28 1 26 27,ρ 29 28,β 30 .sub 22 29,μ 7 30]
@[simp] def ZW:Ω:=[μ 31 2,μ 32 0,σ 33 (.ak (.t 32)),φ 34 0 33,ρ 35 34,ν 36 .slice 35,β 37 .lss 31 36,μ 38 37,Μ 39 0 38 true,τ 40 (.ak (.t 39)) 38 true,Φ 41 0 40 38 true,Ρ 42 41 38 true,Μ 43 2 38 true,τ 44 (.aJ 8 (.t 42) (.t 43)) 38 true,Φ 45 0 44 38 true,Ρ 46 45 38 true,τ 47 (.bin .eql (.t 46) (κ 3)) 38 true,ξ 48 38 47]
@[simp] def Ss:Ω:=[μ 49 7,μ 50 0,σ 51 (.ak (.t 50)),φ 52 0 51,ρ 53 52,μ 54 2,ι 55 8 53 54,φ 56 3 55,ρ 57 56,β 58 .add 49 57,μ 7 58]
@[simp] def Zk:Ω:=[μ 59 7,μ 6 59]
def f247:an:=⟨[.t 6],(.seq (.region aaB [0,1,2]) (.seq (.au Oh [] [] [0,2,7]) (.seq (.seq (.region ZW [0,2,7,48]) (.cond (.t 48) (.region Ss [7]) .skip)) (.seq (.region Zk [6]) .ret)))),false⟩
@[simp] def LQ:Ω:=[σ 4 (.mv (.c (.bool false)))]
@[simp] def aet:Ω:=[μ 5 1,γ 6 .geq 5 0,μ 7 6,Μ 8 1 7 true,Μ 9 0 7 true,τ 10 (.ak (.t 9)) 7 true,Φ 11 0 10 7 true,Ρ 12 11 7 true,τ 13 (.len .slice (.t 12)) 7 true,τ 14 (.bin .lss (.t 8) (.t 13)) 7 true,ξ 15 7 14,μ 16 15,Μ 17 0 16 true,τ 18 (.ak (.t 17)) 16 true,Φ 19 0 18 16 true,Ρ 20 19 16 true,Μ 21 1 16 true,τ 22 (.aJ 8 (.t 20) (.t 21)) 16 true,Φ 23 0 22 16 true,Ρ 24 23 16 true,τ 25 (.bin .eql (.t 24) (κ 3)) 16 true,ξ 26 16 25,μ 27 26,Μ 28 0 27 true,τ 29 (.ak (.t 28)) 27 true,Φ 30 0 29 27 true,Ρ 31 30 27 true,Μ 32 1 27 true,τ 33 (.aJ 8 (.t 31) (.t 32)) 27 true,Φ 34 7 33 27 true,Ρ 35 34 27 true,ξ 36 27 35,μ 4 36]
def f248:an:=⟨[.t 4],(.seq (.region LQ [0,1]) (.seq (.region aet [4]) .ret)),false⟩
@[simp] def SR:Ω:=[μ 4 0,ν 5 .slice 4,γ 6 .sub 5 1,η 2 0,μ 3 6]
@[simp] def OH:Ω:=[μ 7 2,μ 8 3,β 9 .lss 7 8]
@[simp] def aaR:Ω:=[μ 14 0,μ 15 2,μ 16 0,μ 17 3,μ 18 0,μ 19 3,ι 20 5 18 19,Λ 21 5 20,μ 22 0,μ 23 2,ι 24 5 22 23,Λ 25 5 24,ι 26 5 14 15,ω 5 26 21,ι 27 5 16 17,ω 5 27 25]
@[simp] def Q3:Ω:=[μ 10 2,γ 11 .add 10 1,μ 12 3,γ 13 .sub 12 1,μ 2 11,μ 3 13]
def RS:RC:=(.seq (.seq (.region OH [0,2,3,9]) (.cond (.t 9) .skip (.exit 0))) (.seq (.block 1 (.au aaR [] [] [0,2,3])) (.region Q3 [0,2,3])))
def Rs:RC:=.loop [0,2,3] RS
def f249:an:=⟨[],(.seq (.region SR [0,2,3]) (.block 0 Rs)),false⟩
@[simp] def NX:Ω:=[σ 2 (.mv (.c (.bool false)))]
@[simp] def Mr:Ω:=[μ 3 0,σ 4 (.ak (.t 3)),φ 5 0 4,ρ 6 5,σ 7 (.call 275 [(.t 6),(.f 276)]),σ 8 (.un .not (.t 7)),μ 2 8]
def f265:an:=⟨[.t 2],(.seq (.region NX [0]) (.seq (.region Mr [2]) .ret)),false⟩
@[simp] def acB:Ω:=[σ 8 (.mv (.c (.bool false)))]
@[simp] def Zf:Ω:=[μ 10 0,σ 11 (.ak (.t 10)),φ 12 7 11,ρ 13 12,μ 14 2,ι 15 1 13 14,ρ 16 15,μ 17 1,σ 18 (.max [(.t 16),(.t 17)]),μ 9 18]
@[simp] def Yh:Ω:=[μ 19 0,σ 20 (.ak (.t 19)),φ 21 4 20,ρ 22 21,μ 23 9,ι 24 1 22 23,ρ 25 24,μ 26 0,σ 27 (.ak (.t 26)),φ 28 4 27,ρ 29 28,μ 30 1,ι 31 1 29 30,ρ 32 31,β 33 .sub 25 32,μ 34 0,σ 35 (.ak (.t 34)),φ 36 6 35,ρ 37 36,μ 38 9,ι 39 1 37 38,ρ 40 39,μ 41 0,σ 42 (.ak (.t 41)),φ 43 6 42,ρ 44 43,μ 45 1,ι 46 1 44 45,ρ 47 46,β 48 .sub 40 47,β 49 .sub 33 48,μ 50 0,σ 51 (.ak (.t 50)),φ 52 1 51,ρ 53 52,μ 54 0,σ 55 (.ak (.t 54)),φ 56 2 55,Λ 57 2 56,μ 58 3,σ 59 (.call 114 [(.t 53),(.t 57),(.t 58)]),σ 60 (.field 1 false 1 (.t 59)),β 61 .gtr 49 60,μ 8 61]
def f266:an:=⟨[.t 8],(.seq (.region acB [0,1,2,3]) (.seq (.region Zf [0,1,3,9]) (.seq (.au Yh [] [] [8]) .ret))),false⟩
@[simp] def S0:Ω:=[σ 6 (.mv (.c (.bool false)))]
@[simp] def adi:Ω:=[μ 8 0,μ 9 1,σ 10 (.call 246 [(.t 8),(.t 9)]),μ 7 10]
@[simp] def Qh:Ω:=[μ 11 2,μ 12 0,σ 13 (.ak (.t 12)),φ 14 0 13,ρ 15 14,ν 16 .slice 15,β 17 .eql 11 16]
@[simp] def aao:Ω:=[μ 18 7,μ 19 2,β 20 .lss 18 19,μ 21 20,Μ 22 0 21 false,τ 23 (.call 244 [(.t 22)]) 21 false,Μ 24 23 21 false,Μ 25 1 24 true,τ 26 (.bin .lss (.t 25) (κ 0)) 24 true,τ 27 (.pick (.t 24) (.t 26) (.c (.bool false))) 21 false,ζ 28 21 27,μ 6 28]
@[simp] def Wk:Ω:=[μ 29 0,μ 30 2,σ 31 (.call 277 [(.t 29),(.t 30)]),μ 32 31,Μ 33 2 32 true,Μ 34 7 32 true,τ 35 (.bin .gtr (.t 33) (.t 34)) 32 true,ξ 36 32 35,μ 37 36,Μ 38 0 37 true,Μ 39 2 37 true,τ 40 (.call 246 [(.t 38),(.t 39)]) 37 true,Μ 41 0 37 true,τ 42 (.ak (.t 41)) 37 true,Φ 43 0 42 37 true,Ρ 44 43 37 true,τ 45 (.len .slice (.t 44)) 37 true,τ 46 (.bin .lss (.t 40) (.t 45)) 37 true,ξ 47 37 46,μ 6 47]
def f267:an:=⟨[.t 6],(.seq (.region S0 [0,1,2]) (.seq (.region adi [0,1,2,7]) (.seq (.seq (.region Qh [0,1,2,7,17]) (.cond (.t 17) (.seq (.region aao [6]) .ret) .skip)) (.seq (.au Wk [] [(15,[1]),(16,[1])] [6]) .ret)))),false⟩
@[simp] def abA:Ω:=[η 8 0,σ 9 (.mv (.c (.bool false)))]
@[simp] def Lj:Ω:=[μ 16 0,μ 17 0,μ 18 1,σ 19 (.call 246 [(.t 17),(.t 18)]),μ 20 2,μ 21 3,σ 22 (.call 278 [(.t 16),(.t 19),(.t 20),(.t 21)]),μ 15 22,ε 23 15 0,ε 24 15 1,μ 10 23,μ 11 24]
@[simp] def ZV:Ω:=[μ 25 11,σ 26 (.un .not (.t 25))]
@[simp] def adW:Ω:=[η 8 0,σ 9 (.mv (.c (.bool false)))]
@[simp] def ad2:Ω:=[η 12 0]
@[simp] def RW:Ω:=[μ 27 2,μ 28 0,σ 29 (.ak (.t 28)),φ 30 0 29,ρ 31 30,ν 32 .slice 31,β 33 .lss 27 32,μ 34 33,Μ 35 0 34 true,τ 36 (.ak (.t 35)) 34 true,Φ 37 0 36 34 true,Ρ 38 37 34 true,Μ 39 2 34 true,τ 40 (.aJ 8 (.t 38) (.t 39)) 34 true,Φ 41 0 40 34 true,Ρ 42 41 34 true,τ 43 (.bin .eql (.t 42) (κ 3)) 34 true,ξ 44 34 43]
@[simp] def T5:Ω:=[μ 45 0,σ 46 (.ak (.t 45)),φ 47 0 46,ρ 48 47,μ 49 2,ι 50 8 48 49,φ 51 6 50,ρ 52 51,μ 12 52]
@[simp] def aai:Ω:=[μ 53 10,μ 54 10,β 55 .mul 53 54,γ 56 .quo 55 1000,σ 57 (.bin .add (κ 10) (.t 56)),μ 58 12,β 59 .add 57 58,μ 13 59]
@[simp] def ac3:Ω:=[μ 60 13,μ 61 13,β 62 .mul 60 61,μ 14 62]
@[simp] def Zw:Ω:=[μ 63 0,μ 64 1,σ 65 (.call 248 [(.t 63),(.t 64)]),μ 66 65,Μ 67 0 66 true,Μ 68 2 66 true,τ 69 (.call 248 [(.t 67),(.t 68)]) 66 true,ξ 70 66 69]
@[simp] def JH:Ω:=[μ 71 14,γ 72 .add 71 10000,μ 14 72]
@[simp] def Il:Ω:=[μ 73 14,μ 8 73,σ 9 (.mv (.c (.bool true)))]
def f268:an:=⟨[.t 8,.t 9],(.seq (.region abA [0,1,2,3]) (.seq (.region Lj [0,1,2,10,11]) (.seq (.seq (.region ZV [0,1,2,10,26]) (.cond (.t 26) (.seq (.region adW [8,9]) .ret) .skip)) (.seq (.region ad2 [0,1,2,10,12]) (.seq (.seq (.region RW [0,1,2,10,12,44]) (.cond (.t 44) (.region T5 [0,1,2,10,12]) .skip)) (.seq (.region aai [0,1,2,13]) (.seq (.region ac3 [0,1,2,14]) (.seq (.seq (.region Zw [14,70]) (.cond (.t 70) (.region JH [14]) .skip)) (.seq (.region Il [8,9]) .ret))))))))),false⟩
@[simp] def adE:Ω:=[η 2 0]
@[simp] def NL:Ω:=[η 3 0]
@[simp] def acA:Ω:=[μ 6 0,ν 7 .slice 6,η 8 0]
@[simp] def adX:Ω:=[β 9 .lss 8 7]
@[simp] def XN:Ω:=[ι 10 1 6 8,ρ 11 10,μ 5 11]
@[simp] def TR:Ω:=[μ 12 5,μ 13 3,β 14 .neq 12 13]
@[simp] def S6:Ω:=[μ 15 5,μ 2 15]
@[simp] def RA:Ω:=[γ 16 .add 8 1,μ 8 16]
def U8:RC:=(.seq (.region adX [3,6,7,8,9]) (.seq (.cond (.t 9) .skip (.exit 0)) (.seq (.block 1 (.seq (.region XN [3,5,6,7,8]) (.seq (.region TR [3,5,6,7,8,14]) (.cond (.t 14) (.seq (.region S6 [2]) .ret) .skip)))) (.region RA [3,6,7,8]))))
def SV:RC:=.loop [3,6,7,8] U8
@[simp] def ZJ:Ω:=[μ 17 3,μ 2 17]
def f269:an:=⟨[.t 2],(.seq (.region adE [0]) (.seq (.region NL [0,3]) (.seq (.seq (.region acA [3,6,7,8]) (.block 0 SV)) (.seq (.region ZJ [2]) .ret)))),true⟩
@[simp] def Zl:Ω:=[σ 4 (.mv (.c θ))]
@[simp] def YG:Ω:=[μ 8 0,μ 9 1,σ 10 (.call 279 [(.t 8),(.t 9)]),μ 5 10]
@[simp] def R1:Ω:=[μ 11 5,σ 12 (.bin .eql (.t 11) (.c (.int .i64 (.negSucc 0))))]
@[simp] def acD:Ω:=[μ 13 0,μ 4 13]
@[simp] def aa8:Ω:=[μ 14 5,γ 15 .add 14 1,μ 6 15]
@[simp] def abQ:Ω:=[μ 16 6,μ 17 0,ν 18 .slice 17,β 19 .lss 16 18]
@[simp] def ab0:Ω:=[μ 22 0,μ 23 6,ι 24 1 22 23,ρ 25 24,μ 7 25]
@[simp] def LI:Ω:=[μ 26 1,μ 27 7,σ 28 (.br (.t 26) [(.t 27)]),σ 29 (.un .not (.t 28))]
@[simp] def UK:Ω:=[μ 30 0,μ 31 5,μ 32 7,ι 33 1 30 31,ω 1 33 32]
@[simp] def M3:Ω:=[μ 34 5,γ 35 .add 34 1,μ 5 35]
@[simp] def HP:Ω:=[μ 20 6,γ 21 .add 20 1,μ 6 21]
def ZS:RC:=(.seq (.seq (.region abQ [0,1,5,6,19]) (.cond (.t 19) .skip (.exit 0))) (.seq (.block 1 (.seq (.region ab0 [0,1,5,6,7]) (.seq (.region LI [0,1,5,6,7,29]) (.cond (.t 29) (.seq (.region UK [0,1,5,6]) (.region M3 [0,1,5,6])) .skip)))) (.region HP [0,1,5,6])))
def acq:RC:=.loop [0,1,5,6] ZS
@[simp] def Io:Ω:=[μ 36 0,μ 37 5,σ 38 (.slice false 1 (.t 36) (some (.t 37)) none none),⟨none,.clear 1 [δ] (.t 38),none⟩]
@[simp] def JG:Ω:=[μ 39 0,μ 40 5,σ 41 (.slice false 1 (.t 39) none (some (.t 40)) none),μ 4 41]
def f270:an:=⟨[.t 4],(.seq (.region Zl [0,1]) (.seq (.region YG [0,1,5]) (.seq (.seq (.region R1 [0,1,5,12]) (.cond (.t 12) (.seq (.region acD [4]) .ret) .skip)) (.seq (.seq (.region aa8 [0,1,5,6]) (.block 0 acq)) (.seq (.region Io [0,5]) (.seq (.region JG [4]) .ret)))))),false⟩
@[simp] def SY:Ω:=[σ 3 (.mv (.c (.bool false)))]
@[simp] def abT:Ω:=[μ 4 0,ρ 5 1,σ 6 (.ak (.t 5)),φ 7 0 6,ρ 8 7,ν 9 .slice 8,β 10 .eql 4 9,μ 3 10]
def f271:an:=⟨[.t 3],(.seq (.region SY [0,1]) (.seq (.region abT [3]) .ret)),false⟩
@[simp] def NJ:Ω:=[μ 3 0,ν 4 .slice 3,μ 2 4]
@[simp] def Va:Ω:=[μ 5 0,μ 6 2,μ 7 2,σ 8 (.i2i .u64 (.t 7)),σ 9 (.call 281 [(.t 8)]),σ 10 (.call 280 [(.t 5),(κ 0),(.t 6),(.t 9)])]
def f272:an:=⟨[],(.seq (.region NJ [0,2]) (.region Va [])),true⟩
@[simp] def aal:Ω:=[σ 4 (.mv (.c (.bool false)))]
@[simp] def RD:Ω:=[μ 5 0,μ 6 1,σ 7 (.call 282 [(.t 5),(.t 6)]),γ 8 .geq 7 0,μ 4 8]
def f275:an:=⟨[.t 4],(.seq (.region aal [0,1]) (.seq (.region RD [4]) .ret)),false⟩
@[simp] def So:Ω:=[σ 1 (.box 8 (.t 0)),σ 2 (.mv (.c (.bool false)))]
@[simp] def Ol:Ω:=[φ 3 5 1,ρ 4 3,φ 5 3 1,ρ 6 5,β 7 .gtr 4 6,μ 2 7]
def f276:an:=⟨[.t 2],(.seq (.region So [1]) (.seq (.region Ol [2]) .ret)),true⟩
@[simp] def Ly:Ω:=[σ 4 (.mv (.c (.bool false)))]
@[simp] def UD:Ω:=[μ 5 1,μ 6 0,σ 7 (.ak (.t 6)),φ 8 0 7,ρ 9 8,ν 10 .slice 9,β 11 .eql 5 10,μ 12 11,Μ 13 0 12 false,τ 14 (.ak (.t 13)) 12 false,Φ 15 0 14 12 false,Ρ 16 15 12 false,Μ 17 1 12 false,τ 18 (.aJ 8 (.t 16) (.t 17)) 12 false,Φ 19 0 18 12 false,Ρ 20 19 12 false,τ 21 (.bin .eql (.t 20) (κ 3)) 12 false,ζ 22 12 21]
@[simp] def acm:Ω:=[σ 4 (.mv (.c (.bool true)))]
@[simp] def Xd:Ω:=[μ 23 0,σ 24 (.ak (.t 23)),φ 25 0 24,ρ 26 25,μ 27 1,ι 28 8 26 27,φ 29 0 28,ρ 30 29,γ 31 .eql 30 2,μ 32 31,Μ 33 1 32 true,τ 34 (.bin .gtr (.t 33) (κ 0)) 32 true,ξ 35 32 34,μ 36 35,Μ 37 0 36 true,τ 38 (.ak (.t 37)) 36 true,Φ 39 0 38 36 true,Ρ 40 39 36 true,Μ 41 1 36 true,τ 42 (.bin .sub (.t 41) (κ 1)) 36 true,τ 43 (.aJ 8 (.t 40) (.t 42)) 36 true,Φ 44 0 43 36 true,Ρ 45 44 36 true,τ 46 (.bin .neq (.t 45) (κ 2)) 36 true,ξ 47 36 46,μ 4 47]
def f277:an:=⟨[.t 4],(.seq (.region Ly [0,1]) (.seq (.seq (.region UD [0,1,22]) (.cond (.t 22) (.seq (.region acm [4]) .ret) .skip)) (.seq (.region Xd [4]) .ret))),false⟩
@[simp] def RM:Ω:=[η 8 0,σ 9 (.mv (.c (.bool false)))]
@[simp] def P8:Ω:=[μ 17 0,μ 18 1,μ 19 2,σ 20 (.call 247 [(.t 17),(.t 18),(.t 19)]),μ 21 0,σ 22 (.ak (.t 21)),φ 23 1 22,ρ 24 23,μ 25 0,σ 26 (.ak (.t 25)),φ 27 2 26,Λ 28 2 27,μ 29 3,σ 30 (.call 114 [(.t 24),(.t 28),(.t 29)]),σ 31 (.field 1 false 1 (.t 30)),μ 10 20,μ 11 31]
@[simp] def ab3:Ω:=[μ 32 0,σ 33 (.ak (.t 32)),φ 34 7 33,ρ 35 34,μ 36 2,ι 37 1 35 36,ρ 38 37,μ 39 1,σ 40 (.max [(.t 38),(.t 39)]),μ 12 40]
@[simp] def Ul:Ω:=[μ 42 10,μ 43 11,β 44 .eql 42 43,μ 41 44]
@[simp] def Yw:Ω:=[μ 45 10,μ 46 11,β 47 .lss 45 46,μ 48 47,Μ 49 2 48 true,Μ 50 0 48 true,τ 51 (.ak (.t 50)) 48 true,Φ 52 0 51 48 true,Ρ 53 52 48 true,τ 54 (.len .slice (.t 53)) 48 true,τ 55 (.bin .eql (.t 49) (.t 54)) 48 true,ξ 56 48 55,μ 41 56]
@[simp] def aex:Ω:=[η 8 0,σ 9 (.mv (.c (.bool true)))]
@[simp] def ab8:Ω:=[μ 58 10,μ 59 11,β 60 .lss 58 59,μ 57 60]
@[simp] def aes:Ω:=[μ 61 0,σ 62 (.ak (.t 61)),φ 63 5 62,ρ 64 63,μ 65 12,ι 66 1 64 65,ρ 67 66,μ 68 0,σ 69 (.ak (.t 68)),φ 70 5 69,ρ 71 70,μ 72 1,ι 73 1 71 72,ρ 74 73,β 75 .sub 67 74,μ 13 75]
@[simp] def Tc:Ω:=[μ 76 13,γ 77 .eql 76 0]
@[simp] def ac1:Ω:=[η 8 0,σ 9 (.mv (.c (.bool false)))]
@[simp] def F9:Ω:=[μ 78 11,μ 79 10,β 80 .sub 78 79,σ 81 (.bin .mul (κ 1000) (.t 80)),μ 82 13,β 83 .quo 81 82,μ 14 83]
@[simp] def Hc:Ω:=[μ 84 14,μ 85 14,γ 86 .leq 85 3000,μ 8 84,μ 9 86]
@[simp] def GW:Ω:=[μ 87 0,σ 88 (.ak (.t 87)),φ 89 6 88,ρ 90 89,μ 91 12,ι 92 1 90 91,ρ 93 92,μ 94 0,σ 95 (.ak (.t 94)),φ 96 6 95,ρ 97 96,μ 98 1,ι 99 1 97 98,ρ 100 99,β 101 .sub 93 100,μ 15 101]
@[simp] def HN:Ω:=[μ 102 15,γ 103 .eql 102 0]
@[simp] def DG:Ω:=[η 8 0,σ 9 (.mv (.c (.bool false)))]
@[simp] def IH:Ω:=[μ 104 10,μ 105 11,β 106 .sub 104 105,σ 107 (.bin .mul (κ 1000) (.t 106)),μ 108 15,β 109 .quo 107 108,μ 16 109]
@[simp] def DH:Ω:=[μ 110 16,μ 111 16,γ 112 .leq 111 1000,μ 8 110,μ 9 112]
def f278:an:=⟨[.t 8,.t 9],(.seq (.region RM [0,1,2,3]) (.seq (.au P8 [] [(7,[0]),(11,[0])] [0,1,2,10,11]) (.seq (.region ab3 [0,1,2,10,11,12]) (.seq (.block 0 (.seq (.seq (.region Ul [0,1,2,10,11,12,41]) (.cond (.t 41) .skip (.region Yw [0,1,10,11,12,41]))) (.cond (.t 41) (.seq (.region aex [8,9]) .ret) (.seq (.region ab8 [0,1,10,11,12,57]) (.cond (.t 57) (.seq (.au aes [] [] [10,11,13]) (.seq (.seq (.region Tc [10,11,13,77]) (.cond (.t 77) (.seq (.region ac1 [8,9]) .ret) .skip)) (.seq (.region F9 [14]) (.seq (.region Hc [8,9]) .ret)))) .skip))))) (.seq (.au GW [] [] [10,11,15]) (.seq (.seq (.region HN [10,11,15,103]) (.cond (.t 103) (.seq (.region DG [8,9]) .ret) .skip)) (.seq (.region IH [16]) (.seq (.region DH [8,9]) .ret)))))))),false⟩
@[simp] def X9:Ω:=[η 4 0]
@[simp] def adh:Ω:=[μ 6 0,ν 7 .slice 6,η 8 0]
@[simp] def adg:Ω:=[β 9 .lss 8 7]
@[simp] def YA:Ω:=[μ 10 8,μ 5 10]
@[simp] def aac:Ω:=[μ 11 1,μ 12 0,μ 13 5,ι 14 1 12 13,ρ 15 14,σ 16 (.br (.t 11) [(.t 15)])]
@[simp] def aev:Ω:=[μ 17 5,μ 4 17]
@[simp] def Z0:Ω:=[γ 18 .add 8 1,μ 8 18]
def UR:RC:=(.seq (.region adg [0,1,7,8,9]) (.seq (.cond (.t 9) .skip (.exit 0)) (.seq (.block 1 (.seq (.region YA [0,1,5,7,8]) (.seq (.region aac [0,1,5,7,8,16]) (.cond (.t 16) (.seq (.region aev [4]) .ret) .skip)))) (.region Z0 [0,1,7,8]))))
def Yg:RC:=.loop [0,1,7,8] UR
@[simp] def N7:Ω:=[σ 4 (.mv (.c (.int .i64 (.negSucc 0))))]
def f279:an:=⟨[.t 4],(.seq (.region X9 [0,1]) (.seq (.seq (.region adh [0,1,7,8]) (.block 0 Yg)) (.seq (.region N7 [4]) .ret))),false⟩
@[simp] def Y6:Ω:=[σ 8 (.mv (.c (.bool true)))]
@[simp] def Ve:Ω:=[σ 9 (.mv (.c (.bool true)))]
@[simp] def acM:Ω:=[μ 19 2,μ 20 1,β 21 .sub 19 20,μ 10 21]
@[simp] def Sq:Ω:=[μ 22 10,γ 23 .leq 22 12]
@[simp] def Pn:Ω:=[μ 24 0,μ 25 1,μ 26 2,σ 27 (.call 283 [(.t 24),(.t 25),(.t 26)])]
@[simp] def adN:Ω:=[μ 28 3,γ 29 .eql 28 0]
@[simp] def Tw:Ω:=[μ 30 0,μ 31 1,μ 32 2,σ 33 (.call 284 [(.t 30),(.t 31),(.t 32)])]
@[simp] def MI:Ω:=[μ 34 8,σ 35 (.un .not (.t 34))]
@[simp] def Ov:Ω:=[μ 36 0,μ 37 1,μ 38 2,σ 39 (.call 285 [(.t 36),(.t 37),(.t 38)])]
@[simp] def QK:Ω:=[μ 40 3,γ 41 .sub 40 1,μ 3 41]
@[simp] def DT:Ω:=[μ 43 0,μ 44 1,μ 45 2,σ 46 (.call 286 [(.t 43),(.t 44),(.t 45)]),μ 42 46,ε 47 42 0,ε 48 42 1,μ 11 47,μ 12 48]
@[simp] def Ku:Ω:=[μ 49 12,γ 50 .eql 49 2]
@[simp] def Hq:Ω:=[μ 51 0,μ 52 1,μ 53 2,σ 54 (.call 287 [(.t 51),(.t 52),(.t 53)])]
@[simp] def Ka:Ω:=[μ 55 2,γ 56 .sub 55 1,μ 57 11,μ 58 1,β 59 .sub 57 58,β 60 .sub 56 59,μ 11 60]
@[simp] def Jt:Ω:=[η 12 1]
@[simp] def G6:Ω:=[μ 61 8,μ 62 61,Μ 63 9 62 true,ξ 64 62 63,μ 65 64,Μ 66 12 65 true,τ 67 (.bin .eql (.t 66) (κ 1)) 65 true,ξ 68 65 67]
@[simp] def Fi:Ω:=[μ 69 0,μ 70 1,μ 71 2,σ 72 (.call 288 [(.t 69),(.t 70),(.t 71)])]
@[simp] def FL:Ω:=[μ 73 1,γ 74 .gtr 73 0,μ 75 74,Μ 76 0 75 true,Μ 77 1 75 true,τ 78 (.bin .sub (.t 77) (κ 1)) 75 true,τ 79 (.aJ 1 (.t 76) (.t 78)) 75 true,Ρ 80 79 75 true,Μ 81 0 75 true,Μ 82 11 75 true,τ 83 (.aJ 1 (.t 81) (.t 82)) 75 true,Ρ 84 83 75 true,τ 85 (.call 289 [(.t 80),(.t 84)]) 75 true,τ 86 (.un .not (.t 85)) 75 true,ξ 87 75 86]
@[simp] def HE:Ω:=[μ 88 0,μ 89 1,μ 90 2,μ 91 11,σ 92 (.call 290 [(.t 88),(.t 89),(.t 90),(.t 91)]),μ 13 92]
@[simp] def EH:Ω:=[μ 93 13,μ 1 93]
@[simp] def HJ:Ω:=[μ 95 0,μ 96 1,μ 97 2,μ 98 11,σ 99 (.call 291 [(.t 95),(.t 96),(.t 97),(.t 98)]),μ 94 99,ε 100 94 0,ε 101 94 1,μ 14 100,μ 15 101]
@[simp] def IS:Ω:=[μ 102 15,μ 9 102]
@[simp] def HK:Ω:=[μ 103 14,μ 104 1,β 105 .sub 103 104,μ 106 2,μ 107 14,β 108 .sub 106 107,μ 16 105,μ 17 108]
@[simp] def J9:Ω:=[μ 109 10,γ 110 .quo 109 8,μ 18 110]
@[simp] def Hl:Ω:=[μ 111 16,μ 112 17,β 113 .lss 111 112]
@[simp] def HC:Ω:=[μ 114 16,μ 115 18,β 116 .geq 114 115,μ 8 116]
@[simp] def EU:Ω:=[μ 117 0,μ 118 1,μ 119 14,μ 120 3,σ 121 (.call 280 [(.t 117),(.t 118),(.t 119),(.t 120)])]
@[simp] def E8:Ω:=[μ 122 14,γ 123 .add 122 1,μ 1 123]
@[simp] def Im:Ω:=[μ 124 17,μ 125 18,β 126 .geq 124 125,μ 8 126]
@[simp] def GI:Ω:=[μ 127 0,μ 128 14,γ 129 .add 128 1,μ 130 2,μ 131 3,σ 132 (.call 280 [(.t 127),(.t 129),(.t 130),(.t 131)])]
@[simp] def Fb:Ω:=[μ 133 14,μ 2 133]
def Vh:RC:=(.block 1 (.seq (.region acM [0,1,2,3,8,9,10]) (.seq (.seq (.region Sq [0,1,2,3,8,9,10,23]) (.cond (.t 23) (.seq (.region Pn []) .ret) .skip)) (.seq (.seq (.region adN [0,1,2,3,8,9,10,29]) (.cond (.t 29) (.seq (.region Tw []) .ret) .skip)) (.seq (.seq (.region MI [0,1,2,3,8,9,10,35]) (.cond (.t 35) (.seq (.region Ov [0,1,2,3,8,9,10]) (.region QK [0,1,2,3,8,9,10])) .skip)) (.seq (.region DT [0,1,2,3,8,9,10,11,12]) (.seq (.seq (.region Ku [0,1,2,3,8,9,10,11,12,50]) (.cond (.t 50) (.seq (.region Hq [0,1,2,3,8,9,10,11]) (.seq (.region Ka [0,1,2,3,8,9,10,11]) (.region Jt [0,1,2,3,8,9,10,11,12]))) .skip)) (.seq (.seq (.region G6 [0,1,2,3,8,9,10,11,68]) (.cond (.t 68) (.seq (.region Fi [0,1,2,3,8,9,10,11,72]) (.cond (.t 72) .ret .skip)) .skip)) (.seq (.seq (.au FL [] [] [0,1,2,3,8,9,10,11,87]) (.cond (.t 87) (.seq (.region HE [0,2,3,8,9,13]) (.seq (.region EH [0,1,2,3,8,9]) (.exit 1))) .skip)) (.seq (.region HJ [0,1,2,3,10,14,15]) (.seq (.region IS [0,1,2,3,9,10,14]) (.seq (.region HK [0,1,2,3,9,10,14,16,17]) (.seq (.region J9 [0,1,2,3,9,14,16,17,18]) (.seq (.region Hl [0,1,2,3,9,14,16,17,18,113]) (.cond (.t 113) (.seq (.region HC [0,1,2,3,8,9,14]) (.seq (.region EU [0,2,3,8,9,14]) (.region E8 [0,1,2,3,8,9]))) (.seq (.region Im [0,1,2,3,8,9,14]) (.seq (.region GI [0,1,3,8,9,14]) (.region Fb [0,1,2,3,8,9]))))))))))))))))))
def P6:RC:=.loop [0,1,2,3,8,9] Vh
def f280:an:=⟨[],(.seq (.region Y6 [0,1,2,3,8]) (.seq (.region Ve [0,1,2,3,8,9]) (.block 0 P6))),true⟩
@[simp] def abd:Ω:=[η 2 0]
@[simp] def abf:Ω:=[μ 3 0,σ 4 (.i2i .u32 (.t 3)),σ 5 (.call 292 [(.t 4)]),μ 2 5]
@[simp] def Ub:Ω:=[μ 6 0,σ 7 (.call 293 [(.t 6)]),μ 2 7]
def f281:an:=⟨[.t 2],(.seq (.region abd [0]) (.seq (.cond (.c (.bool false)) (.seq (.region abf [2]) .ret) .skip) (.seq (.region Ub [2]) .ret))),true⟩
@[simp] def Nu:Ω:=[η 4 0]
@[simp] def adJ:Ω:=[μ 6 0,ν 7 .slice 6,η 8 0]
@[simp] def OC:Ω:=[β 9 .lss 8 7]
@[simp] def N3:Ω:=[μ 10 8,μ 5 10]
@[simp] def LF:Ω:=[μ 11 1,μ 12 0,μ 13 5,ι 14 8 12 13,Λ 15 8 14,σ 16 (.br (.t 11) [(.t 15)])]
@[simp] def TB:Ω:=[μ 17 5,μ 4 17]
@[simp] def SA:Ω:=[γ 18 .add 8 1,μ 8 18]
def V4:RC:=(.seq (.region OC [0,1,7,8,9]) (.seq (.cond (.t 9) .skip (.exit 0)) (.seq (.block 1 (.seq (.region N3 [0,1,5,7,8]) (.seq (.region LF [0,1,5,7,8,16]) (.cond (.t 16) (.seq (.region TB [4]) .ret) .skip)))) (.region SA [0,1,7,8]))))
def MK:RC:=.loop [0,1,7,8] V4
@[simp] def aaK:Ω:=[σ 4 (.mv (.c (.int .i64 (.negSucc 0))))]
def f282:an:=⟨[.t 4],(.seq (.region Nu [0,1]) (.seq (.seq (.region adJ [0,1,7,8]) (.block 0 MK)) (.seq (.region aaK [4]) .ret))),false⟩
@[simp] def Pb:Ω:=[μ 8 1,γ 9 .add 8 1,μ 6 9]
@[simp] def Ut:Ω:=[μ 10 6,μ 11 2,β 12 .lss 10 11]
@[simp] def PW:Ω:=[μ 15 6,μ 7 15]
@[simp] def Sp:Ω:=[μ 16 7,μ 17 1,β 18 .gtr 16 17,μ 19 18,Μ 20 0 19 true,Μ 21 7 19 true,τ 22 (.aJ 1 (.t 20) (.t 21)) 19 true,Ρ 23 22 19 true,Μ 24 0 19 true,Μ 25 7 19 true,τ 26 (.bin .sub (.t 25) (κ 1)) 19 true,τ 27 (.aJ 1 (.t 24) (.t 26)) 19 true,Ρ 28 27 19 true,τ 29 (.call 289 [(.t 23),(.t 28)]) 19 true,ξ 30 19 29]
@[simp] def Qa:Ω:=[μ 33 0,μ 34 7,μ 35 0,μ 36 7,γ 37 .sub 36 1,μ 38 0,μ 39 7,γ 40 .sub 39 1,ι 41 1 38 40,ρ 42 41,μ 43 0,μ 44 7,ι 45 1 43 44,ρ 46 45,ι 47 1 33 34,ω 1 47 42,ι 48 1 35 37,ω 1 48 46]
@[simp] def SW:Ω:=[μ 31 7,γ 32 .sub 31 1,μ 7 32]
def P3:RC:=(.seq (.seq (.au Sp [] [] [0,1,2,6,7,30]) (.cond (.t 30) .skip (.exit 2))) (.seq (.block 3 (.au Qa [] [] [0,1,2,6,7])) (.region SW [0,1,2,6,7])))
def QS:RC:=.loop [0,1,2,6,7] P3
@[simp] def acH:Ω:=[μ 13 6,γ 14 .add 13 1,μ 6 14]
def Uf:RC:=(.seq (.seq (.region Ut [0,1,2,6,12]) (.cond (.t 12) .skip (.exit 0))) (.seq (.block 1 (.seq (.region PW [0,1,2,6,7]) (.block 2 QS))) (.region acH [0,1,2,6])))
def Rm:RC:=.loop [0,1,2,6] Uf
def f283:an:=⟨[],(.seq (.region Pb [0,1,2,6]) (.block 0 Rm)),true⟩
@[simp] def Z5:Ω:=[μ 11 1,μ 6 11]
@[simp] def aaW:Ω:=[η 7 0]
@[simp] def acC:Ω:=[μ 12 2,μ 13 1,β 14 .sub 12 13,μ 8 14]
@[simp] def LO:Ω:=[μ 15 8,γ 16 .sub 15 1,γ 17 .quo 16 2,μ 9 17]
@[simp] def OO:Ω:=[μ 18 9,γ 19 .geq 18 0]
@[simp] def U3:Ω:=[μ 22 0,μ 23 9,μ 24 8,μ 25 6,σ 26 (.call 294 [(.t 22),(.t 23),(.t 24),(.t 25)])]
@[simp] def Pp:Ω:=[μ 20 9,γ 21 .sub 20 1,μ 9 21]
def ac9:RC:=(.seq (.seq (.region OO [0,6,7,8,9,19]) (.cond (.t 19) .skip (.exit 0))) (.seq (.block 1 (.region U3 [0,6,7,8,9])) (.region Pp [0,6,7,8,9])))
def XQ:RC:=.loop [0,6,7,8,9] ac9
@[simp] def LV:Ω:=[μ 27 8,γ 28 .sub 27 1,μ 10 28]
@[simp] def aeu:Ω:=[μ 29 10,γ 30 .geq 29 0]
@[simp] def UF:Ω:=[μ 33 0,μ 34 6,μ 35 0,μ 36 6,μ 37 10,β 38 .add 36 37,μ 39 0,μ 40 6,μ 41 10,β 42 .add 40 41,ι 43 1 39 42,ρ 44 43,μ 45 0,μ 46 6,ι 47 1 45 46,ρ 48 47,ι 49 1 33 34,ω 1 49 44,ι 50 1 35 38,ω 1 50 48]
@[simp] def H8:Ω:=[μ 51 0,μ 52 7,μ 53 10,μ 54 6,σ 55 (.call 294 [(.t 51),(.t 52),(.t 53),(.t 54)])]
@[simp] def Eo:Ω:=[μ 31 10,γ 32 .sub 31 1,μ 10 32]
def X4:RC:=(.seq (.seq (.region aeu [0,6,7,10,30]) (.cond (.t 30) .skip (.exit 2))) (.seq (.block 3 (.seq (.au UF [] [] [0,6,7,10]) (.region H8 [0,6,7,10]))) (.region Eo [0,6,7,10])))
def Zh:RC:=.loop [0,6,7,10] X4
def f284:an:=⟨[],(.seq (.region Z5 [0,1,2,6]) (.seq (.region aaW [0,1,2,6,7]) (.seq (.region acC [0,6,7,8]) (.seq (.seq (.region LO [0,6,7,8,9]) (.block 0 XQ)) (.seq (.region LV [0,6,7,10]) (.block 2 Zh)))))),true⟩
@[simp] def SF:Ω:=[μ 11 2,μ 12 1,β 13 .sub 11 12,μ 6 13]
@[simp] def WZ:Ω:=[μ 14 6,γ 15 .geq 14 8]
@[simp] def YI:Ω:=[μ 16 6,σ 17 (.i2i .u64 (.t 16)),σ 7 (.alloc [(.int .u64 (.ofNat 0))]),ω 1 7 17]
@[simp] def L8:Ω:=[μ 18 6,σ 19 (.call 295 [(.t 18)]),μ 8 19]
@[simp] def adF:Ω:=[μ 20 1,μ 21 6,γ 22 .quo 21 4,γ 23 .mul 22 2,β 24 .add 20 23,γ 25 .sub 24 1,μ 9 25]
@[simp] def LX:Ω:=[μ 26 9,μ 27 1,μ 28 6,γ 29 .quo 28 4,γ 30 .mul 29 2,β 31 .add 27 30,γ 32 .add 31 1,β 33 .leq 26 32]
@[simp] def Sw:Ω:=[σ 36 (.call 296 [(.t 7)]),μ 37 8,σ 38 (.bin .sub (.t 37) (.c (.int .u64 (.ofNat 1)))),β 39 .and 36 38,σ 40 (.i2i .i64 (.t 39)),μ 10 40]
@[simp] def VF:Ω:=[μ 41 10,μ 42 6,β 43 .geq 41 42]
@[simp] def Rd:Ω:=[μ 44 10,μ 45 6,β 46 .sub 44 45,μ 10 46]
@[simp] def aaG:Ω:=[μ 47 0,μ 48 9,μ 49 0,μ 50 1,μ 51 10,β 52 .add 50 51,μ 53 0,μ 54 1,μ 55 10,β 56 .add 54 55,ι 57 1 53 56,ρ 58 57,μ 59 0,μ 60 9,ι 61 1 59 60,ρ 62 61,ι 63 1 47 48,ω 1 63 58,ι 64 1 49 52,ω 1 64 62]
@[simp] def Kd:Ω:=[μ 34 9,γ 35 .add 34 1,μ 9 35]
def QQ:RC:=(.seq (.seq (.region LX [0,1,6,7,8,9,33]) (.cond (.t 33) .skip (.exit 0))) (.seq (.block 1 (.seq (.region Sw [0,1,6,7,8,9,10]) (.seq (.seq (.region VF [0,1,6,7,8,9,10,43]) (.cond (.t 43) (.region Rd [0,1,6,7,8,9,10]) .skip)) (.au aaG [] [] [0,1,6,7,8,9])))) (.region Kd [0,1,6,7,8,9])))
def PI:RC:=.loop [0,1,6,7,8,9] QQ
def f285:an:=⟨[],(.seq (.region SF [0,1,6]) (.seq (.region WZ [0,1,6,15]) (.cond (.t 15) (.seq (.region YI [0,1,6,7]) (.seq (.region L8 [0,1,6,7,8]) (.seq (.region adF [0,1,6,7,8,9]) (.block 0 PI)))) .skip))),true⟩
@[simp] def Pe:Ω:=[η 6 0,η 7 0]
@[simp] def aaU:Ω:=[μ 13 2,μ 14 1,β 15 .sub 13 14,μ 8 15]
@[simp] def XC:Ω:=[σ 9 (.alloc [δ])]
@[simp] def Qn:Ω:=[μ 16 1,μ 17 8,γ 18 .quo 17 4,γ 19 .mul 18 1,β 20 .add 16 19,μ 10 20]
@[simp] def Ww:Ω:=[μ 21 1,μ 22 8,γ 23 .quo 22 4,γ 24 .mul 23 2,β 25 .add 21 24,μ 11 25]
@[simp] def N8:Ω:=[μ 26 1,μ 27 8,γ 28 .quo 27 4,γ 29 .mul 28 3,β 30 .add 26 29,μ 12 30]
@[simp] def Od:Ω:=[μ 31 8,γ 32 .geq 31 8]
@[simp] def VA:Ω:=[μ 33 8,γ 34 .geq 33 50]
@[simp] def aat:Ω:=[μ 35 0,μ 36 10,σ 37 (.call 297 [(.t 35),(.t 36),(.t 9)]),μ 10 37]
@[simp] def O7:Ω:=[μ 38 0,μ 39 11,σ 40 (.call 297 [(.t 38),(.t 39),(.t 9)]),μ 11 40]
@[simp] def Gx:Ω:=[μ 41 0,μ 42 12,σ 43 (.call 297 [(.t 41),(.t 42),(.t 9)]),μ 12 43]
@[simp] def IA:Ω:=[μ 44 0,μ 45 10,μ 46 11,μ 47 12,σ 48 (.call 298 [(.t 44),(.t 45),(.t 46),(.t 47),(.t 9)]),μ 11 48]
@[simp] def Ie:Ω:=[ρ 49 9]
@[simp] def Jp:Ω:=[γ 52 .eql 49 0,μ 51 52]
@[simp] def F4:Ω:=[μ 53 11,μ 6 53,η 7 1]
@[simp] def IM:Ω:=[γ 55 .eql 49 12,μ 54 55]
@[simp] def Fh:Ω:=[μ 56 11,μ 6 56,η 7 2]
@[simp] def JN:Ω:=[μ 50 11,μ 6 50,η 7 0]
def f286:an:=⟨[.t 6,.t 7],(.seq (.region Pe [0,1,2]) (.seq (.region aaU [0,1,8]) (.seq (.region XC [0,1,8,9]) (.seq (.region Qn [0,1,8,9,10]) (.seq (.region Ww [0,1,8,9,10,11]) (.seq (.region N8 [0,8,9,10,11,12]) (.seq (.seq (.region Od [0,8,9,10,11,12,32]) (.cond (.t 32) (.seq (.seq (.region VA [0,9,10,11,12,34]) (.cond (.t 34) (.seq (.region aat [0,9,10,11,12]) (.seq (.region O7 [0,9,10,11,12]) (.region Gx [0,9,10,11,12]))) .skip)) (.region IA [9,11])) .skip)) (.seq (.region Ie [11,49]) (.block 0 (.seq (.region Jp [11,49,51]) (.cond (.t 51) (.seq (.region F4 [6,7]) .ret) (.seq (.region IM [11,54]) (.cond (.t 54) (.seq (.region Fh [6,7]) .ret) (.seq (.region JN [6,7]) .ret)))))))))))))),true⟩
@[simp] def Vv:Ω:=[μ 8 1,μ 6 8]
@[simp] def acR:Ω:=[μ 9 2,γ 10 .sub 9 1,μ 7 10]
@[simp] def Mq:Ω:=[μ 11 6,μ 12 7,β 13 .lss 11 12]
@[simp] def Se:Ω:=[μ 14 0,μ 15 6,μ 16 0,μ 17 7,μ 18 0,μ 19 7,ι 20 1 18 19,ρ 21 20,μ 22 0,μ 23 6,ι 24 1 22 23,ρ 25 24,ι 26 1 14 15,ω 1 26 21,ι 27 1 16 17,ω 1 27 25]
@[simp] def Z8:Ω:=[μ 28 6,γ 29 .add 28 1,μ 6 29]
@[simp] def acX:Ω:=[μ 30 7,γ 31 .sub 30 1,μ 7 31]
def acz:RC:=(.seq (.seq (.region Mq [0,6,7,13]) (.cond (.t 13) .skip (.exit 0))) (.block 1 (.seq (.au Se [] [] [0,6,7]) (.seq (.region Z8 [0,6,7]) (.region acX [0,6,7])))))
def adt:RC:=.loop [0,6,7] acz
def f287:an:=⟨[],(.seq (.region Vv [0,2,6]) (.seq (.region acR [0,6,7]) (.block 0 adt))),true⟩
@[simp] def ack:Ω:=[σ 6 (.mv (.c (.bool false)))]
@[simp] def Ty:Ω:=[μ 11 1,γ 12 .add 11 1,μ 7 12]
@[simp] def QC:Ω:=[η 8 0]
@[simp] def Q8:Ω:=[μ 13 8,γ 14 .lss 13 5]
@[simp] def LY:Ω:=[μ 17 7,μ 18 2,β 19 .lss 17 18,μ 20 19,Μ 21 0 20 true,Μ 22 7 20 true,τ 23 (.aJ 1 (.t 21) (.t 22)) 20 true,Ρ 24 23 20 true,Μ 25 0 20 true,Μ 26 7 20 true,τ 27 (.bin .sub (.t 26) (κ 1)) 20 true,τ 28 (.aJ 1 (.t 25) (.t 27)) 20 true,Ρ 29 28 20 true,τ 30 (.call 289 [(.t 24),(.t 29)]) 20 true,τ 31 (.un .not (.t 30)) 20 true,ξ 32 20 31]
@[simp] def UL:Ω:=[μ 33 7,γ 34 .add 33 1,μ 7 34]
def YY:RC:=(.seq (.seq (.au LY [] [] [0,1,2,7,8,32]) (.cond (.t 32) .skip (.exit 2))) (.block 3 (.region UL [0,1,2,7,8])))
def Pr:RC:=.loop [0,1,2,7,8] YY
@[simp] def adq:Ω:=[μ 35 7,μ 36 2,β 37 .eql 35 36]
@[simp] def TQ:Ω:=[σ 6 (.mv (.c (.bool true)))]
@[simp] def W2:Ω:=[μ 38 2,μ 39 1,β 40 .sub 38 39,γ 41 .lss 40 50]
@[simp] def On:Ω:=[σ 6 (.mv (.c (.bool false)))]
@[simp] def DU:Ω:=[μ 42 0,μ 43 7,μ 44 0,μ 45 7,γ 46 .sub 45 1,μ 47 0,μ 48 7,γ 49 .sub 48 1,ι 50 1 47 49,ρ 51 50,μ 52 0,μ 53 7,ι 54 1 52 53,ρ 55 54,ι 56 1 42 43,ω 1 56 51,ι 57 1 44 46,ω 1 57 55]
@[simp] def F3:Ω:=[μ 58 7,μ 59 1,β 60 .sub 58 59,γ 61 .geq 60 2]
@[simp] def HL:Ω:=[μ 62 7,γ 63 .sub 62 1,μ 9 63]
@[simp] def Iq:Ω:=[μ 64 9,γ 65 .geq 64 1]
@[simp] def Ju:Ω:=[μ 68 0,μ 69 9,ι 70 1 68 69,ρ 71 70,μ 72 0,μ 73 9,γ 74 .sub 73 1,ι 75 1 72 74,ρ 76 75,σ 77 (.call 289 [(.t 71),(.t 76)]),σ 78 (.un .not (.t 77))]
@[simp] def Hw:Ω:=[μ 79 0,μ 80 9,μ 81 0,μ 82 9,γ 83 .sub 82 1,μ 84 0,μ 85 9,γ 86 .sub 85 1,ι 87 1 84 86,ρ 88 87,μ 89 0,μ 90 9,ι 91 1 89 90,ρ 92 91,ι 93 1 79 80,ω 1 93 88,ι 94 1 81 83,ω 1 94 92]
@[simp] def Eh:Ω:=[μ 66 9,γ 67 .sub 66 1,μ 9 67]
def ac0:RC:=(.seq (.seq (.region Iq [0,1,2,7,8,9,65]) (.cond (.t 65) .skip (.exit 4))) (.seq (.block 5 (.seq (.seq (.au Ju [] [] [0,1,2,7,8,9,78]) (.cond (.t 78) (.exit 4) .skip)) (.au Hw [] [] [0,1,2,7,8,9]))) (.region Eh [0,1,2,7,8,9])))
def aa0:RC:=.loop [0,1,2,7,8,9] ac0
@[simp] def EZ:Ω:=[μ 95 2,μ 96 7,β 97 .sub 95 96,γ 98 .geq 97 2]
@[simp] def F1:Ω:=[μ 99 7,γ 100 .add 99 1,μ 10 100]
@[simp] def JE:Ω:=[μ 101 10,μ 102 2,β 103 .lss 101 102]
@[simp] def Fp:Ω:=[μ 106 0,μ 107 10,ι 108 1 106 107,ρ 109 108,μ 110 0,μ 111 10,γ 112 .sub 111 1,ι 113 1 110 112,ρ 114 113,σ 115 (.call 289 [(.t 109),(.t 114)]),σ 116 (.un .not (.t 115))]
@[simp] def GL:Ω:=[μ 117 0,μ 118 10,μ 119 0,μ 120 10,γ 121 .sub 120 1,μ 122 0,μ 123 10,γ 124 .sub 123 1,ι 125 1 122 124,ρ 126 125,μ 127 0,μ 128 10,ι 129 1 127 128,ρ 130 129,ι 131 1 117 118,ω 1 131 126,ι 132 1 119 121,ω 1 132 130]
@[simp] def I7:Ω:=[μ 104 10,γ 105 .add 104 1,μ 10 105]
def OT:RC:=(.seq (.seq (.region JE [0,1,2,7,8,10,103]) (.cond (.t 103) .skip (.exit 6))) (.seq (.block 7 (.seq (.seq (.au Fp [] [] [0,1,2,7,8,10,116]) (.cond (.t 116) (.exit 6) .skip)) (.au GL [] [] [0,1,2,7,8,10]))) (.region I7 [0,1,2,7,8,10])))
def VD:RC:=.loop [0,1,2,7,8,10] OT
@[simp] def Ec:Ω:=[μ 15 8,γ 16 .add 15 1,μ 8 16]
def T4:RC:=(.seq (.seq (.region Q8 [0,1,2,7,8,14]) (.cond (.t 14) .skip (.exit 0))) (.seq (.block 1 (.seq (.block 2 Pr) (.seq (.seq (.region adq [0,1,2,7,8,37]) (.cond (.t 37) (.seq (.region TQ [6]) .ret) .skip)) (.seq (.seq (.region W2 [0,1,2,7,8,41]) (.cond (.t 41) (.seq (.region On [6]) .ret) .skip)) (.seq (.au DU [] [] [0,1,2,7,8]) (.seq (.seq (.region F3 [0,1,2,7,8,61]) (.cond (.t 61) (.seq (.region HL [0,1,2,7,8,9]) (.block 4 aa0)) .skip)) (.seq (.region EZ [0,1,2,7,8,98]) (.cond (.t 98) (.seq (.region F1 [0,1,2,7,8,10]) (.block 6 VD)) .skip)))))))) (.region Ec [0,1,2,7,8])))
def Sn:RC:=.loop [0,1,2,7,8] T4
@[simp] def E0:Ω:=[σ 6 (.mv (.c (.bool false)))]
def f288:an:=⟨[.t 6],(.seq (.region ack [0,1,2]) (.seq (.region Ty [0,1,2,7]) (.seq (.seq (.region QC [0,1,2,7,8]) (.block 0 Sn)) (.seq (.region E0 [6]) .ret)))),true⟩
@[simp] def acg:Ω:=[σ 4 (.mv (.c (.bool false)))]
@[simp] def Ya:Ω:=[μ 5 0,σ 6 (.call 162 [(.t 5)]),μ 7 6,Μ 8 1 7 true,τ 9 (.call 162 [(.t 8)]) 7 true,τ 10 (.un .not (.t 9)) 7 true,ξ 11 7 10,μ 12 11,Μ 13 0 12 false,Μ 14 1 12 false,τ 15 (.bin .lss (.t 13) (.t 14)) 12 false,ζ 16 12 15,μ 4 16]
def f289:an:=⟨[.t 4],(.seq (.region acg [0,1]) (.seq (.region Ya [4]) .ret)),true⟩
@[simp] def N5:Ω:=[η 8 0]
@[simp] def Un:Ω:=[μ 11 0,μ 12 1,μ 13 0,μ 14 3,μ 15 0,μ 16 3,ι 17 1 15 16,ρ 18 17,μ 19 0,μ 20 1,ι 21 1 19 20,ρ 22 21,ι 23 1 11 12,ω 1 23 18,ι 24 1 13 14,ω 1 24 22]
@[simp] def abb:Ω:=[μ 25 1,γ 26 .add 25 1,μ 27 2,γ 28 .sub 27 1,μ 9 26,μ 10 28]
@[simp] def QA:Ω:=[μ 29 9,μ 30 10,β 31 .leq 29 30,μ 32 31,Μ 33 0 32 true,Μ 34 1 32 true,τ 35 (.aJ 1 (.t 33) (.t 34)) 32 true,Ρ 36 35 32 true,Μ 37 0 32 true,Μ 38 9 32 true,τ 39 (.aJ 1 (.t 37) (.t 38)) 32 true,Ρ 40 39 32 true,τ 41 (.call 289 [(.t 36),(.t 40)]) 32 true,τ 42 (.un .not (.t 41)) 32 true,ξ 43 32 42]
@[simp] def Mv:Ω:=[μ 44 9,γ 45 .add 44 1,μ 9 45]
def TC:RC:=(.seq (.seq (.au QA [] [] [0,1,9,10,43]) (.cond (.t 43) .skip (.exit 2))) (.block 3 (.region Mv [0,1,9,10])))
def Wx:RC:=.loop [0,1,9,10] TC
@[simp] def Zc:Ω:=[μ 46 9,μ 47 10,β 48 .leq 46 47,μ 49 48,Μ 50 0 49 true,Μ 51 1 49 true,τ 52 (.aJ 1 (.t 50) (.t 51)) 49 true,Ρ 53 52 49 true,Μ 54 0 49 true,Μ 55 10 49 true,τ 56 (.aJ 1 (.t 54) (.t 55)) 49 true,Ρ 57 56 49 true,τ 58 (.call 289 [(.t 53),(.t 57)]) 49 true,ξ 59 49 58]
@[simp] def adm:Ω:=[μ 60 10,γ 61 .sub 60 1,μ 10 61]
def PO:RC:=(.seq (.seq (.au Zc [] [] [0,1,9,10,59]) (.cond (.t 59) .skip (.exit 4))) (.block 5 (.region adm [0,1,9,10])))
def aem:RC:=.loop [0,1,9,10] PO
@[simp] def W0:Ω:=[μ 62 9,μ 63 10,β 64 .gtr 62 63]
@[simp] def Pm:Ω:=[μ 65 0,μ 66 9,μ 67 0,μ 68 10,μ 69 0,μ 70 10,ι 71 1 69 70,ρ 72 71,μ 73 0,μ 74 9,ι 75 1 73 74,ρ 76 75,ι 77 1 65 66,ω 1 77 72,ι 78 1 67 68,ω 1 78 76]
@[simp] def VU:Ω:=[μ 79 9,γ 80 .add 79 1,μ 9 80]
@[simp] def Ff:Ω:=[μ 81 10,γ 82 .sub 81 1,μ 10 82]
def Vl:RC:=(.block 1 (.seq (.block 2 Wx) (.seq (.block 4 aem) (.seq (.seq (.region W0 [0,1,9,10,64]) (.cond (.t 64) (.exit 0) .skip)) (.seq (.au Pm [] [] [0,1,9,10]) (.seq (.region VU [0,1,9,10]) (.region Ff [0,1,9,10])))))))
def SC:RC:=.loop [0,1,9,10] Vl
@[simp] def FG:Ω:=[μ 83 9,μ 8 83]
def f290:an:=⟨[.t 8],(.seq (.region N5 [0,1,2,3]) (.seq (.au Un [] [] [0,1,2]) (.seq (.region abb [0,1,9,10]) (.seq (.block 0 SC) (.seq (.region FG [8]) .ret))))),true⟩
@[simp] def YL:Ω:=[η 8 0,σ 9 (.mv (.c (.bool false)))]
@[simp] def PT:Ω:=[μ 12 0,μ 13 1,μ 14 0,μ 15 3,μ 16 0,μ 17 3,ι 18 1 16 17,ρ 19 18,μ 20 0,μ 21 1,ι 22 1 20 21,ρ 23 22,ι 24 1 12 13,ω 1 24 19,ι 25 1 14 15,ω 1 25 23]
@[simp] def aaH:Ω:=[μ 26 1,γ 27 .add 26 1,μ 28 2,γ 29 .sub 28 1,μ 10 27,μ 11 29]
@[simp] def NT:Ω:=[μ 30 10,μ 31 11,β 32 .leq 30 31,μ 33 32,Μ 34 0 33 true,Μ 35 10 33 true,τ 36 (.aJ 1 (.t 34) (.t 35)) 33 true,Ρ 37 36 33 true,Μ 38 0 33 true,Μ 39 1 33 true,τ 40 (.aJ 1 (.t 38) (.t 39)) 33 true,Ρ 41 40 33 true,τ 42 (.call 289 [(.t 37),(.t 41)]) 33 true,ξ 43 33 42]
@[simp] def MU:Ω:=[μ 44 10,γ 45 .add 44 1,μ 10 45]
def Q4:RC:=(.seq (.seq (.au NT [] [] [0,1,10,11,43]) (.cond (.t 43) .skip (.exit 0))) (.block 1 (.region MU [0,1,10,11])))
def Ph:RC:=.loop [0,1,10,11] Q4
@[simp] def Wi:Ω:=[μ 46 10,μ 47 11,β 48 .leq 46 47,μ 49 48,Μ 50 0 49 true,Μ 51 11 49 true,τ 52 (.aJ 1 (.t 50) (.t 51)) 49 true,Ρ 53 52 49 true,Μ 54 0 49 true,Μ 55 1 49 true,τ 56 (.aJ 1 (.t 54) (.t 55)) 49 true,Ρ 57 56 49 true,τ 58 (.call 289 [(.t 53),(.t 57)]) 49 true,τ 59 (.un .not (.t 58)) 49 true,ξ 60 49 59]
@[simp] def abm:Ω:=[μ 61 11,γ 62 .sub 61 1,μ 11 62]
def M7:RC:=(.seq (.seq (.au Wi [] [] [0,1,10,11,60]) (.cond (.t 60) .skip (.exit 2))) (.block 3 (.region abm [0,1,10,11])))
def adk:RC:=.loop [0,1,10,11] M7
@[simp] def RQ:Ω:=[μ 63 10,μ 64 11,β 65 .gtr 63 64]
@[simp] def R9:Ω:=[μ 66 0,μ 67 11,μ 68 0,μ 69 1,μ 70 0,μ 71 1,ι 72 1 70 71,ρ 73 72,μ 74 0,μ 75 11,ι 76 1 74 75,ρ 77 76,ι 78 1 66 67,ω 1 78 73,ι 79 1 68 69,ω 1 79 77]
@[simp] def abz:Ω:=[μ 80 11,μ 8 80,σ 9 (.mv (.c (.bool true)))]
@[simp] def FB:Ω:=[μ 81 0,μ 82 10,μ 83 0,μ 84 11,μ 85 0,μ 86 11,ι 87 1 85 86,ρ 88 87,μ 89 0,μ 90 10,ι 91 1 89 90,ρ 92 91,ι 93 1 81 82,ω 1 93 88,ι 94 1 83 84,ω 1 94 92]
@[simp] def DY:Ω:=[μ 95 10,γ 96 .add 95 1,μ 10 96]
@[simp] def GQ:Ω:=[μ 97 11,γ 98 .sub 97 1,μ 11 98]
@[simp] def JF:Ω:=[μ 99 10,μ 100 11,β 101 .leq 99 100,μ 102 101,Μ 103 0 102 true,Μ 104 10 102 true,τ 105 (.aJ 1 (.t 103) (.t 104)) 102 true,Ρ 106 105 102 true,Μ 107 0 102 true,Μ 108 1 102 true,τ 109 (.aJ 1 (.t 107) (.t 108)) 102 true,Ρ 110 109 102 true,τ 111 (.call 289 [(.t 106),(.t 110)]) 102 true,ξ 112 102 111]
@[simp] def Kp:Ω:=[μ 113 10,γ 114 .add 113 1,μ 10 114]
def ab5:RC:=(.seq (.seq (.au JF [] [] [0,1,10,11,112]) (.cond (.t 112) .skip (.exit 6))) (.block 7 (.region Kp [0,1,10,11])))
def Lf:RC:=.loop [0,1,10,11] ab5
@[simp] def G8:Ω:=[μ 115 10,μ 116 11,β 117 .leq 115 116,μ 118 117,Μ 119 0 118 true,Μ 120 11 118 true,τ 121 (.aJ 1 (.t 119) (.t 120)) 118 true,Ρ 122 121 118 true,Μ 123 0 118 true,Μ 124 1 118 true,τ 125 (.aJ 1 (.t 123) (.t 124)) 118 true,Ρ 126 125 118 true,τ 127 (.call 289 [(.t 122),(.t 126)]) 118 true,τ 128 (.un .not (.t 127)) 118 true,ξ 129 118 128]
@[simp] def Hn:Ω:=[μ 130 11,γ 131 .sub 130 1,μ 11 131]
def Tf:RC:=(.seq (.seq (.au G8 [] [] [0,1,10,11,129]) (.cond (.t 129) .skip (.exit 8))) (.block 9 (.region Hn [0,1,10,11])))
def ZT:RC:=.loop [0,1,10,11] Tf
@[simp] def Gk:Ω:=[μ 132 10,μ 133 11,β 134 .gtr 132 133]
@[simp] def FD:Ω:=[μ 135 0,μ 136 10,μ 137 0,μ 138 11,μ 139 0,μ 140 11,ι 141 1 139 140,ρ 142 141,μ 143 0,μ 144 10,ι 145 1 143 144,ρ 146 145,ι 147 1 135 136,ω 1 147 142,ι 148 1 137 138,ω 1 148 146]
@[simp] def Kk:Ω:=[μ 149 10,γ 150 .add 149 1,μ 10 150]
@[simp] def FQ:Ω:=[μ 151 11,γ 152 .sub 151 1,μ 11 152]
def Xk:RC:=(.block 5 (.seq (.block 6 Lf) (.seq (.block 8 ZT) (.seq (.seq (.region Gk [0,1,10,11,134]) (.cond (.t 134) (.exit 4) .skip)) (.seq (.au FD [] [] [0,1,10,11]) (.seq (.region Kk [0,1,10,11]) (.region FQ [0,1,10,11])))))))
def Yb:RC:=.loop [0,1,10,11] Xk
@[simp] def FU:Ω:=[μ 153 0,μ 154 11,μ 155 0,μ 156 1,μ 157 0,μ 158 1,ι 159 1 157 158,ρ 160 159,μ 161 0,μ 162 11,ι 163 1 161 162,ρ 164 163,ι 165 1 153 154,ω 1 165 160,ι 166 1 155 156,ω 1 166 164]
@[simp] def Fe:Ω:=[μ 167 11,μ 8 167,σ 9 (.mv (.c (.bool false)))]
def f291:an:=⟨[.t 8,.t 9],(.seq (.region YL [0,1,2,3]) (.seq (.au PT [] [] [0,1,2]) (.seq (.region aaH [0,1,10,11]) (.seq (.block 0 Ph) (.seq (.block 2 adk) (.seq (.seq (.region RQ [0,1,10,11,65]) (.cond (.t 65) (.seq (.au R9 [] [] [11]) (.seq (.region abz [8,9]) .ret)) .skip)) (.seq (.au FB [] [] [0,1,10,11]) (.seq (.region DY [0,1,10,11]) (.seq (.region GQ [0,1,10,11]) (.seq (.block 4 Yb) (.seq (.au FU [] [] [11]) (.seq (.region Fe [8,9]) .ret)))))))))))),true⟩
@[simp] def QR:Ω:=[η 2 0]
@[simp] def Lp:Ω:=[μ 3 0,σ 4 (.bin .geq (.t 3) (.c (.int .u32 (.ofNat 65536))))]
@[simp] def Vg:Ω:=[μ 5 0,σ 6 (.bin .shr (.t 5) (.c (.int .u64 (.ofNat 16)))),μ 0 6]
@[simp] def Vn:Ω:=[η 2 16]
@[simp] def M4:Ω:=[μ 7 0,σ 8 (.bin .geq (.t 7) (.c (.int .u32 (.ofNat 256))))]
@[simp] def Tq:Ω:=[μ 9 0,σ 10 (.bin .shr (.t 9) (.c (.int .u64 (.ofNat 8)))),μ 0 10]
@[simp] def Sv:Ω:=[μ 11 2,γ 12 .add 11 8,μ 2 12]
@[simp] def abo:Ω:=[μ 13 2,μ 14 0,σ 15 (.i2i .u8 (.t 14)),σ 16 (.index (.c (.str [0,1,2,2,3,3,3,3,4,4,4,4,4,4,4,4,5,5,5,5,5,5,5,5,5,5,5,5,5,5,5,5,6,6,6,6,6,6,6,6,6,6,6,6,6,6,6,6,6,6,6,6,6,6,6,6,6,6,6,6,6,6,6,6,7,7,7,7,7,7,7,7,7,7,7,7,7,7,7,7,7,7,7,7,7,7,7,7,7,7,7,7,7,7,7,7,7,7,7,7,7,7,7,7,7,7,7,7,7,7,7,7,7,7,7,7,7,7,7,7,7,7,7,7,7,7,7,7,8,8,8,8,8,8,8,8,8,8,8,8,8,8,8,8,8,8,8,8,8,8,8,8,8,8,8,8,8,8,8,8,8,8,8,8,8,8,8,8,8,8,8,8,8,8,8,8,8,8,8,8,8,8,8,8,8,8,8,8,8,8,8,8,8,8,8,8,8,8,8,8,8,8,8,8,8,8,8,8,8,8,8,8,8,8,8,8,8,8,8,8,8,8,8,8,8,8,8,8,8,8,8,8,8,8,8,8,8,8,8,8,8,8,8,8,8,8,8,8,8,8,8,8,8,8,8,8])) (.t 15)),σ 17 (.i2i .i64 (.t 16)),β 18 .add 13 17,μ 2 18]
def LC:an:=⟨[.t 2],(.seq (.region QR [0,2]) (.seq (.seq (.region Lp [0,2,4]) (.cond (.t 4) (.seq (.region Vg [0]) (.region Vn [0,2])) .skip)) (.seq (.seq (.region M4 [0,2,8]) (.cond (.t 8) (.seq (.region Tq [0,2]) (.region Sv [0,2])) .skip)) (.seq (.region abo [2]) .ret)))),true⟩
@[simp] def Oi:Ω:=[η 2 0]
@[simp] def Qx:Ω:=[μ 3 0,σ 4 (.bin .geq (.t 3) (.c (.int .u64 (.ofNat 4294967296))))]
@[simp] def PF:Ω:=[μ 5 0,σ 6 (.bin .shr (.t 5) (.c (.int .u64 (.ofNat 32)))),μ 0 6]
@[simp] def Oy:Ω:=[η 2 32]
@[simp] def aee:Ω:=[μ 7 0,σ 8 (.bin .geq (.t 7) (.c (.int .u64 (.ofNat 65536))))]
@[simp] def Zr:Ω:=[μ 9 0,σ 10 (.bin .shr (.t 9) (.c (.int .u64 (.ofNat 16)))),μ 0 10]
@[simp] def XD:Ω:=[μ 11 2,γ 12 .add 11 16,μ 2 12]
@[simp] def Uz:Ω:=[μ 13 0,σ 14 (.bin .geq (.t 13) (.c (.int .u64 (.ofNat 256))))]
@[simp] def ZA:Ω:=[μ 15 0,σ 16 (.bin .shr (.t 15) (.c (.int .u64 (.ofNat 8)))),μ 0 16]
@[simp] def MO:Ω:=[μ 17 2,γ 18 .add 17 8,μ 2 18]
@[simp] def IE:Ω:=[μ 19 2,μ 20 0,σ 21 (.i2i .u8 (.t 20)),σ 22 (.index (.c (.str [0,1,2,2,3,3,3,3,4,4,4,4,4,4,4,4,5,5,5,5,5,5,5,5,5,5,5,5,5,5,5,5,6,6,6,6,6,6,6,6,6,6,6,6,6,6,6,6,6,6,6,6,6,6,6,6,6,6,6,6,6,6,6,6,7,7,7,7,7,7,7,7,7,7,7,7,7,7,7,7,7,7,7,7,7,7,7,7,7,7,7,7,7,7,7,7,7,7,7,7,7,7,7,7,7,7,7,7,7,7,7,7,7,7,7,7,7,7,7,7,7,7,7,7,7,7,7,7,8,8,8,8,8,8,8,8,8,8,8,8,8,8,8,8,8,8,8,8,8,8,8,8,8,8,8,8,8,8,8,8,8,8,8,8,8,8,8,8,8,8,8,8,8,8,8,8,8,8,8,8,8,8,8,8,8,8,8,8,8,8,8,8,8,8,8,8,8,8,8,8,8,8,8,8,8,8,8,8,8,8,8,8,8,8,8,8,8,8,8,8,8,8,8,8,8,8,8,8,8,8,8,8,8,8,8,8,8,8,8,8,8,8,8,8,8,8,8,8,8,8,8,8,8,8,8,8])) (.t 21)),σ 23 (.i2i .i64 (.t 22)),β 24 .add 19 23,μ 2 24]
def Qt:an:=⟨[.t 2],(.seq (.region Oi [0,2]) (.seq (.seq (.region Qx [0,2,4]) (.cond (.t 4) (.seq (.region PF [0]) (.region Oy [0,2])) .skip)) (.seq (.seq (.region aee [0,2,8]) (.cond (.t 8) (.seq (.region Zr [0,2]) (.region XD [0,2])) .skip)) (.seq (.seq (.region Uz [0,2,14]) (.cond (.t 14) (.seq (.region ZA [0,2]) (.region MO [0,2])) .skip)) (.seq (.region IE [2]) .ret))))),true⟩
@[simp] def Py:Ω:=[μ 10 1,μ 8 10]
@[simp] def QW:Ω:=[μ 11 8,σ 12 (.bin .mul (κ 2) (.t 11)),γ 13 .add 12 1,μ 9 13]
@[simp] def aaF:Ω:=[μ 14 9,μ 15 2,β 16 .geq 14 15]
@[simp] def Qc:Ω:=[μ 17 9,γ 18 .add 17 1,μ 19 2,β 20 .lss 18 19,μ 21 20,Μ 22 0 21 true,Μ 23 3 21 true,Μ 24 9 21 true,τ 25 (.bin .add (.t 23) (.t 24)) 21 true,τ 26 (.aJ 1 (.t 22) (.t 25)) 21 true,Ρ 27 26 21 true,Μ 28 0 21 true,Μ 29 3 21 true,Μ 30 9 21 true,τ 31 (.bin .add (.t 29) (.t 30)) 21 true,τ 32 (.bin .add (.t 31) (κ 1)) 21 true,τ 33 (.aJ 1 (.t 28) (.t 32)) 21 true,Ρ 34 33 21 true,τ 35 (.call 289 [(.t 27),(.t 34)]) 21 true,ξ 36 21 35]
@[simp] def YM:Ω:=[μ 37 9,γ 38 .add 37 1,μ 9 38]
@[simp] def aap:Ω:=[μ 39 0,μ 40 3,μ 41 8,β 42 .add 40 41,ι 43 1 39 42,ρ 44 43,μ 45 0,μ 46 3,μ 47 9,β 48 .add 46 47,ι 49 1 45 48,ρ 50 49,σ 51 (.call 289 [(.t 44),(.t 50)]),σ 52 (.un .not (.t 51))]
@[simp] def acI:Ω:=[μ 53 0,μ 54 3,μ 55 8,β 56 .add 54 55,μ 57 0,μ 58 3,μ 59 9,β 60 .add 58 59,μ 61 0,μ 62 3,μ 63 9,β 64 .add 62 63,ι 65 1 61 64,ρ 66 65,μ 67 0,μ 68 3,μ 69 8,β 70 .add 68 69,ι 71 1 67 70,ρ 72 71,ι 73 1 53 56,ω 1 73 66,ι 74 1 57 60,ω 1 74 72]
@[simp] def Rf:Ω:=[μ 75 9,μ 8 75]
def aaa:RC:=(.block 1 (.seq (.region QW [0,2,3,8,9]) (.seq (.seq (.region aaF [0,2,3,8,9,16]) (.cond (.t 16) (.exit 0) .skip)) (.seq (.seq (.au Qc [] [] [0,2,3,8,9,36]) (.cond (.t 36) (.region YM [0,2,3,8,9]) .skip)) (.seq (.seq (.au aap [] [] [0,2,3,8,9,52]) (.cond (.t 52) .ret .skip)) (.seq (.au acI [] [] [0,2,3,9]) (.region Rf [0,2,3,8])))))))
def Ye:RC:=.loop [0,2,3,8] aaa
def YU:an:=⟨[],(.seq (.region Py [0,2,3,8]) (.block 0 Ye)),true⟩
@[simp] def QM:Ω:=[σ 2 (.mv (.c (.int .u64 (.ofNat 0))))]
@[simp] def VZ:Ω:=[μ 3 0,σ 4 (.i2i .u64 (.t 3)),σ 5 (.call 281 [(.t 4)]),σ 6 (.bin .shl (.c (.int .u64 (.ofNat 1))) (.t 5)),μ 2 6]
def NF:an:=⟨[.t 2],(.seq (.region QM [0]) (.seq (.region VZ [2]) .ret)),true⟩
@[simp] def TV:Ω:=[σ 2 (.mv (.c (.int .u64 (.ofNat 0))))]
@[simp] def aas:Ω:=[μ 3 0,σ 4 (.ak (.t 3)),ρ 5 4,μ 6 0,σ 7 (.ak (.t 6)),ρ 8 7,σ 9 (.bin .shl (.t 8) (.c (.int .u64 (.ofNat 13)))),β 10 .xor 5 9,σ 11 (.ak (.t 3)),ω 1 11 10]
@[simp] def abX:Ω:=[μ 12 0,σ 13 (.ak (.t 12)),ρ 14 13,μ 15 0,σ 16 (.ak (.t 15)),ρ 17 16,σ 18 (.bin .shr (.t 17) (.c (.int .u64 (.ofNat 7)))),β 19 .xor 14 18,σ 20 (.ak (.t 12)),ω 1 20 19]
@[simp] def W5:Ω:=[μ 21 0,σ 22 (.ak (.t 21)),ρ 23 22,μ 24 0,σ 25 (.ak (.t 24)),ρ 26 25,σ 27 (.bin .shl (.t 26) (.c (.int .u64 (.ofNat 17)))),β 28 .xor 23 27,σ 29 (.ak (.t 21)),ω 1 29 28]
@[simp] def Nd:Ω:=[μ 30 0,σ 31 (.ak (.t 30)),ρ 32 31,μ 2 32]
def YV:an:=⟨[.t 2],(.seq (.region TV [0]) (.seq (.au aas [] [] [0]) (.seq (.au abX [] [] [0]) (.seq (.au W5 [] [] [0]) (.seq (.region Nd [2]) .ret))))),false⟩
@[simp] def VK:Ω:=[η 6 0]
@[simp] def M8:Ω:=[μ 7 0,μ 8 1,γ 9 .sub 8 1,μ 10 1,μ 11 1,γ 12 .add 11 1,μ 13 2,σ 14 (.call 298 [(.t 7),(.t 9),(.t 10),(.t 12),(.t 13)]),μ 6 14]
def aba:an:=⟨[.t 6],(.seq (.region VK [0,1,2]) (.seq (.region M8 [6]) .ret)),false⟩
@[simp] def WW:Ω:=[η 10 0]
@[simp] def Mh:Ω:=[μ 12 0,μ 13 1,μ 14 2,μ 15 4,σ 16 (.call 299 [(.t 12),(.t 13),(.t 14),(.t 15)]),μ 11 16,ε 17 11 0,ε 18 11 1,μ 1 17,μ 2 18]
@[simp] def Qy:Ω:=[μ 20 0,μ 21 2,μ 22 3,μ 23 4,σ 24 (.call 299 [(.t 20),(.t 21),(.t 22),(.t 23)]),μ 19 24,ε 25 19 0,ε 26 19 1,μ 2 25,μ 3 26]
@[simp] def XU:Ω:=[μ 28 0,μ 29 1,μ 30 2,μ 31 4,σ 32 (.call 299 [(.t 28),(.t 29),(.t 30),(.t 31)]),μ 27 32,ε 33 27 0,ε 34 27 1,μ 1 33,μ 2 34]
@[simp] def abB:Ω:=[μ 35 2,μ 10 35]
def W6:an:=⟨[.t 10],(.seq (.region WW [0,1,2,3,4]) (.seq (.region Mh [0,1,2,3,4]) (.seq (.region Qy [0,1,2,4]) (.seq (.region XU [2]) (.seq (.region abB [10]) .ret))))),false⟩
@[simp] def TG:Ω:=[η 8 0,η 9 0]
@[simp] def abn:Ω:=[μ 10 0,μ 11 2,ι 12 1 10 11,ρ 13 12,μ 14 0,μ 15 1,ι 16 1 14 15,ρ 17 16,σ 18 (.call 289 [(.t 13),(.t 17)])]
@[simp] def aaC:Ω:=[μ 19 3,σ 20 (.ak (.t 19)),ρ 21 20,γ 22 .add 21 1,σ 23 (.ak (.t 19)),ω 1 23 22]
@[simp] def aaJ:Ω:=[μ 24 2,μ 25 1,μ 8 24,μ 9 25]
@[simp] def Wr:Ω:=[μ 26 1,μ 27 2,μ 8 26,μ 9 27]
def SG:an:=⟨[.t 8,.t 9],(.seq (.region TG [0,1,2,3]) (.seq (.seq (.au abn [] [] [1,2,3,18]) (.cond (.t 18) (.seq (.region aaC [1,2]) (.seq (.region aaJ [8,9]) .ret)) .skip)) (.seq (.region Wr [8,9]) .ret))),false⟩
@[simp] def Re:Ω:=[σ 0 (.mv (.c (.bool false)))]
@[simp] def Ri:Ω:=[σ 9 (.call 105 [(.c (.str [97,32,98,32,99,32,100]))]),σ 1 (.alloc [(.str []),θ,δ,δ,δ,δ,δ,δ,δ,δ,δ,δ,δ,δ,δ,δ,δ,δ,δ,(.str []),θ]),ω 21 1 9]
@[simp] def L3:Ω:=[φ 10 2 1,φ 11 3 10,⟨none,.store 1 (.t 11) (κ 5),none⟩,φ 12 2 1,φ 13 4 12,⟨none,.store 1 (.t 13) (κ 2),none⟩,φ 14 2 1,φ 15 5 14,⟨none,.store 1 (.t 15) (κ 1),none⟩]
@[simp] def PE:Ω:=[σ 16 (.call 305 []),μ 17 16,τ 18 (.load 21 true (.t 1)) 17 true,τ 19 (.build [δ,δ] [(1,1,(κ 21))]) 17 true,τ 20 (.build [δ,δ,δ,δ,δ,(.bool false),δ] [(1,1,(κ 4)),(2,1,(κ 7)),(3,1,(κ 13)),(4,1,(κ 13))]) 17 true,τ 21 (.build [δ,δ,δ,δ,δ,(.bool false),δ] [(0,1,(κ 4)),(1,1,(κ 7)),(2,1,(κ 2)),(3,1,(κ 18)),(4,1,(κ 13))]) 17 true,τ 22 (.lit 7 true [δ,δ,δ,δ,δ,(.bool false),δ] 2 [(0,(.t 20)),(1,(.t 21))]) 17 true,τ 23 (.call 306 [(.t 18),(.t 19),(.t 22)]) 17 true,ξ 24 17 23,μ 2 24]
@[simp] def Vx:Ω:=[σ 25 (.call 105 [(.c (.str [97,32,98,32,99,32,100]))]),σ 3 (.alloc [(.str []),θ,δ,δ,δ,δ,δ,δ,δ,δ,δ,δ,δ,δ,δ,δ,δ,δ,δ,(.str []),θ]),ω 21 3 25]
@[simp] def W7:Ω:=[φ 26 19 3,⟨none,.store 1 (.t 26) (.c (.str [49,46])),none⟩]
@[simp] def adA:Ω:=[Λ 27 21 3,σ 28 (.build [δ,δ] [(0,1,(κ 10)),(1,1,(κ 24))]),σ 29 (.build [δ,δ,δ,δ,δ,(.bool false),δ] [(1,1,(κ 4)),(2,1,(κ 21)),(3,1,(κ 13)),(4,1,(κ 13))]),σ 30 (.build [δ,δ,δ,δ,δ,(.bool false),δ] [(0,1,(κ 4)),(1,1,(κ 7)),(2,1,(κ 10)),(3,1,(κ 24)),(4,1,(κ 13))]),σ 31 (.lit 7 true [δ,δ,δ,δ,δ,(.bool false),δ] 2 [(0,(.t 29)),(1,(.t 30))]),σ 32 (.call 306 [(.t 27),(.t 28),(.t 31)]),μ 4 32]
@[simp] def Ux:Ω:=[σ 33 (.call 105 [(.c (.str []))]),σ 34 (.build [δ,δ] [(0,1,(κ 3)),(1,1,(κ 9))]),σ 35 (.build [δ,δ,δ,δ,δ,(.bool false),δ] [(2,1,(κ 3)),(3,1,(κ 9))]),σ 36 (.lit 7 true [δ,δ,δ,δ,δ,(.bool false),δ] 1 [(0,(.t 35))]),σ 37 (.call 306 [(.t 33),(.t 34),(.t 36)]),μ 5 37]
@[simp] def Ym:Ω:=[σ 38 (.call 105 [(.c (.str [97,32,98,32,99,32,100]))]),σ 6 (.alloc [(.str []),θ,δ,δ,δ,δ,δ,δ,δ,δ,δ,δ,δ,δ,δ,δ,δ,δ,δ,(.str []),θ]),ω 21 6 38]
@[simp] def Oa:Ω:=[φ 39 2 6,φ 40 13 39,⟨none,.store 1 (.t 40) (κ 1),none⟩]
@[simp] def EG:Ω:=[Λ 42 21 6,σ 43 (.build [δ,δ] [(1,1,(κ 4))]),σ 44 (.call 307 [(.t 42),(.c θ),(.t 43)]),μ 41 44,ε 45 41 0,ε 46 41 1,μ 7 45,μ 8 46]
@[simp] def HX:Ω:=[μ 47 2,μ 48 47,Μ 49 4 48 true,ξ 50 48 49,μ 51 50,Μ 52 5 51 true,ξ 53 51 52,μ 54 53,Μ 55 8 54 true,τ 56 (.bin .eql (.t 55) (κ 0)) 54 true,ξ 57 54 56,μ 58 57,Μ 59 7 58 true,τ 60 (.len .slice (.t 59)) 58 true,τ 61 (.bin .eql (.t 60) (κ 4)) 58 true,ξ 62 58 61,μ 63 62,Μ 64 7 63 true,τ 65 (.aJ 7 (.t 64) (κ 0)) 63 true,Φ 66 6 65 63 true,Ρ 67 66 63 true,τ 68 (.bin .eql (.t 67) (κ 3)) 63 true,ξ 69 63 68,μ 70 69,Μ 71 7 70 true,τ 72 (.aJ 7 (.t 71) (κ 3)) 70 true,Φ 73 6 72 70 true,Ρ 74 73 70 true,τ 75 (.bin .eql (.t 74) (κ 3)) 70 true,ξ 76 70 75,μ 0 76]
def OK:an:=⟨[.t 0],(.seq (.region Re []) (.seq (.region Ri [1]) (.seq (.region L3 [1]) (.seq (.region PE [2]) (.seq (.region Vx [2,3]) (.seq (.region W7 [2,3]) (.seq (.region adA [2,4]) (.seq (.region Ux [2,4,5]) (.seq (.region Ym [2,4,5,6]) (.seq (.region Oa [2,4,5,6]) (.seq (.region EG [2,4,5,7,8]) (.seq (.region HX [0]) .ret)))))))))))),true⟩
@[simp] def A7:Ω:=[σ 5 (.box 21 (.t 0)),σ 7 (.box 2 (.t 2)),σ 9 (.box 2 (.t 4)),σ 10 (.mv (.c (.bool false)))]
@[simp] def B6:Ω:=[σ 18 (.call 300 []),μ 11 18]
@[simp] def Ck:Ω:=[Λ 19 21 5,σ 20 (.call 308 [(.t 19)]),μ 21 20,Μ 22 1 21 false,τ 23 (.len .slice (.t 22)) 21 false,τ 24 (.bin .gtr (.t 23) (κ 200)) 21 false,ζ 25 21 24,μ 26 25,Μ 27 3 26 false,τ 28 (.len .slice (.t 27)) 26 false,τ 29 (.bin .gtr (.t 28) (κ 50)) 26 false,ζ 30 26 29,μ 31 30,Φ 32 2 5 31 false,Φ 33 13 32 31 false,Ρ 34 33 31 false,τ 35 (.bin .eql (.t 34) (κ 1)) 31 false,ζ 36 31 35]
@[simp] def C1:Ω:=[μ 37 11,μ 10 37]
@[simp] def Dq:Ω:=[Λ 39 21 5,μ 40 1,Λ 41 2 7,σ 42 (.call 307 [(.t 39),(.t 40),(.t 41)]),μ 38 42,ε 43 38 0,ε 44 38 1,μ 12 43,μ 13 44]
@[simp] def C5:Ω:=[μ 45 13,γ 46 .neq 45 0]
@[simp] def Ct:Ω:=[μ 47 11,μ 10 47]
@[simp] def AX:Ω:=[σ 14 (.mv (.c θ))]
@[simp] def Co:Ω:=[η 15 0]
@[simp] def PZ:Ω:=[μ 48 15,μ 49 12,ν 50 .slice 49,β 51 .lss 48 50,μ 52 51,Μ 53 15 52 true,τ 54 (.bin .lss (.t 53) (κ 200)) 52 true,ξ 55 52 54]
@[simp] def GY:Ω:=[μ 58 15,μ 59 1,ν 60 .slice 59,β 61 .lss 58 60]
@[simp] def Fx:Ω:=[μ 62 14,μ 63 1,μ 64 15,ι 65 2 63 64,Λ 66 2 65,σ 67 (.lit 2 true [δ,δ] 1 [(0,(.t 66))]),σ 68 (.append 2 true 16 (.t 62) (.t 67)),μ 14 68]
@[simp] def Gf:Ω:=[μ 69 14,Λ 70 2 7,σ 71 (.lit 2 true [δ,δ] 1 [(0,(.t 70))]),σ 72 (.append 2 true 16 (.t 69) (.t 71)),μ 14 72]
@[simp] def IX:Ω:=[μ 56 15,γ 57 .add 56 1,μ 15 57]
def pZ:RC:=(.seq (.seq (.region PZ [1,3,5,7,9,11,12,14,15,55]) (.cond (.t 55) .skip (.exit 0))) (.seq (.block 1 (.seq (.region GY [1,3,5,7,9,11,12,14,15,61]) (.cond (.t 61) (.region Fx [1,3,5,7,9,11,12,14,15]) (.region Gf [1,3,5,7,9,11,12,14,15])))) (.region IX [1,3,5,7,9,11,12,14,15])))
def nh:RC:=.loop [1,3,5,7,9,11,12,14,15] pZ
@[simp] def yH:Ω:=[Λ 74 21 5,μ 75 14,μ 76 3,σ 77 (.append 2 true 16 (.t 75) (.t 76)),Λ 78 2 9,σ 79 (.call 307 [(.t 74),(.t 77),(.t 78)]),μ 73 79,ε 80 73 0,ε 81 73 1,μ 16 80,μ 17 81]
@[simp] def zm:Ω:=[μ 82 11,μ 83 82,Μ 84 12 83 true,τ 85 (.len .slice (.t 84)) 83 true,τ 86 (.bin .gtr (.t 85) (κ 200)) 83 true,Μ 87 86 83 true,Μ 88 17 87 false,τ 89 (.bin .neq (.t 88) (κ 0)) 87 false,τ 90 (.pick (.t 87) (.c (.bool true)) (.t 89)) 83 true,Μ 91 90 83 true,Μ 92 12 91 false,Μ 93 16 91 false,τ 94 (.call 309 [(.t 92),(.t 93)]) 91 false,τ 95 (.pick (.t 91) (.c (.bool true)) (.t 94)) 83 true,ξ 96 83 95,μ 10 96]
def CZ:an:=⟨[.t 10],(.seq (.region A7 [1,3,5,7,9]) (.seq (.region B6 [1,3,5,7,9,11]) (.seq (.seq (.region Ck [1,3,5,7,9,11,36]) (.cond (.t 36) (.seq (.region C1 [10]) .ret) .skip)) (.seq (.region Dq [1,3,5,7,9,11,12,13]) (.seq (.seq (.region C5 [1,3,5,7,9,11,12,46]) (.cond (.t 46) (.seq (.region Ct [10]) .ret) .skip)) (.seq (.region AX [1,3,5,7,9,11,12,14]) (.seq (.seq (.region Co [1,3,5,7,9,11,12,14,15]) (.block 0 nh)) (.seq (.au yH [] [(0,[1]),(4,[0])] [11,12,16,17]) (.seq (.region zm [10]) .ret))))))))),true⟩
@[simp] def SM:Ω:=[σ 0 (.mv (.c (.bool false)))]
@[simp] def R4:Ω:=[σ 1 (.call 105 [(.c (.str [97,32,98,32,99,32,100]))]),σ 2 (.build [δ,δ] [(1,1,(κ 13))]),σ 3 (.build [δ,δ,δ,δ,δ,(.bool false),δ] [(1,1,(κ 4)),(3,1,(κ 13)),(4,1,(κ 13))]),σ 4 (.build [δ,δ,δ,δ,δ,(.bool false),δ] [(0,1,(κ 4)),(1,1,(κ 7)),(3,1,(κ 13)),(4,1,(κ 13))]),σ 5 (.lit 7 true [δ,δ,δ,δ,δ,(.bool false),δ] 2 [(0,(.t 3)),(1,(.t 4))]),σ 6 (.call 306 [(.t 1),(.t 2),(.t 5)]),μ 0 6]
def W8:an:=⟨[.t 0],(.seq (.region SM []) (.seq (.region R4 [0]) .ret)),true⟩
@[simp] def QD:Ω:=[σ 3 (.box 21 (.t 0)),σ 4 (.box 2 (.t 1)),σ 6 (.mv (.c (.bool false)))]
@[simp] def SN:Ω:=[Λ 10 21 3,Λ 11 2 4,σ 12 (.call 307 [(.t 10),(.c θ),(.t 11)]),μ 9 12,ε 13 9 0,ε 14 9 1,μ 7 13,μ 8 14]
@[simp] def Ze:Ω:=[μ 15 8,γ 16 .eql 15 0,μ 17 16,Μ 18 7 17 true,Μ 19 2 17 true,τ 20 (.call 309 [(.t 18),(.t 19)]) 17 true,ξ 21 17 20,μ 6 21]
def WD:an:=⟨[.t 6],(.seq (.region QD [2,3,4]) (.seq (.region SN [2,7,8]) (.seq (.region Ze [6]) .ret))),true⟩
@[simp] def Q9:Ω:=[σ 3 (.box 21 (.t 0)),σ 5 (.box 2 (.t 2)),σ 6 (.mv (.c θ)),η 7 0]
@[simp] def Nm:Ω:=[Λ 24 21 3,μ 25 1,Λ 26 2 5,σ 27 (.call 319 [(.t 24),(.t 25),(.t 26)]),μ 8 27]
@[simp] def aaT:Ω:=[μ 28 8,γ 29 .neq 28 0]
@[simp] def aaX:Ω:=[μ 30 8,σ 6 (.mv (.c θ)),μ 7 30]
@[simp] def Lq:Ω:=[Λ 32 21 3,σ 33 (.call 106 [(.t 32)]),μ 31 33,ε 34 31 0,ε 35 31 1,μ 9 34,μ 10 35]
@[simp] def ZP:Ω:=[Λ 37 21 3,μ 38 1,Λ 39 2 5,σ 40 (.call 320 [(.t 37),(.t 38),(.t 39)]),μ 36 40,ε 41 36 0,ε 42 36 1,σ 12 (.alloc [δ,δ]),μ 11 41,ω 2 12 42]
@[simp] def L4:Ω:=[Λ 43 21 3,μ 44 9,μ 45 11,Λ 46 2 12,σ 47 (.call 321 [(.t 43),(.t 44),(.t 45),(.t 46)]),σ 13 (.alloc [θ,(.bool false),(.bool false)]),ω 3 13 47]
@[simp] def Rt:Ω:=[σ 14 (.mv (.c θ))]
@[simp] def QP:Ω:=[η 15 0]
@[simp] def MC:Ω:=[φ 48 0 13,ρ 49 48,ν 50 .slice 49,η 51 0]
@[simp] def D4:Ω:=[β 52 .lss 51 50]
@[simp] def JI:Ω:=[μ 53 51,ι 54 5 49 51,Λ 55 5 54,σ 17 (.alloc [δ,δ,(.bool false),(.bool false),δ]),μ 16 53,ω 5 17 55]
@[simp] def FV:Ω:=[μ 56 11,Λ 57 2 12,μ 58 16,σ 59 (.call 114 [(.t 56),(.t 57),(.t 58)]),σ 18 (.alloc [δ,δ]),ω 2 18 59]
@[simp] def JD:Ω:=[φ 60 0 3,ρ 61 60,ν 62 .str 61,μ 19 62]
@[simp] def Hy:Ω:=[μ 63 16,γ 64 .add 63 1,φ 65 0 13,ρ 66 65,ν 67 .slice 66,β 68 .lss 64 67]
@[simp] def IB:Ω:=[μ 69 9,φ 70 0 13,ρ 71 70,μ 72 16,γ 73 .add 72 1,ι 74 5 71 73,φ 75 0 74,ρ 76 75,ι 77 8 69 76,φ 78 1 77,ρ 79 78,μ 19 79]
@[simp] def IT:Ω:=[μ 80 15,μ 81 19,φ 82 0 18,ρ 83 82,φ 84 1 18,ρ 85 84,φ 86 4 17,ρ 87 86,φ 88 3 17,ρ 89 88,σ 90 (.build [δ,δ,δ,δ,δ,(.bool false),δ] [(0,1,(.t 80)),(1,1,(.t 81)),(2,1,(.t 83)),(3,1,(.t 85)),(4,1,(.t 87)),(5,1,(.t 89))]),σ 20 (.alloc [δ,δ,δ,δ,δ,(.bool false),δ]),ω 7 20 90]
@[simp] def Hh:Ω:=[μ 92 9,φ 93 0 17,ρ 94 93,φ 95 1 17,ρ 96 95,σ 97 (.call 322 [(.t 92),(.t 94),(.t 96)]),μ 91 97,ε 98 91 0,ε 99 91 1,ε 100 91 2,μ 21 98,μ 22 99,μ 23 100]
@[simp] def Ea:Ω:=[φ 101 1 13,ρ 102 101,μ 103 102,Φ 104 2 17 103 true,Ρ 105 104 103 true,ξ 106 103 105,μ 107 106,Φ 108 1 13 107 false,Ρ 109 108 107 false,τ 110 (.un .not (.t 109)) 107 false,Μ 111 110 107 false,Φ 112 4 17 111 true,Ρ 113 112 111 true,Φ 114 1 18 111 true,Ρ 115 114 111 true,Μ 116 22 111 true,τ 117 (.bin .add (.t 115) (.t 116)) 111 true,τ 118 (.bin .gtr (.t 113) (.t 117)) 111 true,τ 119 (.pick (.t 111) (.t 118) (.c (.bool false))) 107 false,ζ 120 107 119]
@[simp] def FE:Ω:=[φ 121 6 20,ρ 122 121,γ 123 .add 122 1,φ 124 6 20,ω 1 124 123]
@[simp] def FF:Ω:=[φ 125 2 13,ρ 126 125]
@[simp] def Iu:Ω:=[φ 127 6 20,ρ 128 127,γ 129 .add 128 2,φ 130 6 20,ω 1 130 129]
@[simp] def H6:Ω:=[μ 131 14,Λ 132 7 20,σ 133 (.lit 7 true [δ,δ,δ,δ,δ,(.bool false),δ] 1 [(0,(.t 132))]),σ 134 (.append 7 true 56 (.t 131) (.t 133)),μ 14 134]
@[simp] def II:Ω:=[μ 135 19,μ 15 135]
@[simp] def I1:Ω:=[γ 136 .add 51 1,μ 51 136]
def my:RC:=(.seq (.region D4 [3,9,11,12,13,14,15,49,50,51,52]) (.seq (.cond (.t 52) .skip (.exit 0)) (.seq (.block 1 (.seq (.region JI [3,9,11,12,13,14,15,16,17,49,50,51]) (.seq (.region FV [3,9,11,12,13,14,15,16,17,18,49,50,51]) (.seq (.region JD [3,9,11,12,13,14,15,16,17,18,19,49,50,51]) (.seq (.seq (.region Hy [3,9,11,12,13,14,15,16,17,18,19,49,50,51,68]) (.cond (.t 68) (.region IB [3,9,11,12,13,14,15,17,18,19,49,50,51]) .skip)) (.seq (.region IT [3,9,11,12,13,14,17,18,19,20,49,50,51]) (.seq (.region Hh [3,9,11,12,13,14,17,18,19,20,22,49,50,51]) (.seq (.seq (.region Ea [3,9,11,12,13,14,19,20,49,50,51,120]) (.cond (.t 120) (.region FE [3,9,11,12,13,14,19,20,49,50,51]) .skip)) (.seq (.seq (.region FF [3,9,11,12,13,14,19,20,49,50,51,126]) (.cond (.t 126) (.region Iu [3,9,11,12,13,14,19,20,49,50,51]) .skip)) (.seq (.region H6 [3,9,11,12,13,14,19,49,50,51]) (.region II [3,9,11,12,13,14,15,49,50,51]))))))))))) (.region I1 [3,9,11,12,13,14,15,49,50,51]))))
def sc:RC:=.loop [3,9,11,12,13,14,15,49,50,51] my
@[simp] def Kb:Ω:=[μ 137 14,μ 6 137,η 7 0]
def z9:an:=⟨[.t 6,.t 7],(.seq (.region Q9 [1,3,5]) (.seq (.seq (.region Nm [1,3,5,8]) (.seq (.region aaT [1,3,5,8,29]) (.cond (.t 29) (.seq (.region aaX [6,7]) .ret) .skip))) (.seq (.region Lq [1,3,5,9]) (.seq (.region ZP [3,9,11,12]) (.seq (.region L4 [3,9,11,12,13]) (.seq (.region Rt [3,9,11,12,13,14]) (.seq (.region QP [3,9,11,12,13,14,15]) (.seq (.seq (.region MC [3,9,11,12,13,14,15,49,50,51]) (.block 0 sc)) (.seq (.region Kb [6,7]) .ret))))))))),true⟩
@[simp] def Z1:Ω:=[σ 1 (.box 21 (.t 0)),σ 2 (.mv (.c (.bool false)))]
@[simp] def adu:Ω:=[φ 3 0 1,ρ 4 3,ν 5 .str 4,γ 6 .gtr 5 300,μ 7 6,Φ 8 0 1 7 true,Ρ 9 8 7 true,τ 10 (.len .str (.t 9)) 7 true,τ 11 (.bin .leq (.t 10) (κ 4096)) 7 true,ξ 12 7 11,μ 13 12,Φ 14 1 1 13 false,Ρ 15 14 13 false,τ 16 (.len .slice (.t 15)) 13 false,τ 17 (.bin .gtr (.t 16) (κ 5000)) 13 false,ζ 18 13 17,μ 19 18,Φ 20 20 1 19 false,Ρ 21 20 19 false,τ 22 (.len .slice (.t 21)) 19 false,τ 23 (.bin .gtr (.t 22) (κ 5000)) 19 false,ζ 24 19 23,μ 2 24]
def pR:an:=⟨[.t 2],(.seq (.region Z1 [1]) (.seq (.region adu [2]) .ret)),true⟩
@[simp] def Yx:Ω:=[σ 4 (.mv (.c (.bool false)))]
@[simp] def OU:Ω:=[μ 6 0,ν 7 .slice 6,μ 8 1,ν 9 .slice 8,β 10 .neq 7 9]
@[simp] def UP:Ω:=[σ 4 (.mv (.c (.bool false)))]
@[simp] def XW:Ω:=[η 5 0]
@[simp] def Xz:Ω:=[μ 11 5,μ 12 0,ν 13 .slice 12,β 14 .lss 11 13]
@[simp] def Sa:Ω:=[μ 17 0,μ 18 5,ι 19 7 17 18,Λ 20 7 19,μ 21 1,μ 22 5,ι 23 7 21 22,Λ 24 7 23,σ 25 (.eq (.agg [.int,.int,.int,.int,.int,.bool,.int]) true (.t 20) (.t 24))]
@[simp] def aae:Ω:=[σ 4 (.mv (.c (.bool false)))]
@[simp] def Mk:Ω:=[μ 15 5,γ 16 .add 15 1,μ 5 16]
def xl:RC:=(.seq (.seq (.region Xz [0,1,5,14]) (.cond (.t 14) .skip (.exit 0))) (.seq (.block 1 (.seq (.au Sa [] [] [0,1,5,25]) (.cond (.t 25) (.seq (.region aae [4]) .ret) .skip))) (.region Mk [0,1,5])))
def ta:RC:=.loop [0,1,5] xl
@[simp] def Qi:Ω:=[σ 4 (.mv (.c (.bool true)))]
def CS:an:=⟨[.t 4],(.seq (.region Yx [0,1]) (.seq (.seq (.region OU [0,1,10]) (.cond (.t 10) (.seq (.region UP [4]) .ret) .skip)) (.seq (.seq (.region XW [0,1,5]) (.block 0 ta)) (.seq (.region Qi [4]) .ret)))),true⟩
@[simp] def abK:Ω:=[σ 3 (.box 21 (.t 0)),σ 5 (.box 2 (.t 2)),η 6 0]
@[simp] def Yt:Ω:=[Λ 8 21 3,σ 9 (.call 13 [(.t 8)]),μ 7 9]
@[simp] def PK:Ω:=[μ 10 7,γ 11 .neq 10 0]
@[simp] def Yn:Ω:=[μ 12 7,μ 6 12]
@[simp] def adC:Ω:=[μ 13 1,Λ 14 2 5,σ 15 (.call 126 [(.t 13),(.t 14)]),μ 6 15]
def zQ:an:=⟨[.t 6],(.seq (.region abK [1,3,5]) (.seq (.seq (.region Yt [1,5,7]) (.seq (.region PK [1,5,7,11]) (.cond (.t 11) (.seq (.region Yn [6]) .ret) .skip))) (.seq (.region adC [6]) .ret))),true⟩
@[simp] def abF:Ω:=[σ 3 (.box 21 (.t 0)),σ 5 (.box 2 (.t 2)),σ 6 (.mv (.c θ)),σ 7 (.alloc [δ,δ])]
@[simp] def QX:Ω:=[Λ 12 21 3,σ 13 (.call 330 [(.t 12)]),μ 8 13]
@[simp] def aaf:Ω:=[μ 14 1,ν 15 .slice 14,φ 16 2 3,φ 17 14 16,ρ 18 17,σ 19 (.max [(.t 15),(κ 1),(.t 18)]),μ 9 19]
@[simp] def acd:Ω:=[σ 10 (.mv (.c θ))]
@[simp] def WG:Ω:=[μ 20 9,η 21 0]
@[simp] def Us:Ω:=[β 22 .lss 21 20]
@[simp] def W3:Ω:=[μ 23 21,μ 11 23]
@[simp] def abJ:Ω:=[μ 24 10,Λ 25 21 3,μ 26 8,μ 27 1,Λ 28 2 5,μ 29 11,σ 30 (.call 114 [(.t 27),(.t 28),(.t 29)]),μ 31 11,σ 32 (.call 331 [(.t 25),(.t 26),(.t 30),(.t 31)]),σ 33 (.lit 2 true [δ,δ] 1 [(0,(.t 32))]),σ 34 (.append 2 true 16 (.t 24) (.t 33)),μ 10 34]
@[simp] def UU:Ω:=[γ 35 .add 21 1,μ 21 35]
def xP:RC:=(.seq (.region Us [1,3,5,7,8,9,10,20,21,22]) (.seq (.cond (.t 22) .skip (.exit 0)) (.seq (.block 1 (.seq (.region W3 [1,3,5,7,8,9,10,11,20,21]) (.au abJ [] [] [1,3,5,7,8,9,10,20,21]))) (.region UU [1,3,5,7,8,9,10,20,21]))))
def tH:RC:=.loop [1,3,5,7,8,9,10,20,21] xP
@[simp] def ZH:Ω:=[μ 36 10,Λ 37 21 3,μ 38 8,Λ 39 2 5,μ 40 9,σ 41 (.call 331 [(.t 37),(.t 38),(.t 39),(.t 40)]),μ 6 36,ω 2 7 41]
def Ba:an:=⟨[.t 6,.cell 7 2 true],(.seq (.region abF [1,3,5,7]) (.seq (.region QX [1,3,5,7,8]) (.seq (.region aaf [1,3,5,7,8,9]) (.seq (.region acd [1,3,5,7,8,9,10]) (.seq (.seq (.region WG [1,3,5,7,8,9,10,20,21]) (.block 0 tH)) (.seq (.region ZH [6,7]) .ret)))))),true⟩
@[simp] def ad5:Ω:=[σ 4 (.box 21 (.t 0)),σ 7 (.box 2 (.t 3)),σ 8 (.alloc [θ,(.bool false),(.bool false)])]
@[simp] def aa5:Ω:=[σ 9 (.mv (.f 113)),σ 10 (.mv (.c (.bool true)))]
@[simp] def YH:Ω:=[φ 13 2 4,φ 14 13 13,ρ 15 14,γ 16 .eql 15 1,μ 17 16,Μ 18 1 17 true,τ 19 (.call 108 [(.t 18)]) 17 true,τ 20 (.un .not (.t 19)) 17 true,ξ 21 17 20]
@[simp] def Ml:Ω:=[σ 9 (.mv (.f 332)),σ 10 (.mv (.c (.bool false)))]
@[simp] def X8:Ω:=[μ 23 9,μ 24 1,μ 25 2,Λ 26 2 7,σ 27 (.br (.t 23) [(.t 24),(.t 25),(.t 26)]),μ 22 27,ε 28 22 0,ε 29 22 1,μ 11 28,μ 12 29]
@[simp] def adp:Ω:=[μ 30 12,γ 31 .eql 30 0]
@[simp] def Tb:Ω:=[μ 32 11,μ 33 10,σ 34 (.build [θ,(.bool false),(.bool false)] [(0,1,(.t 32)),(1,1,(.t 33)),(2,1,(.c (.bool false)))]),ω 3 8 34]
@[simp] def QY:Ω:=[μ 36 1,μ 37 2,Λ 38 2 7,σ 39 (.call 113 [(.t 36),(.t 37),(.t 38)]),μ 35 39,ε 40 35 0,ε 41 35 1,μ 11 40]
@[simp] def YJ:Ω:=[μ 42 11,σ 43 (.build [θ,(.bool false),(.bool false)] [(0,1,(.t 42)),(1,1,(.c (.bool true))),(2,1,(.c (.bool true)))]),ω 3 8 43]
def z0:an:=⟨[.cell 8 3 true],(.seq (.region ad5 [1,2,4,7,8]) (.seq (.region aa5 [1,2,4,7,8,9,10]) (.seq (.seq (.region YH [1,2,7,8,9,10,21]) (.cond (.t 21) (.region Ml [1,2,7,8,9,10]) .skip)) (.seq (.region X8 [1,2,7,8,10,11,12]) (.seq (.seq (.region adp [1,2,7,8,10,11,31]) (.cond (.t 31) (.seq (.region Tb [8]) .ret) .skip)) (.seq (.region QY [8,11]) (.seq (.region YJ [8]) .ret))))))),true⟩
@[simp] def Of:Ω:=[η 6 0,η 7 0,η 8 0]
@[simp] def U6:Ω:=[μ 14 0,μ 15 1,μ 16 2,σ 17 (.call 121 [(.t 14),(.t 15),(.t 16)]),μ 9 17]
@[simp] def UB:Ω:=[μ 18 9,γ 19 .neq 18 0]
@[simp] def adD:Ω:=[μ 20 9,η 6 0,η 7 0,μ 8 20]
@[simp] def Li:Ω:=[η 10 0,η 11 0]
@[simp] def PU:Ω:=[μ 21 0,μ 22 1,μ 23 2,σ 24 (.call 123 [(.t 21),(.t 22),(.t 23)]),ν 25 .slice 24,η 26 0]
@[simp] def RO:Ω:=[β 27 .lss 26 25]
@[simp] def abS:Ω:=[ι 28 8 24 26,Λ 29 8 28,σ 13 (.alloc [δ,δ,δ,δ,δ,δ,δ,(.bool false)]),ω 8 13 29]
@[simp] def adT:Ω:=[μ 30 10,φ 31 4 13,ρ 32 31,β 33 .add 30 32,μ 10 33]
@[simp] def Y8:Ω:=[μ 34 11,φ 35 5 13,ρ 36 35,β 37 .add 34 36,μ 11 37]
@[simp] def J4:Ω:=[γ 38 .add 26 1,μ 26 38]
def xN:RC:=(.seq (.region RO [10,11,24,25,26,27]) (.seq (.cond (.t 27) .skip (.exit 0)) (.seq (.block 1 (.seq (.region abS [10,11,13,24,25,26]) (.seq (.region adT [10,11,13,24,25,26]) (.region Y8 [10,11,24,25,26])))) (.region J4 [10,11,24,25,26]))))
def tc:RC:=.loop [10,11,24,25,26] xN
@[simp] def HR:Ω:=[μ 39 10,μ 40 11,μ 6 39,μ 7 40,η 8 0]
def AJ:an:=⟨[.t 6,.t 7,.t 8],(.seq (.region Of [0,1,2]) (.seq (.seq (.region U6 [0,1,2,9]) (.seq (.region UB [0,1,2,9,19]) (.cond (.t 19) (.seq (.region adD [6,7,8]) .ret) .skip))) (.seq (.region Li [0,1,2,10,11]) (.seq (.seq (.region PU [10,11,24,25,26]) (.block 0 tc)) (.seq (.region HR [6,7,8]) .ret))))),true⟩
@[simp] def Pq:Ω:=[σ 1 (.box 21 (.t 0)),σ 2 (.mv (.c θ))]
@[simp] def adr:Ω:=[Λ 6 21 1,σ 7 (.call 211 [(.t 6)]),μ 5 7,ε 8 5 0,ε 9 5 1,σ 3 (.alloc [δ]),ω 1 3 8,μ 4 9]
@[simp] def Ts:Ω:=[σ 10 (.fF 343 [] [(.t 1)]),σ 11 (.fF 344 [] [(.t 1)]),σ 12 (.fF 346 [] [(.t 1),(.t 3)]),σ 13 (.jN 1 false [.bL] 3 [(0,(.t 10)),(1,(.t 11)),(2,(.t 12))]),μ 2 13]
def BH:an:=⟨[.t 2],(.seq (.region Pq [1]) (.seq (.region adr [1,3]) (.seq (.region Ts [2]) .ret))),false⟩
end Go.D.Tab
end
section
namespace Go.D.Tab
@[simp] def Wl:Ω:=[σ 4 (.box 21 (.t 0)),σ 6 (.box 2 (.t 2)),σ 8 (.alloc [δ,δ])]
@[simp] def Y0:Ω:=[η 9 0]
@[simp] def aca:Ω:=[μ 12 1,ν 13 .slice 12,η 14 0]
@[simp] def SX:Ω:=[β 15 .lss 14 13]
@[simp] def XX:Ω:=[ι 16 1 12 14,ρ 17 16,μ 11 17]
@[simp] def Na:Ω:=[μ 18 9,μ 19 11,μ 20 3,σ 21 (.br (.t 19) [(.t 20)]),β 22 .add 18 21,μ 9 22]
@[simp] def aer:Ω:=[γ 23 .add 14 1,μ 14 23]
def pk:RC:=(.seq (.region SX [3,4,6,8,9,12,13,14,15]) (.seq (.cond (.t 15) .skip (.exit 0)) (.seq (.block 1 (.seq (.region XX [3,4,6,8,9,11,12,13,14]) (.region Na [3,4,6,8,9,12,13,14]))) (.region aer [3,4,6,8,9,12,13,14]))))
def iT:RC:=.loop [3,4,6,8,9,12,13,14] pk
@[simp] def ZR:Ω:=[φ 24 0 6,ρ 25 24,μ 26 9,β 27 .add 25 26,σ 28 (.min [(.t 27),(κ 4095)]),φ 29 1 6,ρ 30 29,μ 31 9,β 32 .sub 30 31,φ 33 2 4,φ 34 5 33,ρ 35 34,β 36 .sub 32 35,σ 37 (.max [(.t 36),(κ 0)]),σ 38 (.build [δ,δ] [(0,1,(.t 28)),(1,1,(.t 37))]),ω 2 8 38]
def Dc:an:=⟨[.cell 8 2 true],(.seq (.region Wl [1,3,4,6,8]) (.seq (.region Y0 [1,3,4,6,8,9]) (.seq (.seq (.region aca [3,4,6,8,9,12,13,14]) (.block 0 iT)) (.seq (.region ZR [8]) .ret)))),false⟩
@[simp] def Nq:Ω:=[σ 5 (.box 2 (.t 2)),σ 6 (.mv (.c θ)),η 7 0]
@[simp] def V3:Ω:=[μ 12 0,μ 13 1,Λ 14 2 5,σ 15 (.call 218 [(.t 12),(.t 13),(.t 14)]),μ 11 15,ε 16 11 0,ε 17 11 1,ε 18 11 2,μ 8 16,μ 9 17,μ 10 18]
@[simp] def Y4:Ω:=[μ 19 8,μ 20 10,μ 6 19,μ 7 20]
def Ot:an:=⟨[.t 6,.t 7],(.seq (.region Nq [0,1,5]) (.seq (.region V3 [8,10]) (.seq (.region Y4 [6,7]) .ret))),true⟩
@[simp] def aaV:Ω:=[η 3 0]
@[simp] def UT:Ω:=[φ 4 2 1,φ 5 4 4,ρ 6 5,μ 3 6]
def BX:an:=⟨[.t 3],(.seq (.region aaV [1]) (.seq (.region UT [3]) .ret)),false⟩
@[simp] def Vy:Ω:=[η 3 0]
@[simp] def abH:Ω:=[μ 4 0,γ 5 .gtr 4 0]
@[simp] def NS:Ω:=[η 3 0]
@[simp] def abD:Ω:=[φ 6 2 1,φ 7 3 6,ρ 8 7,Λ 9 21 1,σ 10 (.call 345 [(.t 9)]),β 11 .add 8 10,μ 3 11]
def zS:an:=⟨[.t 3],(.seq (.region Vy [0,1]) (.seq (.seq (.region abH [1,5]) (.cond (.t 5) (.seq (.region NS [3]) .ret) .skip)) (.seq (.au abD [] [] [3]) .ret))),false⟩
@[simp] def aco:Ω:=[σ 1 (.box 21 (.t 0)),η 2 0]
@[simp] def Nr:Ω:=[φ 5 19 1,ρ 6 5,σ 7 (.bin .eql (.t 6) (.c (.str [])))]
@[simp] def aan:Ω:=[η 2 0]
@[simp] def WQ:Ω:=[φ 9 19 1,ρ 10 9,φ 11 2 1,φ 12 0 11,ρ 13 12,σ 14 (.call 17 [(.t 10),(.t 13)]),μ 8 14,ε 15 8 0,ε 16 8 1,μ 3 15,μ 4 16]
@[simp] def TW:Ω:=[μ 17 3,γ 18 .add 17 4,μ 2 18]
def AP:an:=⟨[.t 2],(.seq (.region aco [1]) (.seq (.seq (.region Nr [1,7]) (.cond (.t 7) (.seq (.region aan [2]) .ret) .skip)) (.seq (.region WQ [3]) (.seq (.region TW [2]) .ret)))),true⟩
@[simp] def PN:Ω:=[η 4 0]
@[simp] def Ro:Ω:=[μ 5 0,φ 6 2 1,φ 7 14 6,ρ 8 7,β 9 .geq 5 8]
@[simp] def VW:Ω:=[η 4 0]
@[simp] def ab2:Ω:=[ρ 10 2,μ 4 10]
def zT:an:=⟨[.t 4],(.seq (.region PN [0,1,2]) (.seq (.seq (.region Ro [2,9]) (.cond (.t 9) (.seq (.region VW [4]) .ret) .skip)) (.seq (.region ab2 [4]) .ret))),false⟩
def tree:TT:=(.node 153 (.node 109 (.node 56 (.node 31 (.node 23 (.node 17 (.node 13 (.leaf 10 (.code f10)) (.leaf 13 (.code f13))) (.node 21 (.leaf 17 (.code f17)) (.leaf 21 (.code f21)))) (.node 27 (.node 26 (.leaf 23 (.code f23)) (.leaf 26 (.code f26))) (.node 29 (.leaf 27 (.code f27)) (.node 30 (.leaf 29 (.code f29)) (.leaf 30 (.code f30)))))) (.node 43 (.node 40 (.node 32 (.leaf 31 (.code f31)) (.leaf 32 (.code f32))) (.node 41 (.leaf 40 (.code f40)) (.node 42 (.leaf 41 (.code f41)) (.leaf 42 (.code f42))))) (.node 51 (.node 44 (.leaf 43 (.code f43)) (.leaf 44 (.code f44))) (.node 54 (.leaf 51 (.code f51)) (.node 55 (.leaf 54 (.code f54)) (.leaf 55 (.code f55))))))) (.node 70 (.node 63 (.node 61 (.node 57 (.leaf 56 (.code f56)) (.leaf 57 (.code f57))) (.node 62 (.leaf 61 (.code f61)) (.leaf 62 (.code f62)))) (.node 65 (.node 64 (.leaf 63 (.code f63)) (.leaf 64 (.iD eR))) (.node 68 (.leaf 65 (.code f65)) (.node 69 (.leaf 68 (.code f68)) (.leaf 69 (.code f69)))))) (.node 77 (.node 73 (.node 72 (.leaf 70 (.code f70)) (.leaf 72 (.iD eG))) (.node 74 (.leaf 73 (.code f73)) (.node 76 (.leaf 74 (.code f74)) (.leaf 76 (.code f76))))) (.node 105 (.node 78 (.leaf 77 (.code f77)) (.leaf 78 (.code f78))) (.node 106 (.leaf 105 (.code f105)) (.node 108 (.leaf 106 (.code f106)) (.leaf 108 (.code f108)))))))) (.node 134 (.node 123 (.node 117 (.node 113 (.node 110 (.leaf 109 (.code f109)) (.leaf 110 (.code f110))) (.node 114 (.leaf 113 (.code f113)) (.leaf 114 (.code f114)))) (.node 120 (.node 118 (.leaf 117 (.code f117)) (.leaf 118 (.code f118))) (.node 121 (.leaf 120 (.code f120)) (.node 122 (.leaf 121 (.code f121)) (.leaf 122 (.code f122)))))) (.node 129 (.node 126 (.node 124 (.leaf 123 (.code f123)) (.leaf 124 (.code f124))) (.node 127 (.leaf 126 (.code f126)) (.node 128 (.leaf 127 (.code f127)) (.leaf 128 (.code f128))))) (.node 131 (.node 130 (.leaf 129 (.code f129)) (.leaf 130 (.code f130))) (.node 132 (.leaf 131 (.code f131)) (.node 133 (.leaf 132 (.code f132)) (.leaf 133 (.code f133))))))) (.node 143 (.node 138 (.node 136 (.node 135 (.leaf 134 (.code f134)) (.leaf 135 (.code f135))) (.node 137 (.leaf 136 (.code f136)) (.leaf 137 (.code f137)))) (.node 140 (.node 139 (.leaf 138 (.code f138)) (.leaf 139 (.code f139))) (.node 141 (.leaf 140 (.code f140)) (.node 142 (.leaf 141 (.code f141)) (.leaf 142 (.code f142)))))) (.node 148 (.node 145 (.node 144 (.leaf 143 (.code f143)) (.leaf 144 (.code f144))) (.node 146 (.leaf 145 (.code f145)) (.node 147 (.leaf 146 (.code f146)) (.leaf 147 (.code f147))))) (.node 150 (.node 149 (.leaf 148 (.code f148)) (.leaf 149 (.code f149))) (.node 151 (.leaf 150 (.code f150)) (.node 152 (.leaf 151 (.code f151)) (.leaf 152 (.code f152))))))))) (.node 279 (.node 243 (.node 162 (.node 157 (.node 155 (.node 154 (.leaf 153 (.code f153)) (.leaf 154 (.code f154))) (.node 156 (.leaf 155 (.code f155)) (.leaf 156 (.code f156)))) (.node 159 (.node 158 (.leaf 157 (.code f157)) (.leaf 158 (.code f158))) (.node 160 (.leaf 159 (.code f159)) (.node 161 (.leaf 160 (.code f160)) (.leaf 161 (.code f161)))))) (.node 167 (.node 164 (.node 163 (.leaf 162 (.code f162)) (.leaf 163 (.code f163))) (.node 165 (.leaf 164 (.code f164)) (.node 166 (.leaf 165 (.code f165)) (.leaf 166 (.code f166))))) (.node 218 (.node 211 (.leaf 167 (.code f167)) (.leaf 211 (.code f211))) (.node 234 (.leaf 218 (.code f218)) (.node 242 (.leaf 234 (.code f234)) (.leaf 242 (.code f242))))))) (.node 267 (.node 247 (.node 245 (.node 244 (.leaf 243 (.code f243)) (.leaf 244 (.code f244))) (.node 246 (.leaf 245 (.code f245)) (.leaf 246 (.code f246)))) (.node 249 (.node 248 (.leaf 247 (.code f247)) (.leaf 248 (.code f248))) (.node 265 (.leaf 249 (.code f249)) (.node 266 (.leaf 265 (.code f265)) (.leaf 266 (.code f266)))))) (.node 272 (.node 269 (.node 268 (.leaf 267 (.code f267)) (.leaf 268 (.code f268))) (.node 270 (.leaf 269 (.code f269)) (.node 271 (.leaf 270 (.code f270)) (.leaf 271 (.code f271))))) (.node 276 (.node 275 (.leaf 272 (.code f272)) (.leaf 275 (.code f275))) (.node 277 (.leaf 276 (.code f276)) (.node 278 (.leaf 277 (.code f277)) (.leaf 278 (.code f278)))))))) (.node 298 (.node 288 (.node 283 (.node 281 (.node 280 (.leaf 279 (.code f279)) (.leaf 280 (.code f280))) (.node 282 (.leaf 281 (.code f281)) (.leaf 282 (.code f282)))) (.node 285 (.node 284 (.leaf 283 (.code f283)) (.leaf 284 (.code f284))) (.node 286 (.leaf 285 (.code f285)) (.node 287 (.leaf 286 (.code f286)) (.leaf 287 (.code f287)))))) (.node 293 (.node 290 (.node 289 (.leaf 288 (.code f288)) (.leaf 289 (.code f289))) (.node 291 (.leaf 290 (.code f290)) (.node 292 (.leaf 291 (.code f291)) (.leaf 292 (.code LC))))) (.node 295 (.node 294 (.leaf 293 (.code Qt)) (.leaf 294 (.code YU))) (.node 296 (.leaf 295 (.code NF)) (.node 297 (.leaf 296 (.code YV)) (.leaf 297 (.code aba))))))) (.node 320 (.node 306 (.node 300 (.node 299 (.leaf 298 (.code W6)) (.leaf 299 (.code SG))) (.node 301 (.leaf 300 (.code OK)) (.node 305 (.leaf 301 (.code CZ)) (.leaf 305 (.code W8))))) (.node 308 (.node 307 (.leaf 306 (.code WD)) (.leaf 307 (.code z9))) (.node 309 (.leaf 308 (.code pR)) (.node 319 (.leaf 309 (.code CS)) (.leaf 319 (.code zQ)))))) (.node 332 (.node 322 (.node 321 (.leaf 320 (.code Ba)) (.leaf 321 (.code z0))) (.node 330 (.leaf 322 (.code AJ)) (.node 331 (.leaf 330 (.code BH)) (.leaf 331 (.code Dc))))) (.node 344 (.node 343 (.leaf 332 (.code Ot)) (.leaf 343 (.code BX))) (.node 345 (.leaf 344 (.code zS)) (.node 346 (.leaf 345 (.code AP)) (.leaf 346 (.code zT))))))))))
def fms:List (Nat×FuncId):=[(265,95),(266,96),(10,85),(267,56),(268,57),(269,97),(13,59),(270,99),(271,100),(272,101),(17,158),(275,160),(276,161),(277,102),(21,202),(278,103),(279,163),(23,157),(280,164),(281,165),(282,212),(26,30),(283,213),(27,116),(284,214),(285,215),(29,151),(286,216),(30,152),(287,217),(31,153),(288,218),(32,154),(289,219),(290,220),(291,221),(292,222),(293,223),(294,246),(295,247),(296,248),(40,117),(297,249),(41,118),(298,250),(42,119),(299,261),(43,120),(300,3),(44,121),(301,4),(305,9),(306,10),(307,11),(51,210),(308,12),(309,13),(54,174),(55,175),(56,201),(57,203),(61,176),(62,177),(319,31),(63,178),(64,179),(320,32),(65,180),(321,33),(322,35),(68,226),(69,227),(70,228),(72,229),(73,230),(74,253),(330,61),(75,254),(331,62),(332,64),(76,255),(77,256),(78,264),(343,124),(344,125),(345,126),(346,127),(105,8),(106,25),(108,26),(109,94),(110,231),(113,63),(114,34),(117,46),(118,47),(120,159),(121,65),(122,211),(123,66),(124,257),(126,60),(127,128),(128,129),(129,130),(130,131),(131,86),(132,87),(133,88),(134,89),(135,90),(136,91),(137,92),(138,93),(139,224),(140,122),(141,181),(142,182),(143,155),(144,156),(145,251),(146,252),(147,204),(148,205),(149,206),(150,207),(151,208),(152,209),(153,262),(154,263),(155,98),(156,240),(157,241),(158,242),(159,243),(160,244),(161,245),(162,162),(163,258),(164,259),(165,260),(166,265),(167,266),(211,123),(218,27),(234,167),(242,48),(243,49),(244,50),(245,51),(246,52),(247,53),(248,54),(249,55)]
def env:List (Nat×List Nat):=[(1,gF)]
end Go.D.Tab
end
section
namespace Go.D.Tab
open Go.Proofs
theorem ae5:ar Tryz.prog (aa fms env) (ab tree.get) f10 Tryz.f85=true:=by kernel_rfl
theorem aoJ (f:FuncId) (hf:aa fms env 10=some f):ah Tryz.prog (aa fms env) tree.get (.code f10) f:=by
 have h:aa fms env 10=some 85:=by kernel_rfl
 rw [h] at hf
 cases hf
 exact ae Tryz.func85 ae5
theorem amV:ar Tryz.prog (aa fms env) (ab tree.get) f13 Tryz.f59=true:=by kernel_rfl
theorem anR (f:FuncId) (hf:aa fms env 13=some f):ah Tryz.prog (aa fms env) tree.get (.code f13) f:=by
 have h:aa fms env 13=some 59:=by kernel_rfl
 rw [h] at hf
 cases hf
 exact ae Tryz.func59 amV
theorem aka:ar Tryz.prog (aa fms env) (ab tree.get) f17 Tryz.f158=true:=by kernel_rfl
theorem an2 (f:FuncId) (hf:aa fms env 17=some f):ah Tryz.prog (aa fms env) tree.get (.code f17) f:=by
 have h:aa fms env 17=some 158:=by kernel_rfl
 rw [h] at hf
 cases hf
 exact ae Tryz.func158 aka
theorem alz:ar Tryz.prog (aa fms env) (ab tree.get) f21 Tryz.f202=true:=by kernel_rfl
theorem aod (f:FuncId) (hf:aa fms env 21=some f):ah Tryz.prog (aa fms env) tree.get (.code f21) f:=by
 have h:aa fms env 21=some 202:=by kernel_rfl
 rw [h] at hf
 cases hf
 exact ae Tryz.func202 alz
theorem ajD:ar Tryz.prog (aa fms env) (ab tree.get) f23 Tryz.f157=true:=by kernel_rfl
theorem aoP (f:FuncId) (hf:aa fms env 23=some f):ah Tryz.prog (aa fms env) tree.get (.code f23) f:=by
 have h:aa fms env 23=some 157:=by kernel_rfl
 rw [h] at hf
 cases hf
 exact ae Tryz.func157 ajD
theorem amX:ar Tryz.prog (aa fms env) (ab tree.get) f26 Tryz.f30=true:=by kernel_rfl
theorem ao9 (f:FuncId) (hf:aa fms env 26=some f):ah Tryz.prog (aa fms env) tree.get (.code f26) f:=by
 have h:aa fms env 26=some 30:=by kernel_rfl
 rw [h] at hf
 cases hf
 exact ae Tryz.func30 amX
theorem ag8:ar Tryz.prog (aa fms env) (ab tree.get) f27 Tryz.f116=true:=by kernel_rfl
theorem aoF (f:FuncId) (hf:aa fms env 27=some f):ah Tryz.prog (aa fms env) tree.get (.code f27) f:=by
 have h:aa fms env 27=some 116:=by kernel_rfl
 rw [h] at hf
 cases hf
 exact ae Tryz.func116 ag8
theorem aiz:ar Tryz.prog (aa fms env) (ab tree.get) f29 Tryz.f151=true:=by kernel_rfl
theorem an5 (f:FuncId) (hf:aa fms env 29=some f):ah Tryz.prog (aa fms env) tree.get (.code f29) f:=by
 have h:aa fms env 29=some 151:=by kernel_rfl
 rw [h] at hf
 cases hf
 exact ae Tryz.func151 aiz
theorem afr:ar Tryz.prog (aa fms env) (ab tree.get) f30 Tryz.f152=true:=by kernel_rfl
theorem anY (f:FuncId) (hf:aa fms env 30=some f):ah Tryz.prog (aa fms env) tree.get (.code f30) f:=by
 have h:aa fms env 30=some 152:=by kernel_rfl
 rw [h] at hf
 cases hf
 exact ae Tryz.func152 afr
theorem ahy:ar Tryz.prog (aa fms env) (ab tree.get) f31 Tryz.f153=true:=by kernel_rfl
theorem ao5 (f:FuncId) (hf:aa fms env 31=some f):ah Tryz.prog (aa fms env) tree.get (.code f31) f:=by
 have h:aa fms env 31=some 153:=by kernel_rfl
 rw [h] at hf
 cases hf
 exact ae Tryz.func153 ahy
theorem aj1:ar Tryz.prog (aa fms env) (ab tree.get) f32 Tryz.f154=true:=by kernel_rfl
theorem ao0 (f:FuncId) (hf:aa fms env 32=some f):ah Tryz.prog (aa fms env) tree.get (.code f32) f:=by
 have h:aa fms env 32=some 154:=by kernel_rfl
 rw [h] at hf
 cases hf
 exact ae Tryz.func154 aj1
theorem agV:ar Tryz.prog (aa fms env) (ab tree.get) f40 Tryz.f117=true:=by kernel_rfl
theorem aoA (f:FuncId) (hf:aa fms env 40=some f):ah Tryz.prog (aa fms env) tree.get (.code f40) f:=by
 have h:aa fms env 40=some 117:=by kernel_rfl
 rw [h] at hf
 cases hf
 exact ae Tryz.func117 agV
theorem aiI:ar Tryz.prog (aa fms env) (ab tree.get) f41 Tryz.f118=true:=by kernel_rfl
theorem aoB (f:FuncId) (hf:aa fms env 41=some f):ah Tryz.prog (aa fms env) tree.get (.code f41) f:=by
 have h:aa fms env 41=some 118:=by kernel_rfl
 rw [h] at hf
 cases hf
 exact ae Tryz.func118 aiI
theorem alM:ar Tryz.prog (aa fms env) (ab tree.get) f42 Tryz.f119=true:=by kernel_rfl
theorem aoM (f:FuncId) (hf:aa fms env 42=some f):ah Tryz.prog (aa fms env) tree.get (.code f42) f:=by
 have h:aa fms env 42=some 119:=by kernel_rfl
 rw [h] at hf
 cases hf
 exact ae Tryz.func119 alM
theorem alL:ar Tryz.prog (aa fms env) (ab tree.get) f43 Tryz.f120=true:=by kernel_rfl
theorem aog (f:FuncId) (hf:aa fms env 43=some f):ah Tryz.prog (aa fms env) tree.get (.code f43) f:=by
 have h:aa fms env 43=some 120:=by kernel_rfl
 rw [h] at hf
 cases hf
 exact ae Tryz.func120 alL
theorem afa:ar Tryz.prog (aa fms env) (ab tree.get) f44 Tryz.f121=true:=by kernel_rfl
theorem aou (f:FuncId) (hf:aa fms env 44=some f):ah Tryz.prog (aa fms env) tree.get (.code f44) f:=by
 have h:aa fms env 44=some 121:=by kernel_rfl
 rw [h] at hf
 cases hf
 exact ae Tryz.func121 afa
theorem ajl:ar Tryz.prog (aa fms env) (ab tree.get) f51 Tryz.f210=true:=by kernel_rfl
theorem anL (f:FuncId) (hf:aa fms env 51=some f):ah Tryz.prog (aa fms env) tree.get (.code f51) f:=by
 have h:aa fms env 51=some 210:=by kernel_rfl
 rw [h] at hf
 cases hf
 exact ae Tryz.func210 ajl
theorem am5:ar Tryz.prog (aa fms env) (ab tree.get) f54 Tryz.f174=true:=by kernel_rfl
theorem an0 (f:FuncId) (hf:aa fms env 54=some f):ah Tryz.prog (aa fms env) tree.get (.code f54) f:=by
 have h:aa fms env 54=some 174:=by kernel_rfl
 rw [h] at hf
 cases hf
 exact ae Tryz.func174 am5
theorem afI:ar Tryz.prog (aa fms env) (ab tree.get) f55 Tryz.f175=true:=by kernel_rfl
theorem ao6 (f:FuncId) (hf:aa fms env 55=some f):ah Tryz.prog (aa fms env) tree.get (.code f55) f:=by
 have h:aa fms env 55=some 175:=by kernel_rfl
 rw [h] at hf
 cases hf
 exact ae Tryz.func175 afI
theorem ak9:ar Tryz.prog (aa fms env) (ab tree.get) f56 Tryz.f201=true:=by kernel_rfl
theorem aoy (f:FuncId) (hf:aa fms env 56=some f):ah Tryz.prog (aa fms env) tree.get (.code f56) f:=by
 have h:aa fms env 56=some 201:=by kernel_rfl
 rw [h] at hf
 cases hf
 exact ae Tryz.func201 ak9
theorem agj:ar Tryz.prog (aa fms env) (ab tree.get) f57 Tryz.f203=true:=by kernel_rfl
theorem aoH (f:FuncId) (hf:aa fms env 57=some f):ah Tryz.prog (aa fms env) tree.get (.code f57) f:=by
 have h:aa fms env 57=some 203:=by kernel_rfl
 rw [h] at hf
 cases hf
 exact ae Tryz.func203 agj
theorem aj9:ar Tryz.prog (aa fms env) (ab tree.get) f61 Tryz.f176=true:=by kernel_rfl
theorem anW (f:FuncId) (hf:aa fms env 61=some f):ah Tryz.prog (aa fms env) tree.get (.code f61) f:=by
 have h:aa fms env 61=some 176:=by kernel_rfl
 rw [h] at hf
 cases hf
 exact ae Tryz.func176 aj9
theorem ajr:ar Tryz.prog (aa fms env) (ab tree.get) f62 Tryz.f177=true:=by kernel_rfl
theorem aoh (f:FuncId) (hf:aa fms env 62=some f):ah Tryz.prog (aa fms env) tree.get (.code f62) f:=by
 have h:aa fms env 62=some 177:=by kernel_rfl
 rw [h] at hf
 cases hf
 exact ae Tryz.func177 ajr
theorem aha:ar Tryz.prog (aa fms env) (ab tree.get) f63 Tryz.f178=true:=by kernel_rfl
theorem aot (f:FuncId) (hf:aa fms env 63=some f):ah Tryz.prog (aa fms env) tree.get (.code f63) f:=by
 have h:aa fms env 63=some 178:=by kernel_rfl
 rw [h] at hf
 cases hf
 exact ae Tryz.func178 aha
theorem agp:ar Tryz.prog (aa fms env) (ab tree.get) f65 Tryz.f180=true:=by kernel_rfl
theorem ao7 (f:FuncId) (hf:aa fms env 65=some f):ah Tryz.prog (aa fms env) tree.get (.code f65) f:=by
 have h:aa fms env 65=some 180:=by kernel_rfl
 rw [h] at hf
 cases hf
 exact ae Tryz.func180 agp
theorem ahw:ar Tryz.prog (aa fms env) (ab tree.get) f68 Tryz.f226=true:=by kernel_rfl
theorem anO (f:FuncId) (hf:aa fms env 68=some f):ah Tryz.prog (aa fms env) tree.get (.code f68) f:=by
 have h:aa fms env 68=some 226:=by kernel_rfl
 rw [h] at hf
 cases hf
 exact ae Tryz.func226 ahw
theorem afF:ar Tryz.prog (aa fms env) (ab tree.get) f69 Tryz.f227=true:=by kernel_rfl
theorem an6 (f:FuncId) (hf:aa fms env 69=some f):ah Tryz.prog (aa fms env) tree.get (.code f69) f:=by
 have h:aa fms env 69=some 227:=by kernel_rfl
 rw [h] at hf
 cases hf
 exact ae Tryz.func227 afF
theorem age:ar Tryz.prog (aa fms env) (ab tree.get) f70 Tryz.f228=true:=by kernel_rfl
theorem aoc (f:FuncId) (hf:aa fms env 70=some f):ah Tryz.prog (aa fms env) tree.get (.code f70) f:=by
 have h:aa fms env 70=some 228:=by kernel_rfl
 rw [h] at hf
 cases hf
 exact ae Tryz.func228 age
theorem ahQ:ar Tryz.prog (aa fms env) (ab tree.get) f73 Tryz.f230=true:=by kernel_rfl
theorem aos (f:FuncId) (hf:aa fms env 73=some f):ah Tryz.prog (aa fms env) tree.get (.code f73) f:=by
 have h:aa fms env 73=some 230:=by kernel_rfl
 rw [h] at hf
 cases hf
 exact ae Tryz.func230 ahQ
theorem af9:ar Tryz.prog (aa fms env) (ab tree.get) f74 Tryz.f253=true:=by kernel_rfl
theorem aoO (f:FuncId) (hf:aa fms env 74=some f):ah Tryz.prog (aa fms env) tree.get (.code f74) f:=by
 have h:aa fms env 74=some 253:=by kernel_rfl
 rw [h] at hf
 cases hf
 exact ae Tryz.func253 af9
theorem aiF:ar Tryz.prog (aa fms env) (ab tree.get) f76 Tryz.f255=true:=by kernel_rfl
theorem aoU (f:FuncId) (hf:aa fms env 76=some f):ah Tryz.prog (aa fms env) tree.get (.code f76) f:=by
 have h:aa fms env 76=some 255:=by kernel_rfl
 rw [h] at hf
 cases hf
 exact ae Tryz.func255 aiF
theorem amJ:ar Tryz.prog (aa fms env) (ab tree.get) f77 Tryz.f256=true:=by kernel_rfl
theorem aok (f:FuncId) (hf:aa fms env 77=some f):ah Tryz.prog (aa fms env) tree.get (.code f77) f:=by
 have h:aa fms env 77=some 256:=by kernel_rfl
 rw [h] at hf
 cases hf
 exact ae Tryz.func256 amJ
theorem afd:ar Tryz.prog (aa fms env) (ab tree.get) f78 Tryz.f264=true:=by kernel_rfl
theorem aol (f:FuncId) (hf:aa fms env 78=some f):ah Tryz.prog (aa fms env) tree.get (.code f78) f:=by
 have h:aa fms env 78=some 264:=by kernel_rfl
 rw [h] at hf
 cases hf
 exact ae Tryz.func264 afd
theorem aay:ar Tryz.prog (aa fms env) (ab tree.get) f105 Tryz.f8=true:=by kernel_rfl
theorem amm (f:FuncId) (hf:aa fms env 105=some f):ah Tryz.prog (aa fms env) tree.get (.code f105) f:=by
 have h:aa fms env 105=some 8:=by kernel_rfl
 rw [h] at hf
 cases hf
 exact ae Tryz.func8 aay
theorem Ti:ar Tryz.prog (aa fms env) (ab tree.get) f106 Tryz.f25=true:=by kernel_rfl
theorem aiA (f:FuncId) (hf:aa fms env 106=some f):ah Tryz.prog (aa fms env) tree.get (.code f106) f:=by
 have h:aa fms env 106=some 25:=by kernel_rfl
 rw [h] at hf
 cases hf
 exact ae Tryz.func25 Ti
theorem TN:ar Tryz.prog (aa fms env) (ab tree.get) f108 Tryz.f26=true:=by kernel_rfl
theorem ale (f:FuncId) (hf:aa fms env 108=some f):ah Tryz.prog (aa fms env) tree.get (.code f108) f:=by
 have h:aa fms env 108=some 26:=by kernel_rfl
 rw [h] at hf
 cases hf
 exact ae Tryz.func26 TN
theorem WJ:ar Tryz.prog (aa fms env) (ab tree.get) f109 Tryz.f94=true:=by kernel_rfl
theorem ah1 (f:FuncId) (hf:aa fms env 109=some f):ah Tryz.prog (aa fms env) tree.get (.code f109) f:=by
 have h:aa fms env 109=some 94:=by kernel_rfl
 rw [h] at hf
 cases hf
 exact ae Tryz.func94 WJ
theorem aec:ar Tryz.prog (aa fms env) (ab tree.get) f110 Tryz.f231=true:=by kernel_rfl
theorem ajX (f:FuncId) (hf:aa fms env 110=some f):ah Tryz.prog (aa fms env) tree.get (.code f110) f:=by
 have h:aa fms env 110=some 231:=by kernel_rfl
 rw [h] at hf
 cases hf
 exact ae Tryz.func231 aec
theorem ad6:ar Tryz.prog (aa fms env) (ab tree.get) f113 Tryz.f63=true:=by kernel_rfl
theorem ana (f:FuncId) (hf:aa fms env 113=some f):ah Tryz.prog (aa fms env) tree.get (.code f113) f:=by
 have h:aa fms env 113=some 63:=by kernel_rfl
 rw [h] at hf
 cases hf
 exact ae Tryz.func63 ad6
theorem NU:ar Tryz.prog (aa fms env) (ab tree.get) f114 Tryz.f34=true:=by kernel_rfl
theorem ahv (f:FuncId) (hf:aa fms env 114=some f):ah Tryz.prog (aa fms env) tree.get (.code f114) f:=by
 have h:aa fms env 114=some 34:=by kernel_rfl
 rw [h] at hf
 cases hf
 exact ae Tryz.func34 NU
theorem Sk:ar Tryz.prog (aa fms env) (ab tree.get) f117 Tryz.f46=true:=by kernel_rfl
theorem am0 (f:FuncId) (hf:aa fms env 117=some f):ah Tryz.prog (aa fms env) tree.get (.code f117) f:=by
 have h:aa fms env 117=some 46:=by kernel_rfl
 rw [h] at hf
 cases hf
 exact ae Tryz.func46 Sk
theorem ZO:ar Tryz.prog (aa fms env) (ab tree.get) f118 Tryz.f47=true:=by kernel_rfl
theorem afw (f:FuncId) (hf:aa fms env 118=some f):ah Tryz.prog (aa fms env) tree.get (.code f118) f:=by
 have h:aa fms env 118=some 47:=by kernel_rfl
 rw [h] at hf
 cases hf
 exact ae Tryz.func47 ZO
theorem Q6:ar Tryz.prog (aa fms env) (ab tree.get) f120 Tryz.f159=true:=by kernel_rfl
theorem ajU (f:FuncId) (hf:aa fms env 120=some f):ah Tryz.prog (aa fms env) tree.get (.code f120) f:=by
 have h:aa fms env 120=some 159:=by kernel_rfl
 rw [h] at hf
 cases hf
 exact ae Tryz.func159 Q6
theorem Rn:ar Tryz.prog (aa fms env) (ab tree.get) f121 Tryz.f65=true:=by kernel_rfl
theorem akX (f:FuncId) (hf:aa fms env 121=some f):ah Tryz.prog (aa fms env) tree.get (.code f121) f:=by
 have h:aa fms env 121=some 65:=by kernel_rfl
 rw [h] at hf
 cases hf
 exact ae Tryz.func65 Rn
theorem aew:ar Tryz.prog (aa fms env) (ab tree.get) f122 Tryz.f211=true:=by kernel_rfl
theorem agJ (f:FuncId) (hf:aa fms env 122=some f):ah Tryz.prog (aa fms env) tree.get (.code f122) f:=by
 have h:aa fms env 122=some 211:=by kernel_rfl
 rw [h] at hf
 cases hf
 exact ae Tryz.func211 aew
theorem Tt:ar Tryz.prog (aa fms env) (ab tree.get) f123 Tryz.f66=true:=by kernel_rfl
theorem aiL (f:FuncId) (hf:aa fms env 123=some f):ah Tryz.prog (aa fms env) tree.get (.code f123) f:=by
 have h:aa fms env 123=some 66:=by kernel_rfl
 rw [h] at hf
 cases hf
 exact ae Tryz.func66 Tt
theorem Mb:ar Tryz.prog (aa fms env) (ab tree.get) f124 Tryz.f257=true:=by kernel_rfl
theorem aim (f:FuncId) (hf:aa fms env 124=some f):ah Tryz.prog (aa fms env) tree.get (.code f124) f:=by
 have h:aa fms env 124=some 257:=by kernel_rfl
 rw [h] at hf
 cases hf
 exact ae Tryz.func257 Mb
theorem acT:ar Tryz.prog (aa fms env) (ab tree.get) f126 Tryz.f60=true:=by kernel_rfl
theorem ag9 (f:FuncId) (hf:aa fms env 126=some f):ah Tryz.prog (aa fms env) tree.get (.code f126) f:=by
 have h:aa fms env 126=some 60:=by kernel_rfl
 rw [h] at hf
 cases hf
 exact ae Tryz.func60 acT
theorem ZD:ar Tryz.prog (aa fms env) (ab tree.get) f127 Tryz.f128=true:=by kernel_rfl
theorem akD (f:FuncId) (hf:aa fms env 127=some f):ah Tryz.prog (aa fms env) tree.get (.code f127) f:=by
 have h:aa fms env 127=some 128:=by kernel_rfl
 rw [h] at hf
 cases hf
 exact ae Tryz.func128 ZD
theorem S7:ar Tryz.prog (aa fms env) (ab tree.get) f128 Tryz.f129=true:=by kernel_rfl
theorem ae3 (f:FuncId) (hf:aa fms env 128=some f):ah Tryz.prog (aa fms env) tree.get (.code f128) f:=by
 have h:aa fms env 128=some 129:=by kernel_rfl
 rw [h] at hf
 cases hf
 exact ae Tryz.func129 S7
theorem NO:ar Tryz.prog (aa fms env) (ab tree.get) f129 Tryz.f130=true:=by kernel_rfl
theorem akl (f:FuncId) (hf:aa fms env 129=some f):ah Tryz.prog (aa fms env) tree.get (.code f129) f:=by
 have h:aa fms env 129=some 130:=by kernel_rfl
 rw [h] at hf
 cases hf
 exact ae Tryz.func130 NO
theorem OJ:ar Tryz.prog (aa fms env) (ab tree.get) f130 Tryz.f131=true:=by kernel_rfl
theorem af7 (f:FuncId) (hf:aa fms env 130=some f):ah Tryz.prog (aa fms env) tree.get (.code f130) f:=by
 have h:aa fms env 130=some 131:=by kernel_rfl
 rw [h] at hf
 cases hf
 exact ae Tryz.func131 OJ
theorem Um:ar Tryz.prog (aa fms env) (ab tree.get) f131 Tryz.f86=true:=by kernel_rfl
theorem amh (f:FuncId) (hf:aa fms env 131=some f):ah Tryz.prog (aa fms env) tree.get (.code f131) f:=by
 have h:aa fms env 131=some 86:=by kernel_rfl
 rw [h] at hf
 cases hf
 exact ae Tryz.func86 Um
theorem ac2:ar Tryz.prog (aa fms env) (ab tree.get) f132 Tryz.f87=true:=by kernel_rfl
theorem agT (f:FuncId) (hf:aa fms env 132=some f):ah Tryz.prog (aa fms env) tree.get (.code f132) f:=by
 have h:aa fms env 132=some 87:=by kernel_rfl
 rw [h] at hf
 cases hf
 exact ae Tryz.func87 ac2
theorem T6:ar Tryz.prog (aa fms env) (ab tree.get) f133 Tryz.f88=true:=by kernel_rfl
theorem ajk (f:FuncId) (hf:aa fms env 133=some f):ah Tryz.prog (aa fms env) tree.get (.code f133) f:=by
 have h:aa fms env 133=some 88:=by kernel_rfl
 rw [h] at hf
 cases hf
 exact ae Tryz.func88 T6
theorem OM:ar Tryz.prog (aa fms env) (ab tree.get) f134 Tryz.f89=true:=by kernel_rfl
theorem aff (f:FuncId) (hf:aa fms env 134=some f):ah Tryz.prog (aa fms env) tree.get (.code f134) f:=by
 have h:aa fms env 134=some 89:=by kernel_rfl
 rw [h] at hf
 cases hf
 exact ae Tryz.func89 OM
theorem O0:ar Tryz.prog (aa fms env) (ab tree.get) f135 Tryz.f90=true:=by kernel_rfl
theorem akL (f:FuncId) (hf:aa fms env 135=some f):ah Tryz.prog (aa fms env) tree.get (.code f135) f:=by
 have h:aa fms env 135=some 90:=by kernel_rfl
 rw [h] at hf
 cases hf
 exact ae Tryz.func90 O0
theorem Lu:ar Tryz.prog (aa fms env) (ab tree.get) f136 Tryz.f91=true:=by kernel_rfl
theorem am3 (f:FuncId) (hf:aa fms env 136=some f):ah Tryz.prog (aa fms env) tree.get (.code f136) f:=by
 have h:aa fms env 136=some 91:=by kernel_rfl
 rw [h] at hf
 cases hf
 exact ae Tryz.func91 Lu
theorem NQ:ar Tryz.prog (aa fms env) (ab tree.get) f137 Tryz.f92=true:=by kernel_rfl
theorem ajq (f:FuncId) (hf:aa fms env 137=some f):ah Tryz.prog (aa fms env) tree.get (.code f137) f:=by
 have h:aa fms env 137=some 92:=by kernel_rfl
 rw [h] at hf
 cases hf
 exact ae Tryz.func92 NQ
theorem Ns:ar Tryz.prog (aa fms env) (ab tree.get) f138 Tryz.f93=true:=by kernel_rfl
theorem amy (f:FuncId) (hf:aa fms env 138=some f):ah Tryz.prog (aa fms env) tree.get (.code f138) f:=by
 have h:aa fms env 138=some 93:=by kernel_rfl
 rw [h] at hf
 cases hf
 exact ae Tryz.func93 Ns
theorem OE:ar Tryz.prog (aa fms env) (ab tree.get) f139 Tryz.f224=true:=by kernel_rfl
theorem air (f:FuncId) (hf:aa fms env 139=some f):ah Tryz.prog (aa fms env) tree.get (.code f139) f:=by
 have h:aa fms env 139=some 224:=by kernel_rfl
 rw [h] at hf
 cases hf
 exact ae Tryz.func224 OE
theorem V2:ar Tryz.prog (aa fms env) (ab tree.get) f140 Tryz.f122=true:=by kernel_rfl
theorem afM (f:FuncId) (hf:aa fms env 140=some f):ah Tryz.prog (aa fms env) tree.get (.code f140) f:=by
 have h:aa fms env 140=some 122:=by kernel_rfl
 rw [h] at hf
 cases hf
 exact ae Tryz.func122 V2
theorem PJ:ar Tryz.prog (aa fms env) (ab tree.get) f141 Tryz.f181=true:=by kernel_rfl
theorem amG (f:FuncId) (hf:aa fms env 141=some f):ah Tryz.prog (aa fms env) tree.get (.code f141) f:=by
 have h:aa fms env 141=some 181:=by kernel_rfl
 rw [h] at hf
 cases hf
 exact ae Tryz.func181 PJ
theorem Wz:ar Tryz.prog (aa fms env) (ab tree.get) f142 Tryz.f182=true:=by kernel_rfl
theorem ajz (f:FuncId) (hf:aa fms env 142=some f):ah Tryz.prog (aa fms env) tree.get (.code f142) f:=by
 have h:aa fms env 142=some 182:=by kernel_rfl
 rw [h] at hf
 cases hf
 exact ae Tryz.func182 Wz
theorem ad1:ar Tryz.prog (aa fms env) (ab tree.get) f143 Tryz.f155=true:=by kernel_rfl
theorem alv (f:FuncId) (hf:aa fms env 143=some f):ah Tryz.prog (aa fms env) tree.get (.code f143) f:=by
 have h:aa fms env 143=some 155:=by kernel_rfl
 rw [h] at hf
 cases hf
 exact ae Tryz.func155 ad1
theorem WM:ar Tryz.prog (aa fms env) (ab tree.get) f144 Tryz.f156=true:=by kernel_rfl
theorem ajo (f:FuncId) (hf:aa fms env 144=some f):ah Tryz.prog (aa fms env) tree.get (.code f144) f:=by
 have h:aa fms env 144=some 156:=by kernel_rfl
 rw [h] at hf
 cases hf
 exact ae Tryz.func156 WM
theorem Ow:ar Tryz.prog (aa fms env) (ab tree.get) f145 Tryz.f251=true:=by kernel_rfl
theorem agv (f:FuncId) (hf:aa fms env 145=some f):ah Tryz.prog (aa fms env) tree.get (.code f145) f:=by
 have h:aa fms env 145=some 251:=by kernel_rfl
 rw [h] at hf
 cases hf
 exact ae Tryz.func251 Ow
theorem VO:ar Tryz.prog (aa fms env) (ab tree.get) f146 Tryz.f252=true:=by kernel_rfl
theorem ah9 (f:FuncId) (hf:aa fms env 146=some f):ah Tryz.prog (aa fms env) tree.get (.code f146) f:=by
 have h:aa fms env 146=some 252:=by kernel_rfl
 rw [h] at hf
 cases hf
 exact ae Tryz.func252 VO
theorem WB:ar Tryz.prog (aa fms env) (ab tree.get) f147 Tryz.f204=true:=by kernel_rfl
theorem ak8 (f:FuncId) (hf:aa fms env 147=some f):ah Tryz.prog (aa fms env) tree.get (.code f147) f:=by
 have h:aa fms env 147=some 204:=by kernel_rfl
 rw [h] at hf
 cases hf
 exact ae Tryz.func204 WB
theorem SS:ar Tryz.prog (aa fms env) (ab tree.get) f148 Tryz.f205=true:=by kernel_rfl
theorem amc (f:FuncId) (hf:aa fms env 148=some f):ah Tryz.prog (aa fms env) tree.get (.code f148) f:=by
 have h:aa fms env 148=some 205:=by kernel_rfl
 rw [h] at hf
 cases hf
 exact ae Tryz.func205 SS
theorem YT:ar Tryz.prog (aa fms env) (ab tree.get) f149 Tryz.f206=true:=by kernel_rfl
theorem al9 (f:FuncId) (hf:aa fms env 149=some f):ah Tryz.prog (aa fms env) tree.get (.code f149) f:=by
 have h:aa fms env 149=some 206:=by kernel_rfl
 rw [h] at hf
 cases hf
 exact ae Tryz.func206 YT
theorem aaL:ar Tryz.prog (aa fms env) (ab tree.get) f150 Tryz.f207=true:=by kernel_rfl
theorem aml (f:FuncId) (hf:aa fms env 150=some f):ah Tryz.prog (aa fms env) tree.get (.code f150) f:=by
 have h:aa fms env 150=some 207:=by kernel_rfl
 rw [h] at hf
 cases hf
 exact ae Tryz.func207 aaL
theorem QF:ar Tryz.prog (aa fms env) (ab tree.get) f151 Tryz.f208=true:=by kernel_rfl
theorem ag2 (f:FuncId) (hf:aa fms env 151=some f):ah Tryz.prog (aa fms env) tree.get (.code f151) f:=by
 have h:aa fms env 151=some 208:=by kernel_rfl
 rw [h] at hf
 cases hf
 exact ae Tryz.func208 QF
theorem aa7:ar Tryz.prog (aa fms env) (ab tree.get) f152 Tryz.f209=true:=by kernel_rfl
theorem ain (f:FuncId) (hf:aa fms env 152=some f):ah Tryz.prog (aa fms env) tree.get (.code f152) f:=by
 have h:aa fms env 152=some 209:=by kernel_rfl
 rw [h] at hf
 cases hf
 exact ae Tryz.func209 aa7
theorem Wc:ar Tryz.prog (aa fms env) (ab tree.get) f153 Tryz.f262=true:=by kernel_rfl
theorem ag3 (f:FuncId) (hf:aa fms env 153=some f):ah Tryz.prog (aa fms env) tree.get (.code f153) f:=by
 have h:aa fms env 153=some 262:=by kernel_rfl
 rw [h] at hf
 cases hf
 exact ae Tryz.func262 Wc
theorem M5:ar Tryz.prog (aa fms env) (ab tree.get) f154 Tryz.f263=true:=by kernel_rfl
theorem aj2 (f:FuncId) (hf:aa fms env 154=some f):ah Tryz.prog (aa fms env) tree.get (.code f154) f:=by
 have h:aa fms env 154=some 263:=by kernel_rfl
 rw [h] at hf
 cases hf
 exact ae Tryz.func263 M5
theorem Og:ar Tryz.prog (aa fms env) (ab tree.get) f155 Tryz.f98=true:=by kernel_rfl
theorem ajM (f:FuncId) (hf:aa fms env 155=some f):ah Tryz.prog (aa fms env) tree.get (.code f155) f:=by
 have h:aa fms env 155=some 98:=by kernel_rfl
 rw [h] at hf
 cases hf
 exact ae Tryz.func98 Og
theorem Xr:ar Tryz.prog (aa fms env) (ab tree.get) f156 Tryz.f240=true:=by kernel_rfl
theorem afD (f:FuncId) (hf:aa fms env 156=some f):ah Tryz.prog (aa fms env) tree.get (.code f156) f:=by
 have h:aa fms env 156=some 240:=by kernel_rfl
 rw [h] at hf
 cases hf
 exact ae Tryz.func240 Xr
theorem M0:ar Tryz.prog (aa fms env) (ab tree.get) f157 Tryz.f241=true:=by kernel_rfl
theorem ai1 (f:FuncId) (hf:aa fms env 157=some f):ah Tryz.prog (aa fms env) tree.get (.code f157) f:=by
 have h:aa fms env 157=some 241:=by kernel_rfl
 rw [h] at hf
 cases hf
 exact ae Tryz.func241 M0
theorem MV:ar Tryz.prog (aa fms env) (ab tree.get) f158 Tryz.f242=true:=by kernel_rfl
theorem ajh (f:FuncId) (hf:aa fms env 158=some f):ah Tryz.prog (aa fms env) tree.get (.code f158) f:=by
 have h:aa fms env 158=some 242:=by kernel_rfl
 rw [h] at hf
 cases hf
 exact ae Tryz.func242 MV
theorem WX:ar Tryz.prog (aa fms env) (ab tree.get) f159 Tryz.f243=true:=by kernel_rfl
theorem akW (f:FuncId) (hf:aa fms env 159=some f):ah Tryz.prog (aa fms env) tree.get (.code f159) f:=by
 have h:aa fms env 159=some 243:=by kernel_rfl
 rw [h] at hf
 cases hf
 exact ae Tryz.func243 WX
theorem Td:ar Tryz.prog (aa fms env) (ab tree.get) f160 Tryz.f244=true:=by kernel_rfl
theorem ahj (f:FuncId) (hf:aa fms env 160=some f):ah Tryz.prog (aa fms env) tree.get (.code f160) f:=by
 have h:aa fms env 160=some 244:=by kernel_rfl
 rw [h] at hf
 cases hf
 exact ae Tryz.func244 Td
theorem Mx:ar Tryz.prog (aa fms env) (ab tree.get) f161 Tryz.f245=true:=by kernel_rfl
theorem akO (f:FuncId) (hf:aa fms env 161=some f):ah Tryz.prog (aa fms env) tree.get (.code f161) f:=by
 have h:aa fms env 161=some 245:=by kernel_rfl
 rw [h] at hf
 cases hf
 exact ae Tryz.func245 Mx
theorem UN:ar Tryz.prog (aa fms env) (ab tree.get) f162 Tryz.f162=true:=by kernel_rfl
theorem ais (f:FuncId) (hf:aa fms env 162=some f):ah Tryz.prog (aa fms env) tree.get (.code f162) f:=by
 have h:aa fms env 162=some 162:=by kernel_rfl
 rw [h] at hf
 cases hf
 exact ae Tryz.func162 UN
theorem R0:ar Tryz.prog (aa fms env) (ab tree.get) f163 Tryz.f258=true:=by kernel_rfl
theorem akN (f:FuncId) (hf:aa fms env 163=some f):ah Tryz.prog (aa fms env) tree.get (.code f163) f:=by
 have h:aa fms env 163=some 258:=by kernel_rfl
 rw [h] at hf
 cases hf
 exact ae Tryz.func258 R0
theorem Zy:ar Tryz.prog (aa fms env) (ab tree.get) f164 Tryz.f259=true:=by kernel_rfl
theorem ak0 (f:FuncId) (hf:aa fms env 164=some f):ah Tryz.prog (aa fms env) tree.get (.code f164) f:=by
 have h:aa fms env 164=some 259:=by kernel_rfl
 rw [h] at hf
 cases hf
 exact ae Tryz.func259 Zy
theorem Wg:ar Tryz.prog (aa fms env) (ab tree.get) f165 Tryz.f260=true:=by kernel_rfl
theorem ahA (f:FuncId) (hf:aa fms env 165=some f):ah Tryz.prog (aa fms env) tree.get (.code f165) f:=by
 have h:aa fms env 165=some 260:=by kernel_rfl
 rw [h] at hf
 cases hf
 exact ae Tryz.func260 Wg
theorem ad0:ar Tryz.prog (aa fms env) (ab tree.get) f166 Tryz.f265=true:=by kernel_rfl
theorem akh (f:FuncId) (hf:aa fms env 166=some f):ah Tryz.prog (aa fms env) tree.get (.code f166) f:=by
 have h:aa fms env 166=some 265:=by kernel_rfl
 rw [h] at hf
 cases hf
 exact ae Tryz.func265 ad0
theorem Yo:ar Tryz.prog (aa fms env) (ab tree.get) f167 Tryz.f266=true:=by kernel_rfl
theorem akT (f:FuncId) (hf:aa fms env 167=some f):ah Tryz.prog (aa fms env) tree.get (.code f167) f:=by
 have h:aa fms env 167=some 266:=by kernel_rfl
 rw [h] at hf
 cases hf
 exact ae Tryz.func266 Yo
theorem WN:ar Tryz.prog (aa fms env) (ab tree.get) f211 Tryz.f123=true:=by kernel_rfl
theorem aiT (f:FuncId) (hf:aa fms env 211=some f):ah Tryz.prog (aa fms env) tree.get (.code f211) f:=by
 have h:aa fms env 211=some 123:=by kernel_rfl
 rw [h] at hf
 cases hf
 exact ae Tryz.func123 WN
theorem NM:ar Tryz.prog (aa fms env) (ab tree.get) f218 Tryz.f27=true:=by kernel_rfl
theorem aj5 (f:FuncId) (hf:aa fms env 218=some f):ah Tryz.prog (aa fms env) tree.get (.code f218) f:=by
 have h:aa fms env 218=some 27:=by kernel_rfl
 rw [h] at hf
 cases hf
 exact ae Tryz.func27 NM
theorem Tj:ar Tryz.prog (aa fms env) (ab tree.get) f234 Tryz.f167=true:=by kernel_rfl
theorem ajb (f:FuncId) (hf:aa fms env 234=some f):ah Tryz.prog (aa fms env) tree.get (.code f234) f:=by
 have h:aa fms env 234=some 167:=by kernel_rfl
 rw [h] at hf
 cases hf
 exact ae Tryz.func167 Tj
theorem ab4:ar Tryz.prog (aa fms env) (ab tree.get) f242 Tryz.f48=true:=by kernel_rfl
theorem alW (f:FuncId) (hf:aa fms env 242=some f):ah Tryz.prog (aa fms env) tree.get (.code f242) f:=by
 have h:aa fms env 242=some 48:=by kernel_rfl
 rw [h] at hf
 cases hf
 exact ae Tryz.func48 ab4
theorem RK:ar Tryz.prog (aa fms env) (ab tree.get) f243 Tryz.f49=true:=by kernel_rfl
theorem aj3 (f:FuncId) (hf:aa fms env 243=some f):ah Tryz.prog (aa fms env) tree.get (.code f243) f:=by
 have h:aa fms env 243=some 49:=by kernel_rfl
 rw [h] at hf
 cases hf
 exact ae Tryz.func49 RK
theorem Uq:ar Tryz.prog (aa fms env) (ab tree.get) f244 Tryz.f50=true:=by kernel_rfl
theorem ahJ (f:FuncId) (hf:aa fms env 244=some f):ah Tryz.prog (aa fms env) tree.get (.code f244) f:=by
 have h:aa fms env 244=some 50:=by kernel_rfl
 rw [h] at hf
 cases hf
 exact ae Tryz.func50 Uq
theorem OQ:ar Tryz.prog (aa fms env) (ab tree.get) f245 Tryz.f51=true:=by kernel_rfl
theorem aiB (f:FuncId) (hf:aa fms env 245=some f):ah Tryz.prog (aa fms env) tree.get (.code f245) f:=by
 have h:aa fms env 245=some 51:=by kernel_rfl
 rw [h] at hf
 cases hf
 exact ae Tryz.func51 OQ
theorem OV:ar Tryz.prog (aa fms env) (ab tree.get) f246 Tryz.f52=true:=by kernel_rfl
theorem akB (f:FuncId) (hf:aa fms env 246=some f):ah Tryz.prog (aa fms env) tree.get (.code f246) f:=by
 have h:aa fms env 246=some 52:=by kernel_rfl
 rw [h] at hf
 cases hf
 exact ae Tryz.func52 OV
theorem Th:ar Tryz.prog (aa fms env) (ab tree.get) f247 Tryz.f53=true:=by kernel_rfl
theorem ahp (f:FuncId) (hf:aa fms env 247=some f):ah Tryz.prog (aa fms env) tree.get (.code f247) f:=by
 have h:aa fms env 247=some 53:=by kernel_rfl
 rw [h] at hf
 cases hf
 exact ae Tryz.func53 Th
theorem O9:ar Tryz.prog (aa fms env) (ab tree.get) f248 Tryz.f54=true:=by kernel_rfl
theorem akm (f:FuncId) (hf:aa fms env 248=some f):ah Tryz.prog (aa fms env) tree.get (.code f248) f:=by
 have h:aa fms env 248=some 54:=by kernel_rfl
 rw [h] at hf
 cases hf
 exact ae Tryz.func54 O9
theorem Mn:ar Tryz.prog (aa fms env) (ab tree.get) f249 Tryz.f55=true:=by kernel_rfl
theorem ahY (f:FuncId) (hf:aa fms env 249=some f):ah Tryz.prog (aa fms env) tree.get (.code f249) f:=by
 have h:aa fms env 249=some 55:=by kernel_rfl
 rw [h] at hf
 cases hf
 exact ae Tryz.func55 Mn
theorem Qe:ar Tryz.prog (aa fms env) (ab tree.get) f265 Tryz.f95=true:=by kernel_rfl
theorem af8 (f:FuncId) (hf:aa fms env 265=some f):ah Tryz.prog (aa fms env) tree.get (.code f265) f:=by
 have h:aa fms env 265=some 95:=by kernel_rfl
 rw [h] at hf
 cases hf
 exact ae Tryz.func95 Qe
theorem My:ar Tryz.prog (aa fms env) (ab tree.get) f266 Tryz.f96=true:=by kernel_rfl
theorem amt (f:FuncId) (hf:aa fms env 266=some f):ah Tryz.prog (aa fms env) tree.get (.code f266) f:=by
 have h:aa fms env 266=some 96:=by kernel_rfl
 rw [h] at hf
 cases hf
 exact ae Tryz.func96 My
theorem QZ:ar Tryz.prog (aa fms env) (ab tree.get) f267 Tryz.f56=true:=by kernel_rfl
theorem akc (f:FuncId) (hf:aa fms env 267=some f):ah Tryz.prog (aa fms env) tree.get (.code f267) f:=by
 have h:aa fms env 267=some 56:=by kernel_rfl
 rw [h] at hf
 cases hf
 exact ae Tryz.func56 QZ
theorem WC:ar Tryz.prog (aa fms env) (ab tree.get) f268 Tryz.f57=true:=by kernel_rfl
theorem als (f:FuncId) (hf:aa fms env 268=some f):ah Tryz.prog (aa fms env) tree.get (.code f268) f:=by
 have h:aa fms env 268=some 57:=by kernel_rfl
 rw [h] at hf
 cases hf
 exact ae Tryz.func57 WC
theorem abZ:ar Tryz.prog (aa fms env) (ab tree.get) f269 Tryz.f97=true:=by kernel_rfl
theorem ajm (f:FuncId) (hf:aa fms env 269=some f):ah Tryz.prog (aa fms env) tree.get (.code f269) f:=by
 have h:aa fms env 269=some 97:=by kernel_rfl
 rw [h] at hf
 cases hf
 exact ae Tryz.func97 abZ
theorem ac6:ar Tryz.prog (aa fms env) (ab tree.get) f270 Tryz.f99=true:=by kernel_rfl
theorem alf (f:FuncId) (hf:aa fms env 270=some f):ah Tryz.prog (aa fms env) tree.get (.code f270) f:=by
 have h:aa fms env 270=some 99:=by kernel_rfl
 rw [h] at hf
 cases hf
 exact ae Tryz.func99 ac6
theorem Lk:ar Tryz.prog (aa fms env) (ab tree.get) f271 Tryz.f100=true:=by kernel_rfl
theorem alH (f:FuncId) (hf:aa fms env 271=some f):ah Tryz.prog (aa fms env) tree.get (.code f271) f:=by
 have h:aa fms env 271=some 100:=by kernel_rfl
 rw [h] at hf
 cases hf
 exact ae Tryz.func100 Lk
theorem Vz:ar Tryz.prog (aa fms env) (ab tree.get) f272 Tryz.f101=true:=by kernel_rfl
theorem akK (f:FuncId) (hf:aa fms env 272=some f):ah Tryz.prog (aa fms env) tree.get (.code f272) f:=by
 have h:aa fms env 272=some 101:=by kernel_rfl
 rw [h] at hf
 cases hf
 exact ae Tryz.func101 Vz
theorem aa1:ar Tryz.prog (aa fms env) (ab tree.get) f275 Tryz.f160=true:=by kernel_rfl
theorem al2 (f:FuncId) (hf:aa fms env 275=some f):ah Tryz.prog (aa fms env) tree.get (.code f275) f:=by
 have h:aa fms env 275=some 160:=by kernel_rfl
 rw [h] at hf
 cases hf
 exact ae Tryz.func160 aa1
theorem Yd:ar Tryz.prog (aa fms env) (ab tree.get) f276 Tryz.f161=true:=by kernel_rfl
theorem ama (f:FuncId) (hf:aa fms env 276=some f):ah Tryz.prog (aa fms env) tree.get (.code f276) f:=by
 have h:aa fms env 276=some 161:=by kernel_rfl
 rw [h] at hf
 cases hf
 exact ae Tryz.func161 Yd
theorem Wv:ar Tryz.prog (aa fms env) (ab tree.get) f277 Tryz.f102=true:=by kernel_rfl
theorem agB (f:FuncId) (hf:aa fms env 277=some f):ah Tryz.prog (aa fms env) tree.get (.code f277) f:=by
 have h:aa fms env 277=some 102:=by kernel_rfl
 rw [h] at hf
 cases hf
 exact ae Tryz.func102 Wv
theorem acb:ar Tryz.prog (aa fms env) (ab tree.get) f278 Tryz.f103=true:=by kernel_rfl
theorem ahs (f:FuncId) (hf:aa fms env 278=some f):ah Tryz.prog (aa fms env) tree.get (.code f278) f:=by
 have h:aa fms env 278=some 103:=by kernel_rfl
 rw [h] at hf
 cases hf
 exact ae Tryz.func103 acb
theorem Z3:ar Tryz.prog (aa fms env) (ab tree.get) f279 Tryz.f163=true:=by kernel_rfl
theorem ahn (f:FuncId) (hf:aa fms env 279=some f):ah Tryz.prog (aa fms env) tree.get (.code f279) f:=by
 have h:aa fms env 279=some 163:=by kernel_rfl
 rw [h] at hf
 cases hf
 exact ae Tryz.func163 Z3
theorem TZ:ar Tryz.prog (aa fms env) (ab tree.get) f280 Tryz.f164=true:=by kernel_rfl
theorem afp (f:FuncId) (hf:aa fms env 280=some f):ah Tryz.prog (aa fms env) tree.get (.code f280) f:=by
 have h:aa fms env 280=some 164:=by kernel_rfl
 rw [h] at hf
 cases hf
 exact ae Tryz.func164 TZ
theorem L0:ar Tryz.prog (aa fms env) (ab tree.get) f281 Tryz.f165=true:=by kernel_rfl
theorem afZ (f:FuncId) (hf:aa fms env 281=some f):ah Tryz.prog (aa fms env) tree.get (.code f281) f:=by
 have h:aa fms env 281=some 165:=by kernel_rfl
 rw [h] at hf
 cases hf
 exact ae Tryz.func165 L0
theorem UY:ar Tryz.prog (aa fms env) (ab tree.get) f282 Tryz.f212=true:=by kernel_rfl
theorem ala (f:FuncId) (hf:aa fms env 282=some f):ah Tryz.prog (aa fms env) tree.get (.code f282) f:=by
 have h:aa fms env 282=some 212:=by kernel_rfl
 rw [h] at hf
 cases hf
 exact ae Tryz.func212 UY
theorem SL:ar Tryz.prog (aa fms env) (ab tree.get) f283 Tryz.f213=true:=by kernel_rfl
theorem akv (f:FuncId) (hf:aa fms env 283=some f):ah Tryz.prog (aa fms env) tree.get (.code f283) f:=by
 have h:aa fms env 283=some 213:=by kernel_rfl
 rw [h] at hf
 cases hf
 exact ae Tryz.func213 SL
theorem Mm:ar Tryz.prog (aa fms env) (ab tree.get) f284 Tryz.f214=true:=by kernel_rfl
theorem ajH (f:FuncId) (hf:aa fms env 284=some f):ah Tryz.prog (aa fms env) tree.get (.code f284) f:=by
 have h:aa fms env 284=some 214:=by kernel_rfl
 rw [h] at hf
 cases hf
 exact ae Tryz.func214 Mm
theorem P4:ar Tryz.prog (aa fms env) (ab tree.get) f285 Tryz.f215=true:=by kernel_rfl
theorem aj0 (f:FuncId) (hf:aa fms env 285=some f):ah Tryz.prog (aa fms env) tree.get (.code f285) f:=by
 have h:aa fms env 285=some 215:=by kernel_rfl
 rw [h] at hf
 cases hf
 exact ae Tryz.func215 P4
theorem MY:ar Tryz.prog (aa fms env) (ab tree.get) f286 Tryz.f216=true:=by kernel_rfl
theorem aio (f:FuncId) (hf:aa fms env 286=some f):ah Tryz.prog (aa fms env) tree.get (.code f286) f:=by
 have h:aa fms env 286=some 216:=by kernel_rfl
 rw [h] at hf
 cases hf
 exact ae Tryz.func216 MY
theorem aax:ar Tryz.prog (aa fms env) (ab tree.get) f287 Tryz.f217=true:=by kernel_rfl
theorem ajg (f:FuncId) (hf:aa fms env 287=some f):ah Tryz.prog (aa fms env) tree.get (.code f287) f:=by
 have h:aa fms env 287=some 217:=by kernel_rfl
 rw [h] at hf
 cases hf
 exact ae Tryz.func217 aax
theorem Xv:ar Tryz.prog (aa fms env) (ab tree.get) f288 Tryz.f218=true:=by kernel_rfl
theorem ahB (f:FuncId) (hf:aa fms env 288=some f):ah Tryz.prog (aa fms env) tree.get (.code f288) f:=by
 have h:aa fms env 288=some 218:=by kernel_rfl
 rw [h] at hf
 cases hf
 exact ae Tryz.func218 Xv
theorem acN:ar Tryz.prog (aa fms env) (ab tree.get) f289 Tryz.f219=true:=by kernel_rfl
theorem ahh (f:FuncId) (hf:aa fms env 289=some f):ah Tryz.prog (aa fms env) tree.get (.code f289) f:=by
 have h:aa fms env 289=some 219:=by kernel_rfl
 rw [h] at hf
 cases hf
 exact ae Tryz.func219 acN
theorem VH:ar Tryz.prog (aa fms env) (ab tree.get) f290 Tryz.f220=true:=by kernel_rfl
theorem agH (f:FuncId) (hf:aa fms env 290=some f):ah Tryz.prog (aa fms env) tree.get (.code f290) f:=by
 have h:aa fms env 290=some 220:=by kernel_rfl
 rw [h] at hf
 cases hf
 exact ae Tryz.func220 VH
theorem Qd:ar Tryz.prog (aa fms env) (ab tree.get) f291 Tryz.f221=true:=by kernel_rfl
theorem alA (f:FuncId) (hf:aa fms env 291=some f):ah Tryz.prog (aa fms env) tree.get (.code f291) f:=by
 have h:aa fms env 291=some 221:=by kernel_rfl
 rw [h] at hf
 cases hf
 exact ae Tryz.func221 Qd
theorem Qp:ar Tryz.prog (aa fms env) (ab tree.get) LC Tryz.f222=true:=by kernel_rfl
theorem afG (f:FuncId) (hf:aa fms env 292=some f):ah Tryz.prog (aa fms env) tree.get (.code LC) f:=by
 have h:aa fms env 292=some 222:=by kernel_rfl
 rw [h] at hf
 cases hf
 exact ae Tryz.func222 Qp
theorem VJ:ar Tryz.prog (aa fms env) (ab tree.get) Qt Tryz.f223=true:=by kernel_rfl
theorem afy (f:FuncId) (hf:aa fms env 293=some f):ah Tryz.prog (aa fms env) tree.get (.code Qt) f:=by
 have h:aa fms env 293=some 223:=by kernel_rfl
 rw [h] at hf
 cases hf
 exact ae Tryz.func223 VJ
theorem adP:ar Tryz.prog (aa fms env) (ab tree.get) YU Tryz.f246=true:=by kernel_rfl
theorem afg (f:FuncId) (hf:aa fms env 294=some f):ah Tryz.prog (aa fms env) tree.get (.code YU) f:=by
 have h:aa fms env 294=some 246:=by kernel_rfl
 rw [h] at hf
 cases hf
 exact ae Tryz.func246 adP
theorem UI:ar Tryz.prog (aa fms env) (ab tree.get) NF Tryz.f247=true:=by kernel_rfl
theorem amE (f:FuncId) (hf:aa fms env 295=some f):ah Tryz.prog (aa fms env) tree.get (.code NF) f:=by
 have h:aa fms env 295=some 247:=by kernel_rfl
 rw [h] at hf
 cases hf
 exact ae Tryz.func247 UI
theorem ab1:ar Tryz.prog (aa fms env) (ab tree.get) YV Tryz.f248=true:=by kernel_rfl
theorem amZ (f:FuncId) (hf:aa fms env 296=some f):ah Tryz.prog (aa fms env) tree.get (.code YV) f:=by
 have h:aa fms env 296=some 248:=by kernel_rfl
 rw [h] at hf
 cases hf
 exact ae Tryz.func248 ab1
theorem Yr:ar Tryz.prog (aa fms env) (ab tree.get) aba Tryz.f249=true:=by kernel_rfl
theorem ag4 (f:FuncId) (hf:aa fms env 297=some f):ah Tryz.prog (aa fms env) tree.get (.code aba) f:=by
 have h:aa fms env 297=some 249:=by kernel_rfl
 rw [h] at hf
 cases hf
 exact ae Tryz.func249 Yr
theorem Qs:ar Tryz.prog (aa fms env) (ab tree.get) W6 Tryz.f250=true:=by kernel_rfl
theorem ajC (f:FuncId) (hf:aa fms env 298=some f):ah Tryz.prog (aa fms env) tree.get (.code W6) f:=by
 have h:aa fms env 298=some 250:=by kernel_rfl
 rw [h] at hf
 cases hf
 exact ae Tryz.func250 Qs
theorem Rz:ar Tryz.prog (aa fms env) (ab tree.get) SG Tryz.f261=true:=by kernel_rfl
theorem amK (f:FuncId) (hf:aa fms env 299=some f):ah Tryz.prog (aa fms env) tree.get (.code SG) f:=by
 have h:aa fms env 299=some 261:=by kernel_rfl
 rw [h] at hf
 cases hf
 exact ae Tryz.func261 Rz
theorem Oz:ar Tryz.prog (aa fms env) (ab tree.get) OK Tryz.f3=true:=by kernel_rfl
theorem ali (f:FuncId) (hf:aa fms env 300=some f):ah Tryz.prog (aa fms env) tree.get (.code OK) f:=by
 have h:aa fms env 300=some 3:=by kernel_rfl
 rw [h] at hf
 cases hf
 exact ae Tryz.func3 Oz
theorem R5:ar Tryz.prog (aa fms env) (ab tree.get) CZ Tryz.f4=true:=by kernel_rfl
theorem alo (f:FuncId) (hf:aa fms env 301=some f):ah Tryz.prog (aa fms env) tree.get (.code CZ) f:=by
 have h:aa fms env 301=some 4:=by kernel_rfl
 rw [h] at hf
 cases hf
 exact ae Tryz.func4 R5
theorem RN:ar Tryz.prog (aa fms env) (ab tree.get) W8 Tryz.f9=true:=by kernel_rfl
theorem akb (f:FuncId) (hf:aa fms env 305=some f):ah Tryz.prog (aa fms env) tree.get (.code W8) f:=by
 have h:aa fms env 305=some 9:=by kernel_rfl
 rw [h] at hf
 cases hf
 exact ae Tryz.func9 RN
theorem Uj:ar Tryz.prog (aa fms env) (ab tree.get) WD Tryz.f10=true:=by kernel_rfl
theorem aiU (f:FuncId) (hf:aa fms env 306=some f):ah Tryz.prog (aa fms env) tree.get (.code WD) f:=by
 have h:aa fms env 306=some 10:=by kernel_rfl
 rw [h] at hf
 cases hf
 exact ae Tryz.func10 Uj
theorem V5:ar Tryz.prog (aa fms env) (ab tree.get) z9 Tryz.f11=true:=by kernel_rfl
theorem alJ (f:FuncId) (hf:aa fms env 307=some f):ah Tryz.prog (aa fms env) tree.get (.code z9) f:=by
 have h:aa fms env 307=some 11:=by kernel_rfl
 rw [h] at hf
 cases hf
 exact ae Tryz.func11 V5
theorem Nj:ar Tryz.prog (aa fms env) (ab tree.get) pR Tryz.f12=true:=by kernel_rfl
theorem akj (f:FuncId) (hf:aa fms env 308=some f):ah Tryz.prog (aa fms env) tree.get (.code pR) f:=by
 have h:aa fms env 308=some 12:=by kernel_rfl
 rw [h] at hf
 cases hf
 exact ae Tryz.func12 Nj
theorem adz:ar Tryz.prog (aa fms env) (ab tree.get) CS Tryz.f13=true:=by kernel_rfl
theorem akZ (f:FuncId) (hf:aa fms env 309=some f):ah Tryz.prog (aa fms env) tree.get (.code CS) f:=by
 have h:aa fms env 309=some 13:=by kernel_rfl
 rw [h] at hf
 cases hf
 exact ae Tryz.func13 adz
theorem Rp:ar Tryz.prog (aa fms env) (ab tree.get) zQ Tryz.f31=true:=by kernel_rfl
theorem amD (f:FuncId) (hf:aa fms env 319=some f):ah Tryz.prog (aa fms env) tree.get (.code zQ) f:=by
 have h:aa fms env 319=some 31:=by kernel_rfl
 rw [h] at hf
 cases hf
 exact ae Tryz.func31 Rp
theorem QI:ar Tryz.prog (aa fms env) (ab tree.get) Ba Tryz.f32=true:=by kernel_rfl
theorem aiD (f:FuncId) (hf:aa fms env 320=some f):ah Tryz.prog (aa fms env) tree.get (.code Ba) f:=by
 have h:aa fms env 320=some 32:=by kernel_rfl
 rw [h] at hf
 cases hf
 exact ae Tryz.func32 QI
theorem Px:ar Tryz.prog (aa fms env) (ab tree.get) z0 Tryz.f33=true:=by kernel_rfl
theorem amH (f:FuncId) (hf:aa fms env 321=some f):ah Tryz.prog (aa fms env) tree.get (.code z0) f:=by
 have h:aa fms env 321=some 33:=by kernel_rfl
 rw [h] at hf
 cases hf
 exact ae Tryz.func33 Px
theorem YR:ar Tryz.prog (aa fms env) (ab tree.get) AJ Tryz.f35=true:=by kernel_rfl
theorem amk (f:FuncId) (hf:aa fms env 322=some f):ah Tryz.prog (aa fms env) tree.get (.code AJ) f:=by
 have h:aa fms env 322=some 35:=by kernel_rfl
 rw [h] at hf
 cases hf
 exact ae Tryz.func35 YR
theorem ZC:ar Tryz.prog (aa fms env) (ab tree.get) BH Tryz.f61=true:=by kernel_rfl
theorem agb (f:FuncId) (hf:aa fms env 330=some f):ah Tryz.prog (aa fms env) tree.get (.code BH) f:=by
 have h:aa fms env 330=some 61:=by kernel_rfl
 rw [h] at hf
 cases hf
 exact ae Tryz.func61 ZC
theorem XA:ar Tryz.prog (aa fms env) (ab tree.get) Dc Tryz.f62=true:=by kernel_rfl
theorem alq (f:FuncId) (hf:aa fms env 331=some f):ah Tryz.prog (aa fms env) tree.get (.code Dc) f:=by
 have h:aa fms env 331=some 62:=by kernel_rfl
 rw [h] at hf
 cases hf
 exact ae Tryz.func62 XA
theorem RY:ar Tryz.prog (aa fms env) (ab tree.get) Ot Tryz.f64=true:=by kernel_rfl
theorem al1 (f:FuncId) (hf:aa fms env 332=some f):ah Tryz.prog (aa fms env) tree.get (.code Ot) f:=by
 have h:aa fms env 332=some 64:=by kernel_rfl
 rw [h] at hf
 cases hf
 exact ae Tryz.func64 RY
theorem RV:ar Tryz.prog (aa fms env) (ab tree.get) BX Tryz.f124=true:=by kernel_rfl
theorem ajP (f:FuncId) (hf:aa fms env 343=some f):ah Tryz.prog (aa fms env) tree.get (.code BX) f:=by
 have h:aa fms env 343=some 124:=by kernel_rfl
 rw [h] at hf
 cases hf
 exact ae Tryz.func124 RV
theorem Qj:ar Tryz.prog (aa fms env) (ab tree.get) zS Tryz.f125=true:=by kernel_rfl
theorem am9 (f:FuncId) (hf:aa fms env 344=some f):ah Tryz.prog (aa fms env) tree.get (.code zS) f:=by
 have h:aa fms env 344=some 125:=by kernel_rfl
 rw [h] at hf
 cases hf
 exact ae Tryz.func125 Qj
theorem ael:ar Tryz.prog (aa fms env) (ab tree.get) AP Tryz.f126=true:=by kernel_rfl
theorem amz (f:FuncId) (hf:aa fms env 345=some f):ah Tryz.prog (aa fms env) tree.get (.code AP) f:=by
 have h:aa fms env 345=some 126:=by kernel_rfl
 rw [h] at hf
 cases hf
 exact ae Tryz.func126 ael
theorem Zt:ar Tryz.prog (aa fms env) (ab tree.get) zT Tryz.f127=true:=by kernel_rfl
theorem aiq (f:FuncId) (hf:aa fms env 346=some f):ah Tryz.prog (aa fms env) tree.get (.code zT) f:=by
 have h:aa fms env 346=some 127:=by kernel_rfl
 rw [h] at hf
 cases hf
 exact ae Tryz.func127 Zt
theorem aoq (f:FuncId) (hf:aa fms env 72=some f):ah Tryz.prog (aa fms env) tree.get (.iD eG) f:=by
 have h:aa fms env 72=some 229:=by kernel_rfl
 rw [h] at hf
 cases hf
 exact pG Tryz.func229 (by kernel_rfl) (by kernel_rfl) (by kernel_rfl) (by kernel_rfl)
theorem aoV (f:FuncId) (hf:aa fms env 64=some f):ah Tryz.prog (aa fms env) tree.get (.iD eR) f:=by
 have h:aa fms env 64=some 179:=by kernel_rfl
 rw [h] at hf
 cases hf
 exact pD Tryz.func179 (by kernel_rfl) (by kernel_rfl) (by kernel_rfl) (by kernel_rfl)
theorem ai3:cT Tryz.prog (aa fms env) tree.get:=uX (t:=tree) ⟨⟨⟨⟨⟨⟨⟨aoJ,anR⟩,⟨an2,aod⟩⟩,⟨⟨aoP,ao9⟩,⟨aoF,⟨an5,anY⟩⟩⟩⟩,⟨⟨⟨ao5,ao0⟩,⟨aoA,⟨aoB,aoM⟩⟩⟩,⟨⟨aog,aou⟩,⟨anL,⟨an0,ao6⟩⟩⟩⟩⟩,⟨⟨⟨⟨aoy,aoH⟩,⟨anW,aoh⟩⟩,⟨⟨aot,aoV⟩,⟨ao7,⟨anO,an6⟩⟩⟩⟩,⟨⟨⟨aoc,aoq⟩,⟨aos,⟨aoO,aoU⟩⟩⟩,⟨⟨aok,aol⟩,⟨amm,⟨aiA,ale⟩⟩⟩⟩⟩⟩,⟨⟨⟨⟨⟨ah1,ajX⟩,⟨ana,ahv⟩⟩,⟨⟨am0,afw⟩,⟨ajU,⟨akX,agJ⟩⟩⟩⟩,⟨⟨⟨aiL,aim⟩,⟨ag9,⟨akD,ae3⟩⟩⟩,⟨⟨akl,af7⟩,⟨amh,⟨agT,ajk⟩⟩⟩⟩⟩,⟨⟨⟨⟨aff,akL⟩,⟨am3,ajq⟩⟩,⟨⟨amy,air⟩,⟨afM,⟨amG,ajz⟩⟩⟩⟩,⟨⟨⟨alv,ajo⟩,⟨agv,⟨ah9,ak8⟩⟩⟩,⟨⟨amc,al9⟩,⟨aml,⟨ag2,ain⟩⟩⟩⟩⟩⟩⟩,⟨⟨⟨⟨⟨⟨ag3,aj2⟩,⟨ajM,afD⟩⟩,⟨⟨ai1,ajh⟩,⟨akW,⟨ahj,akO⟩⟩⟩⟩,⟨⟨⟨ais,akN⟩,⟨ak0,⟨ahA,akh⟩⟩⟩,⟨⟨akT,aiT⟩,⟨aj5,⟨ajb,alW⟩⟩⟩⟩⟩,⟨⟨⟨⟨aj3,ahJ⟩,⟨aiB,akB⟩⟩,⟨⟨ahp,akm⟩,⟨ahY,⟨af8,amt⟩⟩⟩⟩,⟨⟨⟨akc,als⟩,⟨ajm,⟨alf,alH⟩⟩⟩,⟨⟨akK,al2⟩,⟨ama,⟨agB,ahs⟩⟩⟩⟩⟩⟩,⟨⟨⟨⟨⟨ahn,afp⟩,⟨afZ,ala⟩⟩,⟨⟨akv,ajH⟩,⟨aj0,⟨aio,ajg⟩⟩⟩⟩,⟨⟨⟨ahB,ahh⟩,⟨agH,⟨alA,afG⟩⟩⟩,⟨⟨afy,afg⟩,⟨amE,⟨amZ,ag4⟩⟩⟩⟩⟩,⟨⟨⟨⟨ajC,amK⟩,⟨ali,⟨alo,akb⟩⟩⟩,⟨⟨aiU,alJ⟩,⟨akj,⟨akZ,amD⟩⟩⟩⟩,⟨⟨⟨aiD,amH⟩,⟨amk,⟨agb,alq⟩⟩⟩,⟨⟨al1,ajP⟩,⟨am9,⟨amz,aiq⟩⟩⟩⟩⟩⟩⟩⟩
end Go.D.Tab
end
section
namespace Go.D
structure Rec where
 C:RC→Fr→St→Option (Ex×Fr×St)
 O:List al→Fr→St→Option (Fr×St)
 S:List al→Fr→St→List St→Option (Fr×List St)
 N:al→Fr→St→Option (DV×St)
 A:Fr→List al→List St→List (Nat×List Nat)→Bool
 K:Fr→al→List St→List Nat→Bool
 F:Nat→List DV→St→Option (DV×St)
 V:DV→List DV→St→Option (DV×St)
def cr (T:Tab) (R:Rec):RC→Fr→St→Option (Ex×Fr×St)
 | c,fr,st=>
   match c with
   | .skip=>some (.normal,fr,st)
   | .region ops live=>match R.O ops fr st with | some (fr',st')=>some (.normal,fr'.bD live,st') | none=>none
   | .au ops hs chk live=>
     match gg fr hs st ops with
     | some (st1,ops2)=>
       match R.S ops2 fr st1 [st1] with
       | some (fr',sts)=>if R.A fr' ops2 sts.reverse chk then (match sts with | st'::_=>some (.normal,fr'.bD live,st') | []=>none) else none
       | none=>none
     | none=>none
   | .seq a b=>
     match R.C a fr st with
     | some (.normal,fr',st')=>R.C b fr' st'
     | r=>r
   | .cond x a b=>match x.ev fr with | .bool true=>R.C a fr st | .bool false=>R.C b fr st | _=>none
   | .block id a=>
     match R.C a fr st with
     | some (.exit id',fr',st')=>if id'=id then some (.normal,fr',st') else some (.exit id',fr',st')
     | r=>r
   | .loop live a=>
     match R.C a (fr.bD live) st with
     | some (.normal,fr',st')=>R.C (.loop live a) fr' st'
     | r=>r
   | .exit id=>some (.exit id,fr,st)
   | .ret=>some (.ret,fr,st)
   | .stuck=>none
   | .gf f params assign body live=>
     let l:=st.heap.length
     let fr0:=fr.bD live
     match f.ev fr0 with
     | .fn g first captured=>
       if dM T g then
        match R.F g (first++[.yield l]++captured) (st.push (.loop ⟨fr0,params,assign,body,0,none⟩)) with
        | some (_,st')=>
          match st'.heap[l]? with
          | some (.loop lo)=>
            if lo.state=1 then none else
            match lo.pending with
            | none=>some (.normal,fr0,{ st' with heap:=st'.heap.set l (.loop { lo with state:=3 }) })
            | some e=>some (e,fr0,{ st' with heap:=st'.heap.set l (.loop { lo with state:=3 }) })
          | _=>none
        | none=>none
       else none
     | _=>none
def jn (_T:Tab) (R:Rec):List al→Fr→St→Option (Fr×St)
 | [],fr,st=>some (fr,st)
 | o::r,fr,st=>
   match R.N o fr st with
   | some (v,st')=>R.O r (fr.put o.dst v) st'
   | none=>none
def ff (T:Tab) (R:Rec):List al→Fr→St→List St→Option (Fr×List St)
 | [],fr,_,sts=>some (fr,sts)
 | o::r,fr,st,sts=>
   match R.N o fr st with
   | some (v,st')=>if bb (ab T) o.op then R.S r (fr.put o.dst v) st' (st'::sts) else R.S r (fr.put o.dst v) st sts
   | none=>none
def dF (T:Tab) (R:Rec):al→Fr→St→Option (DV×St)
 | o,fr,st=>
   match dH fr o.guard with
   | none=>none
   | some false=>some (.tuple [],st)
   | some true=>
     match o.op with
     | .call g args=>R.F g (args.map (X.ev fr)) st
     | .br f args=>R.V (f.ev fr) (args.map (X.ev fr)) st
     | .cW f args=>
       match f.ev fr with
       | .fn g first captured=>if ab T g then R.F g (first++args.map (X.ev fr)++captured) st else none
       | _=>none
     | op=>av st fr op
def js (_T:Tab) (R:Rec):Fr→List al→List St→List (Nat×List Nat)→Bool
 | _,_,_,[]=>true
 | fr,ops,sts,(i,vs)::r=>
   (match ops[i]? with
    | some o=>R.K fr o sts vs
    | none=>false)&&R.A fr ops sts r
def iK (_T:Tab) (R:Rec):Fr→al→List St→List Nat→Bool
 | _,_,_,[]=>true
 | fr,o,sts,j::r=>
   (match sts[j]? with
    | some st=>(match R.N o fr st,o.dst with | some (v,_),some d=>DV.beq v (fr.get d) | _,_=>false)
    | none=>false)&&R.K fr o sts r
def dr (T:Tab) (R:Rec):Nat→List DV→St→Option (DV×St)
 | g,args,st=>
   match T g with
   | none=>none
   | some (.iD p)=>p args st
   | some (.dU p)=>(p args).map fun v=>(v,st)
   | some (.code f)=>
     if f.ib then
      match R.C f.body (bw args 0) st.enter with
      | some (.exit _,_,_)=>none
      | some (_,fr,st')=>
        match dV st' fr f.results with
        | some v=>(bC st st' v).map fun v'=>(v',st)
        | none=>none
      | none=>none
     else
      match R.C f.body (bw args 0) st with
      | some (.exit _,_,_)=>none
      | some (_,fr,st')=>(dV st' fr f.results).map fun v=>(v,st')
      | none=>none
def iS (_T:Tab) (R:Rec):DV→List DV→St→Option (DV×St)
 | f,args,st=>
   match f with
   | .fn g first captured=>R.F g (first++args++captured) st
   | .yield l=>
     match st.heap[l]? with
     | some (.loop lo)=>
       if st.base≤l∧args.length=lo.params.length then
        match R.C lo.assign (cB lo.fr lo.params args) st with
        | some (.normal,fr1,st1)=>
          match st1.heap[l]? with
          | some (.loop lo1)=>
            if lo1.state=0 then
             match R.C lo.body fr1 { st1 with heap:=st1.heap.set l (.loop { lo1 with state:=1 }) } with
             | some (e,_,st2)=>
               match st2.heap[l]? with
               | some (.loop lo2)=>
                 match e with
                 | .normal=>some (.bool true,{ st2 with heap:=st2.heap.set l (.loop { lo2 with state:=0,pending:=none }) })
                 | e=>some (.bool false,{ st2 with heap:=st2.heap.set l (.loop { lo2 with state:=2,pending:=some e }) })
               | _=>none
             | none=>none
            else none
          | _=>none
        | _=>none
       else none
     | _=>none
   | _=>none
def uE:Rec:=⟨fun _ _ _=>none,fun _ _ _=>none,fun _ _ _ _=>none,fun _ _ _=>none,fun _ _ _ _=>false,fun _ _ _ _=>false,fun _ _ _=>none,fun _ _ _=>none⟩
def dp (T:Tab) (R:Rec):Rec:=⟨cr T R,jn T R,ff T R,dF T R,js T R,iK T R,dr T R,iS T R⟩
def cU (T:Tab):Nat→Rec
 | 0=>uE
 | n+1=>dp T (cU T n)
def q6 (T:Tab) (n:Nat):Rec:=⟨dk T n,fY T n,df T n,b7 T n,gM T n,gL T n,dR T n,jH T n⟩
theorem Ca (T:Tab):q6 T 0=uE:=by
 unfold q6 uE
 rw [Rec.mk.injEq]
 refine ⟨?_,?_,?_,?_,?_,?_,?_,?_⟩
 · funext c fr st;cases c<;>simp [dk]
 · funext a b c;simp [fY]
 · funext a b c d;simp [df]
 · funext a b c;simp [b7]
 · funext a b c d;simp [gM]
 · funext a b c d;simp [gL]
 · funext a b c;simp [dR]
 · funext a b c;simp [jH]
theorem Cx (T:Tab) (n:Nat):q6 T (n+1)=dp T (q6 T n):=by
 unfold q6 dp
 rw [Rec.mk.injEq]
 refine ⟨?_,?_,?_,?_,?_,?_,?_,?_⟩
 · funext c fr st;cases c<;>first | rfl | (simp only [dk,cr];done) | (simp only [dk,cr];rfl)
 · funext a b c;cases a<;>first | rfl | (simp only [fY,jn];done) | (simp only [fY,jn];rfl)
 · funext a b c d;cases a<;>first | rfl | (simp only [df,ff];done) | (simp only [df,ff];rfl)
 · funext a b c;first | rfl | (simp only [b7,dF];done) | (simp only [b7,dF];rfl)
 · funext a b c d;cases d<;>first | rfl | (simp only [gM,js];done) | (simp only [gM,js];rfl)
 · funext a b c d;cases d<;>first | rfl | (simp only [gL,iK];done) | (simp only [gL,iK];rfl)
 · funext a b c;first | rfl | (simp only [dR,dr];done) | (simp only [dR,dr];rfl)
 · funext a b c;first | rfl | (simp only [jH,iS];done) | (simp only [jH,iS];rfl)
theorem oi (T:Tab):∀ n,cU T n=q6 T n
 | 0=>(Ca T).symm
 | n+1=>by rw [Cx,← oi T n];rfl
theorem pL {T:Tab} {n g:Nat} {args:List DV} {st:St} {r:Option (DV×St)} (h:(cU T n).F g args st=r):dR T n g args st=r:=by
 rw [oi] at h
 exact h
end Go.D
end
