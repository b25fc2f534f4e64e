import Derived.Test.YtlohmlkafemifaaGreatDoorChecked
import Derived.KernelRfl
import Derived.Test.YtlohmlkafemifaaGreatDoorM1
/-! Texts 2 of this claim, joined. -/
section
namespace Go.D.Tab
@[simp] def σ (d:Nat) (x:ROp):ROper:=⟨some d,x,none⟩
@[simp] def τ (d:Nat) (x:ROp) (a:Nat) (b:Bool):ROper:=⟨some d,x,some (a,b)⟩
@[simp] def κ (n:Nat):D.X:=.c (.int .i64 (.ofNat n))
abbrev Ω:=List ROper
@[simp] def f9r0:Ω:=[σ 1 (.box 21 (.t 0)),σ 2 (.alloc [(.str []),(.list 0 0 .no false []),(.int .i64 (.ofNat 0)),(.int .i64 (.ofNat 0)),(.int .i64 (.ofNat 0)),(.int .i64 (.ofNat 0)),(.int .i64 (.ofNat 0)),(.int .i64 (.ofNat 0)),(.int .i64 (.ofNat 0)),(.int .i64 (.ofNat 0)),(.int .i64 (.ofNat 0)),(.int .i64 (.ofNat 0)),(.int .i64 (.ofNat 0)),(.int .i64 (.ofNat 0)),(.int .i64 (.ofNat 0)),(.int .i64 (.ofNat 0)),(.int .i64 (.ofNat 0)),(.int .i64 (.ofNat 0)),(.int .i64 (.ofNat 0)),(.str []),(.list 0 0 .no false [])])]
@[simp] def f9r1:Ω:=[σ 4 (.load 21 true (.t 1)),σ 3 (.alloc [(.str []),(.list 0 0 .no false []),(.int .i64 (.ofNat 0)),(.int .i64 (.ofNat 0)),(.int .i64 (.ofNat 0)),(.int .i64 (.ofNat 0)),(.int .i64 (.ofNat 0)),(.int .i64 (.ofNat 0)),(.int .i64 (.ofNat 0)),(.int .i64 (.ofNat 0)),(.int .i64 (.ofNat 0)),(.int .i64 (.ofNat 0)),(.int .i64 (.ofNat 0)),(.int .i64 (.ofNat 0)),(.int .i64 (.ofNat 0)),(.int .i64 (.ofNat 0)),(.int .i64 (.ofNat 0)),(.int .i64 (.ofNat 0)),(.int .i64 (.ofNat 0)),(.str []),(.list 0 0 .no false [])]),⟨none,.store 21 (.t 3) (.t 4),none⟩]
@[simp] def f9r2:Ω:=[σ 5 (.lit 4 true [(.int .i64 (.ofNat 0)),(.int .i64 (.ofNat 0)),(.int .i64 (.ofNat 0)),(.int .i64 (.ofNat 0))] 0 []),σ 6 (.faddr 1 (.t 1)),σ 7 (.load 1 false (.t 6)),σ 8 (.append 4 true 32 (.t 5) (.t 7)),σ 9 (.faddr 1 (.t 3)),⟨none,.store 1 (.t 9) (.t 8),none⟩]
@[simp] def f9r3:Ω:=[σ 10 (.lit 1 false [(.str [])] 0 []),σ 11 (.faddr 20 (.t 1)),σ 12 (.load 1 false (.t 11)),σ 13 (.append 1 false 16 (.t 10) (.t 12)),σ 14 (.faddr 20 (.t 3)),⟨none,.store 1 (.t 14) (.t 13),none⟩]
@[simp] def f9r4:Ω:=[σ 15 (.load 21 true (.t 3)),⟨none,.store 21 (.t 2) (.t 15),none⟩]
def f9:RFunc:=⟨[.cell 2 21 true],(.seq (.region f9r0 [1,2]) (.seq (.region f9r1 [1,2,3]) (.seq (.region f9r2 [1,2,3]) (.seq (.region f9r3 [2,3]) (.seq (.region f9r4 [2]) .ret))))),true⟩
@[simp] def f10r0:Ω:=[σ 1 (.box 21 (.t 0)),σ 2 (.mv (.c (.list 0 0 .no false []))),σ 3 (.mv (κ 0))]
@[simp] def f10r1:Ω:=[σ 18 (.load 21 true (.t 1)),σ 19 (.call 13 [(.t 18)]),σ 4 (.mv (.t 19))]
@[simp] def f10r2:Ω:=[σ 20 (.mv (.t 4)),σ 21 (.bin .neq (.t 20) (κ 0))]
@[simp] def f10r3:Ω:=[σ 22 (.mv (.t 4)),σ 2 (.mv (.c (.list 0 0 .no false []))),σ 3 (.mv (.t 22))]
@[simp] def f10r4:Ω:=[σ 24 (.faddr 0 (.t 1)),σ 25 (.load 1 false (.t 24)),σ 26 (.call 27 [(.t 25)]),σ 23 (.mv (.t 26)),σ 27 (.extract (.t 23) 0),σ 28 (.extract (.t 23) 1),σ 5 (.mv (.t 27)),σ 6 (.mv (.t 28))]
@[simp] def f10r5:Ω:=[σ 29 (.faddr 1 (.t 1)),σ 30 (.load 1 false (.t 29)),σ 31 (.call 29 [(.t 30)]),σ 7 (.mv (.t 31))]
@[simp] def f10r6:Ω:=[σ 32 (.faddr 20 (.t 1)),σ 33 (.load 1 false (.t 32)),σ 8 (.mv (.t 33))]
@[simp] def f10r7:Ω:=[σ 9 (.mv (.c (.list 0 0 .no false [])))]
@[simp] def f10r8:Ω:=[σ 10 (.mv (.c (.bool false))),σ 11 (.mv (.c (.int .u8 (.ofNat 0))))]
@[simp] def f10r9:Ω:=[σ 34 (.mv (.t 5)),σ 35 (.len .slice (.t 34)),σ 36 (.mv (κ 0))]
@[simp] def f10r10:Ω:=[σ 37 (.bin .lss (.t 36) (.t 35))]
@[simp] def f10r11:Ω:=[σ 38 (.iaddr 3 (.t 34) (.t 36)),σ 39 (.load 3 true (.t 38)),σ 13 (.alloc [(.int .i64 (.ofNat 0)),(.int .i64 (.ofNat 0)),(.int .i64 (.ofNat 0))]),⟨none,.store 3 (.t 13) (.t 39),none⟩]
@[simp] def f10r12:Ω:=[σ 40 (.mv (.t 7)),σ 41 (.faddr 0 (.t 13)),σ 42 (.load 1 false (.t 41)),σ 43 (.callv (.t 40) [(.t 42)]),σ 14 (.alloc [(.int .i64 (.ofNat 0)),(.int .i64 (.ofNat 0)),(.int .i64 (.ofNat 0))]),⟨none,.store 3 (.t 14) (.t 43),none⟩]
@[simp] def f10r13:Ω:=[σ 44 (.faddr 0 (.t 13)),σ 45 (.load 1 false (.t 44)),σ 46 (.faddr 1 (.t 13)),σ 47 (.load 1 false (.t 46)),σ 48 (.faddr 2 (.t 13)),σ 49 (.load 1 false (.t 48)),σ 50 (.faddr 0 (.t 14)),σ 51 (.load 1 false (.t 50)),σ 52 (.build [(.int .i64 (.ofNat 0)),(.int .i64 (.ofNat 0)),(.int .i64 (.ofNat 0)),(.int .i64 (.ofNat 0)),(.int .i64 (.ofNat 0)),(.int .i64 (.ofNat 0))] [(0,1,(.t 45)),(1,1,(.t 47)),(2,1,(.t 49)),(3,1,(.t 51))]),σ 15 (.alloc [(.int .i64 (.ofNat 0)),(.int .i64 (.ofNat 0)),(.int .i64 (.ofNat 0)),(.int .i64 (.ofNat 0)),(.int .i64 (.ofNat 0)),(.int .i64 (.ofNat 0))]),⟨none,.store 6 (.t 15) (.t 52),none⟩]
@[simp] def f10r14:Ω:=[σ 53 (.faddr 3 (.t 15)),σ 54 (.load 1 false (.t 53)),σ 55 (.bin .eql (.t 54) (κ 0))]
@[simp] def f10r15:Ω:=[σ 56 (.faddr 2 (.t 1)),σ 57 (.faddr 0 (.t 56)),σ 58 (.load 1 false (.t 57)),σ 59 (.faddr 3 (.t 15)),⟨none,.store 1 (.t 59) (.t 58),none⟩]
@[simp] def f10r16:Ω:=[σ 60 (.faddr 0 (.t 1)),σ 61 (.load 1 false (.t 60)),σ 62 (.faddr 0 (.t 13)),σ 63 (.load 1 false (.t 62)),σ 64 (.index (.t 61) (.t 63)),σ 16 (.mv (.t 64))]
@[simp] def f10r17:Ω:=[σ 65 (.faddr 2 (.t 13)),σ 66 (.load 1 false (.t 65)),σ 67 (.bin .eql (.t 66) (κ 1)),σ 68 (.mv (.t 67)),τ 69 (.faddr 2 (.t 13)) 68 false,τ 70 (.load 1 false (.t 69)) 68 false,τ 71 (.bin .eql (.t 70) (κ 2)) 68 false,σ 72 (.pick (.t 68) (.c (.bool true)) (.t 71)),σ 17 (.mv (.t 72))]
@[simp] def f10r18:Ω:=[σ 74 (.mv (.t 17)),σ 75 (.mv (.t 74)),τ 76 (.faddr 2 (.t 13)) 75 false,τ 77 (.load 1 false (.t 76)) 75 false,τ 78 (.bin .eql (.t 77) (κ 3)) 75 false,σ 79 (.pick (.t 75) (.c (.bool true)) (.t 78)),σ 73 (.mv (.t 79))]
@[simp] def f10r19:Ω:=[σ 80 (.mv (.t 16)),σ 81 (.faddr 3 (.t 15)),σ 82 (.load 1 false (.t 81)),σ 83 (.call 30 [(.t 80),(.t 82)]),σ 84 (.faddr 1 (.t 14)),σ 85 (.load 1 false (.t 84)),σ 86 (.bin .add (.t 83) (.t 85)),σ 87 (.faddr 4 (.t 15)),⟨none,.store 1 (.t 87) (.t 86),none⟩]
@[simp] def f10r20:Ω:=[σ 89 (.faddr 2 (.t 13)),σ 90 (.load 1 false (.t 89)),σ 91 (.bin .eql (.t 90) (κ 7)),σ 88 (.mv (.t 91))]
@[simp] def f10r21:Ω:=[σ 92 (.mv (.t 8)),σ 93 (.iaddr 1 (.t 92) (κ 0)),σ 94 (.load 1 false (.t 93)),σ 95 (.faddr 3 (.t 15)),σ 96 (.load 1 false (.t 95)),σ 97 (.call 31 [(.t 94),(.t 96)]),σ 98 (.faddr 4 (.t 15)),⟨none,.store 1 (.t 98) (.t 97),none⟩]
@[simp] def f10r22:Ω:=[σ 99 (.mv (.t 8)),σ 100 (.slice false 1 (.t 99) (some (κ 1)) none none),σ 8 (.mv (.t 100))]
def f10K2:RC:=.block 2 (.seq (.region f10r18 [1,7,8,9,10,11,13,14,15,16,17,34,35,36,73]) (.cond (.t 73) (.dregion f10r19 [] [] [1,7,8,9,10,11,14,15,16,17,34,35,36]) (.seq (.region f10r20 [1,7,8,9,10,11,14,15,16,17,34,35,36,88]) (.cond (.t 88) (.seq (.dregion f10r21 [] [] [1,7,8,9,10,11,14,15,16,17,34,35,36]) (.region f10r22 [1,7,8,9,10,11,14,15,16,17,34,35,36])) .skip))))
@[simp] def f10r23:Ω:=[σ 101 (.mv (.t 17)),σ 102 (.mv (.t 101)),τ 103 (.faddr 2 (.t 14)) 102 true,τ 104 (.load 1 false (.t 103)) 102 true,τ 105 (.bin .eql (.t 104) (κ 1)) 102 true,σ 106 (.pick (.t 102) (.t 105) (.c (.bool false))),σ 107 (.mv (.t 106)),τ 108 (.mv (.t 10)) 107 true,σ 109 (.pick (.t 107) (.t 108) (.c (.bool false))),σ 110 (.mv (.t 109)),τ 111 (.mv (.t 9)) 110 true,τ 112 (.mv (.t 9)) 110 true,τ 113 (.len .slice (.t 112)) 110 true,τ 114 (.bin .sub (.t 113) (κ 1)) 110 true,τ 115 (.iaddr 6 (.t 111) (.t 114)) 110 true,τ 116 (.faddr 3 (.t 115)) 110 true,τ 117 (.load 1 false (.t 116)) 110 true,τ 118 (.faddr 3 (.t 15)) 110 true,τ 119 (.load 1 false (.t 118)) 110 true,τ 120 (.bin .eql (.t 117) (.t 119)) 110 true,σ 121 (.pick (.t 110) (.t 120) (.c (.bool false)))]
@[simp] def f10r24:Ω:=[σ 122 (.mv (.t 11)),σ 123 (.mv (.t 16)),σ 124 (.faddr 3 (.t 15)),σ 125 (.load 1 false (.t 124)),σ 126 (.call 32 [(.t 122),(.t 123),(.t 125)]),σ 127 (.faddr 5 (.t 15)),⟨none,.store 1 (.t 127) (.t 126),none⟩]
@[simp] def f10r25:Ω:=[σ 128 (.mv (.t 17)),σ 129 (.mv (.t 128)),τ 130 (.faddr 2 (.t 14)) 129 true,τ 131 (.load 1 false (.t 130)) 129 true,τ 132 (.bin .eql (.t 131) (κ 1)) 129 true,σ 133 (.pick (.t 129) (.t 132) (.c (.bool false))),σ 134 (.mv (.t 16)),σ 10 (.mv (.t 133)),σ 11 (.mv (.t 134))]
@[simp] def f10r26:Ω:=[σ 135 (.mv (.t 9)),σ 136 (.load 6 true (.t 15)),σ 137 (.lit 6 true [(.int .i64 (.ofNat 0)),(.int .i64 (.ofNat 0)),(.int .i64 (.ofNat 0)),(.int .i64 (.ofNat 0)),(.int .i64 (.ofNat 0)),(.int .i64 (.ofNat 0))] 1 [(0,(.t 136))]),σ 138 (.append 6 true 48 (.t 135) (.t 137)),σ 9 (.mv (.t 138))]
@[simp] def f10r27:Ω:=[σ 139 (.bin .add (.t 36) (κ 1)),σ 36 (.mv (.t 139))]
def f10B0:RC:=(.seq (.region f10r10 [1,7,8,9,10,11,34,35,36,37]) (.seq (.cond (.t 37) .skip (.exit 0)) (.seq (.block 1 (.seq (.region f10r11 [1,7,8,9,10,11,13,34,35,36]) (.seq (.region f10r12 [1,7,8,9,10,11,13,14,34,35,36]) (.seq (.region f10r13 [1,7,8,9,10,11,13,14,15,34,35,36]) (.seq (.seq (.region f10r14 [1,7,8,9,10,11,13,14,15,34,35,36,55]) (.cond (.t 55) (.region f10r15 [1,7,8,9,10,11,13,14,15,34,35,36]) .skip)) (.seq (.region f10r16 [1,7,8,9,10,11,13,14,15,16,34,35,36]) (.seq (.region f10r17 [1,7,8,9,10,11,13,14,15,16,17,34,35,36]) (.seq f10K2 (.seq (.seq (.dregion f10r23 [] [] [1,7,8,9,11,14,15,16,17,34,35,36,121]) (.cond (.t 121) (.region f10r24 [1,7,8,9,14,15,16,17,34,35,36]) .skip)) (.seq (.region f10r25 [1,7,8,9,10,11,15,34,35,36]) (.region f10r26 [1,7,8,9,10,11,34,35,36]))))))))))) (.region f10r27 [1,7,8,9,10,11,34,35,36]))))
def f10L0:RC:=.loop [1,7,8,9,10,11,34,35,36] f10B0
@[simp] def f10r28:Ω:=[σ 140 (.mv (.t 9)),σ 2 (.mv (.t 140)),σ 3 (.mv (κ 0))]
def f10:RFunc:=⟨[.t 2,.t 3],(.seq (.region f10r0 [1]) (.seq (.seq (.region f10r1 [1,4]) (.seq (.region f10r2 [1,4,21]) (.cond (.t 21) (.seq (.region f10r3 [2,3]) .ret) .skip))) (.seq (.region f10r4 [1,5]) (.seq (.region f10r5 [1,5,7]) (.seq (.region f10r6 [1,5,7,8]) (.seq (.region f10r7 [1,5,7,8,9]) (.seq (.region f10r8 [1,5,7,8,9,10,11]) (.seq (.seq (.region f10r9 [1,7,8,9,10,11,34,35,36]) (.block 0 f10L0)) (.seq (.region f10r28 [2,3]) .ret))))))))),true⟩
@[simp] def f13r0:Ω:=[σ 1 (.box 21 (.t 0)),σ 2 (.mv (κ 0))]
@[simp] def f13r1:Ω:=[σ 8 (.faddr 0 (.t 1)),σ 9 (.load 1 false (.t 8)),σ 10 (.call 27 [(.t 9)]),σ 7 (.mv (.t 10)),σ 11 (.extract (.t 7) 0),σ 12 (.extract (.t 7) 1),σ 3 (.mv (.t 11)),σ 4 (.mv (.t 12))]
@[simp] def f13r2:Ω:=[σ 13 (.mv (.t 4)),σ 14 (.bin .neq (.t 13) (κ 0))]
@[simp] def f13r3:Ω:=[σ 15 (.mv (.t 4)),σ 2 (.mv (.t 15))]
@[simp] def f13r4:Ω:=[σ 16 (.faddr 0 (.t 1)),σ 17 (.load 1 false (.t 16)),σ 18 (.call 40 [(.t 17),(.c (.int .u8 (.ofNat 3)))]),σ 19 (.bin .geq (.t 18) (κ 0))]
@[simp] def f13r5:Ω:=[σ 2 (.mv (κ 4))]
@[simp] def f13r6:Ω:=[σ 20 (.faddr 1 (.t 1)),σ 21 (.load 1 false (.t 20)),σ 22 (.faddr 0 (.t 1)),σ 23 (.load 1 false (.t 22)),σ 24 (.len .str (.t 23)),σ 25 (.call 41 [(.t 21),(.t 24)]),σ 26 (.un .not (.t 25)),σ 27 (.mv (.t 26)),τ 28 (.faddr 2 (.t 1)) 27 false,τ 29 (.load 17 true (.t 28)) 27 false,τ 30 (.call 42 [(.t 29)]) 27 false,τ 31 (.un .not (.t 30)) 27 false,σ 32 (.pick (.t 27) (.c (.bool true)) (.t 31)),σ 33 (.mv (.t 32)),τ 34 (.faddr 19 (.t 1)) 33 false,τ 35 (.load 1 false (.t 34)) 33 false,τ 36 (.call 43 [(.t 35),(κ 16)]) 33 false,τ 37 (.un .not (.t 36)) 33 false,σ 38 (.pick (.t 33) (.c (.bool true)) (.t 37)),σ 39 (.mv (.t 38)),τ 40 (.faddr 20 (.t 1)) 39 false,τ 41 (.load 1 false (.t 40)) 39 false,τ 42 (.len .slice (.t 41)) 39 false,τ 43 (.faddr 0 (.t 1)) 39 false,τ 44 (.load 1 false (.t 43)) 39 false,τ 45 (.call 44 [(.t 44),(.c (.str [2]))]) 39 false,τ 46 (.bin .neq (.t 42) (.t 45)) 39 false,σ 47 (.pick (.t 39) (.c (.bool true)) (.t 46))]
@[simp] def f13r7:Ω:=[σ 2 (.mv (κ 2))]
@[simp] def f13r8:Ω:=[σ 48 (.faddr 20 (.t 1)),σ 49 (.load 1 false (.t 48)),σ 50 (.len .slice (.t 49)),σ 51 (.mv (κ 0))]
@[simp] def f13r9:Ω:=[σ 52 (.bin .lss (.t 51) (.t 50))]
@[simp] def f13r10:Ω:=[σ 53 (.iaddr 1 (.t 49) (.t 51)),σ 54 (.load 1 false (.t 53)),σ 6 (.mv (.t 54))]
@[simp] def f13r11:Ω:=[σ 55 (.mv (.t 6)),σ 56 (.bin .eql (.t 55) (.c (.str []))),σ 57 (.mv (.t 56)),τ 58 (.mv (.t 6)) 57 false,τ 59 (.call 43 [(.t 58),(κ 8)]) 57 false,τ 60 (.un .not (.t 59)) 57 false,σ 61 (.pick (.t 57) (.c (.bool true)) (.t 60))]
@[simp] def f13r12:Ω:=[σ 2 (.mv (κ 2))]
@[simp] def f13r13:Ω:=[σ 62 (.bin .add (.t 51) (κ 1)),σ 51 (.mv (.t 62))]
def f13B0:RC:=(.seq (.region f13r9 [49,50,51,52]) (.seq (.cond (.t 52) .skip (.exit 0)) (.seq (.block 1 (.seq (.region f13r10 [6,49,50,51]) (.seq (.region f13r11 [49,50,51,61]) (.cond (.t 61) (.seq (.region f13r12 [2]) .ret) .skip)))) (.region f13r13 [49,50,51]))))
def f13L0:RC:=.loop [49,50,51] f13B0
@[simp] def f13r14:Ω:=[σ 2 (.mv (κ 0))]
def f13:RFunc:=⟨[.t 2],(.seq (.region f13r0 [1]) (.seq (.seq (.region f13r1 [1,4]) (.seq (.region f13r2 [1,4,14]) (.cond (.t 14) (.seq (.region f13r3 [2]) .ret) .skip))) (.seq (.seq (.region f13r4 [1,19]) (.cond (.t 19) (.seq (.region f13r5 [2]) .ret) .skip)) (.seq (.seq (.dregion f13r6 [] [] [1,47]) (.cond (.t 47) (.seq (.region f13r7 [2]) .ret) .skip)) (.seq (.seq (.region f13r8 [49,50,51]) (.block 0 f13L0)) (.seq (.region f13r14 [2]) .ret)))))),true⟩
@[simp] def f17r0:Ω:=[σ 4 (.mv (κ 0)),σ 5 (.mv (κ 0))]
@[simp] def f17r1:Ω:=[σ 6 (.mv (.t 1)),σ 7 (.call 51 [(.t 6)]),σ 8 (.un .not (.t 7))]
@[simp] def f17r2:Ω:=[σ 4 (.mv (κ 0)),σ 5 (.mv (κ 5))]
@[simp] def f17r3:Ω:=[σ 9 (.mv (.t 0)),σ 10 (.len .str (.t 9)),σ 11 (.bin .gtr (.t 10) (κ 4096))]
@[simp] def f17r4:Ω:=[σ 4 (.mv (κ 0)),σ 5 (.mv (κ 3))]
@[simp] def f17r5:Ω:=[σ 12 (.mv (.t 0)),σ 13 (.mv (.t 1)),σ 14 (.call 31 [(.t 12),(.t 13)]),σ 4 (.mv (.t 14)),σ 5 (.mv (κ 0))]
def f17:RFunc:=⟨[.t 4,.t 5],(.seq (.region f17r0 [0,1]) (.seq (.seq (.region f17r1 [0,1,8]) (.cond (.t 8) (.seq (.region f17r2 [4,5]) .ret) .skip)) (.seq (.seq (.region f17r3 [0,1,11]) (.cond (.t 11) (.seq (.region f17r4 [4,5]) .ret) .skip)) (.seq (.region f17r5 [4,5]) .ret)))),true⟩
@[simp] def f21r0:Ω:=[σ 2 (.mv (κ 0))]
@[simp] def f21r1:Ω:=[σ 4 (.mv (.t 0)),σ 5 (.call 40 [(.c (.str [105,106,108,39,46,44,58,59,33,124])),(.t 4)]),σ 6 (.bin .geq (.t 5) (κ 0)),σ 3 (.mv (.t 6))]
@[simp] def f21r2:Ω:=[σ 2 (.mv (κ 2))]
@[simp] def f21r3:Ω:=[σ 8 (.mv (.t 0)),σ 9 (.call 40 [(.c (.str [102,116,114,40,41,91,93,123,125,45,34,94,95,126,96,73,32])),(.t 8)]),σ 10 (.bin .geq (.t 9) (κ 0)),σ 7 (.mv (.t 10))]
@[simp] def f21r4:Ω:=[σ 2 (.mv (κ 3))]
@[simp] def f21r5:Ω:=[σ 12 (.mv (.t 0)),σ 13 (.bin .eql (.t 12) (.c (.int .u8 (.ofNat 109)))),σ 14 (.mv (.t 13)),τ 15 (.mv (.t 0)) 14 false,τ 16 (.bin .eql (.t 15) (.c (.int .u8 (.ofNat 119)))) 14 false,σ 17 (.pick (.t 14) (.c (.bool true)) (.t 16)),σ 11 (.mv (.t 17))]
@[simp] def f21r6:Ω:=[σ 2 (.mv (κ 7))]
@[simp] def f21r7:Ω:=[σ 19 (.mv (.t 0)),σ 20 (.bin .eql (.t 19) (.c (.int .u8 (.ofNat 77)))),σ 21 (.mv (.t 20)),τ 22 (.mv (.t 0)) 21 false,τ 23 (.bin .eql (.t 22) (.c (.int .u8 (.ofNat 87)))) 21 false,σ 24 (.pick (.t 21) (.c (.bool true)) (.t 23)),σ 18 (.mv (.t 24))]
@[simp] def f21r8:Ω:=[σ 2 (.mv (κ 8))]
@[simp] def f21r9:Ω:=[σ 26 (.mv (.t 0)),σ 27 (.bin .geq (.t 26) (.c (.int .u8 (.ofNat 65)))),σ 28 (.mv (.t 27)),τ 29 (.mv (.t 0)) 28 true,τ 30 (.bin .leq (.t 29) (.c (.int .u8 (.ofNat 90)))) 28 true,σ 31 (.pick (.t 28) (.t 30) (.c (.bool false))),σ 25 (.mv (.t 31))]
@[simp] def f21r10:Ω:=[σ 2 (.mv (κ 6))]
@[simp] def f21r11:Ω:=[σ 33 (.mv (.t 0)),σ 34 (.bin .geq (.t 33) (.c (.int .u8 (.ofNat 97)))),σ 35 (.mv (.t 34)),τ 36 (.mv (.t 0)) 35 true,τ 37 (.bin .leq (.t 36) (.c (.int .u8 (.ofNat 122)))) 35 true,σ 38 (.pick (.t 35) (.t 37) (.c (.bool false))),σ 39 (.mv (.t 38)),τ 40 (.mv (.t 0)) 39 false,τ 41 (.bin .geq (.t 40) (.c (.int .u8 (.ofNat 48)))) 39 false,τ 42 (.mv (.t 41)) 39 false,τ 43 (.mv (.t 0)) 42 true,τ 44 (.bin .leq (.t 43) (.c (.int .u8 (.ofNat 57)))) 42 true,τ 45 (.pick (.t 42) (.t 44) (.c (.bool false))) 39 false,σ 46 (.pick (.t 39) (.c (.bool true)) (.t 45)),σ 32 (.mv (.t 46))]
@[simp] def f21r12:Ω:=[σ 2 (.mv (κ 5))]
@[simp] def f21r13:Ω:=[σ 48 (.mv (.t 0)),σ 49 (.bin .gtr (.t 48) (.c (.int .u8 (.ofNat 32)))),σ 50 (.mv (.t 49)),τ 51 (.mv (.t 0)) 50 true,τ 52 (.bin .leq (.t 51) (.c (.int .u8 (.ofNat 126)))) 50 true,σ 53 (.pick (.t 50) (.t 52) (.c (.bool false))),σ 47 (.mv (.t 53))]
@[simp] def f21r14:Ω:=[σ 2 (.mv (κ 6))]
@[simp] def f21r15:Ω:=[σ 2 (.mv (κ 0))]
def f21:RFunc:=⟨[.t 2],(.seq (.region f21r0 [0]) (.seq (.block 0 (.seq (.region f21r1 [0,3]) (.cond (.t 3) (.seq (.region f21r2 [2]) .ret) (.seq (.region f21r3 [0,7]) (.cond (.t 7) (.seq (.region f21r4 [2]) .ret) (.seq (.region f21r5 [0,11]) (.cond (.t 11) (.seq (.region f21r6 [2]) .ret) (.seq (.region f21r7 [0,18]) (.cond (.t 18) (.seq (.region f21r8 [2]) .ret) (.seq (.region f21r9 [0,25]) (.cond (.t 25) (.seq (.region f21r10 [2]) .ret) (.seq (.region f21r11 [0,32]) (.cond (.t 32) (.seq (.region f21r12 [2]) .ret) (.seq (.region f21r13 [47]) (.cond (.t 47) (.seq (.region f21r14 [2]) .ret) .skip))))))))))))))) (.seq (.region f21r15 [2]) .ret))),true⟩
@[simp] def f23r0:Ω:=[σ 6 (.mv (κ 0)),σ 7 (.mv (κ 0))]
@[simp] def f23r1:Ω:=[σ 13 (.mv (.t 0)),σ 14 (.len .slice (.t 13)),σ 15 (.bin .gtr (.t 14) (κ 4096))]
@[simp] def f23r2:Ω:=[σ 6 (.mv (κ 0)),σ 7 (.mv (κ 3))]
@[simp] def f23r3:Ω:=[σ 16 (.mv (.t 0)),σ 17 (.len .slice (.t 16)),σ 18 (.mv (κ 0))]
@[simp] def f23r4:Ω:=[σ 19 (.bin .lss (.t 18) (.t 17))]
@[simp] def f23r5:Ω:=[σ 20 (.iaddr 6 (.t 16) (.t 18)),σ 21 (.load 6 true (.t 20)),σ 9 (.alloc [(.int .i64 (.ofNat 0)),(.int .i64 (.ofNat 0)),(.int .i64 (.ofNat 0)),(.int .i64 (.ofNat 0)),(.int .i64 (.ofNat 0)),(.int .i64 (.ofNat 0))]),⟨none,.store 6 (.t 9) (.t 21),none⟩]
@[simp] def f23r6:Ω:=[σ 22 (.faddr 4 (.t 9)),σ 23 (.load 1 false (.t 22)),σ 24 (.bin .lss (.t 23) (κ 0)),σ 25 (.mv (.t 24)),τ 26 (.faddr 4 (.t 9)) 25 false,τ 27 (.load 1 false (.t 26)) 25 false,τ 28 (.bin .gtr (.t 27) (κ 4095)) 25 false,σ 29 (.pick (.t 25) (.c (.bool true)) (.t 28)),σ 30 (.mv (.t 29)),τ 31 (.faddr 5 (.t 9)) 30 false,τ 32 (.load 1 false (.t 31)) 30 false,τ 33 (.bin .lss (.t 32) (.c (.int .i64 (.negSucc 63)))) 30 false,σ 34 (.pick (.t 30) (.c (.bool true)) (.t 33)),σ 35 (.mv (.t 34)),τ 36 (.faddr 5 (.t 9)) 35 false,τ 37 (.load 1 false (.t 36)) 35 false,τ 38 (.bin .gtr (.t 37) (κ 0)) 35 false,σ 39 (.pick (.t 35) (.c (.bool true)) (.t 38))]
@[simp] def f23r7:Ω:=[σ 6 (.mv (κ 0)),σ 7 (.mv (κ 2))]
@[simp] def f23r8:Ω:=[σ 40 (.bin .add (.t 18) (κ 1)),σ 18 (.mv (.t 40))]
def f23B0:RC:=(.seq (.region f23r4 [0,1,2,16,17,18,19]) (.seq (.cond (.t 19) .skip (.exit 0)) (.seq (.block 1 (.seq (.region f23r5 [0,1,2,9,16,17,18]) (.seq (.region f23r6 [0,1,2,16,17,18,39]) (.cond (.t 39) (.seq (.region f23r7 [6,7]) .ret) .skip)))) (.region f23r8 [0,1,2,16,17,18]))))
def f23L0:RC:=.loop [0,1,2,16,17,18] f23B0
@[simp] def f23r9:Ω:=[σ 41 (.mv (.t 1)),σ 42 (.bin .lss (.t 41) (κ 0)),σ 43 (.mv (.t 42)),τ 44 (.mv (.t 2)) 43 false,τ 45 (.mv (.t 1)) 43 false,τ 46 (.bin .lss (.t 44) (.t 45)) 43 false,σ 47 (.pick (.t 43) (.c (.bool true)) (.t 46)),σ 48 (.mv (.t 47)),τ 49 (.mv (.t 2)) 48 false,τ 50 (.mv (.t 0)) 48 false,τ 51 (.len .slice (.t 50)) 48 false,τ 52 (.bin .gtr (.t 49) (.t 51)) 48 false,σ 53 (.pick (.t 48) (.c (.bool true)) (.t 52))]
@[simp] def f23r10:Ω:=[σ 6 (.mv (κ 0)),σ 7 (.mv (κ 5))]
@[simp] def f23r11:Ω:=[σ 10 (.mv (κ 0))]
@[simp] def f23r12:Ω:=[σ 54 (.mv (.t 0)),σ 55 (.mv (.t 1)),σ 56 (.mv (.t 2)),σ 57 (.slice false 6 (.t 54) (some (.t 55)) (some (.t 56)) none),σ 58 (.len .slice (.t 57)),σ 59 (.mv (κ 0))]
@[simp] def f23r13:Ω:=[σ 60 (.bin .lss (.t 59) (.t 58))]
@[simp] def f23r14:Ω:=[σ 61 (.mv (.t 59)),σ 62 (.iaddr 6 (.t 57) (.t 59)),σ 63 (.load 6 true (.t 62)),σ 12 (.alloc [(.int .i64 (.ofNat 0)),(.int .i64 (.ofNat 0)),(.int .i64 (.ofNat 0)),(.int .i64 (.ofNat 0)),(.int .i64 (.ofNat 0)),(.int .i64 (.ofNat 0))]),σ 11 (.mv (.t 61)),⟨none,.store 6 (.t 12) (.t 63),none⟩]
@[simp] def f23r15:Ω:=[σ 64 (.mv (.t 10)),σ 65 (.faddr 4 (.t 12)),σ 66 (.load 1 false (.t 65)),σ 67 (.bin .add (.t 64) (.t 66)),σ 10 (.mv (.t 67))]
@[simp] def f23r16:Ω:=[σ 68 (.mv (.t 11)),σ 69 (.bin .gtr (.t 68) (κ 0))]
@[simp] def f23r17:Ω:=[σ 70 (.mv (.t 10)),σ 71 (.faddr 5 (.t 12)),σ 72 (.load 1 false (.t 71)),σ 73 (.bin .add (.t 70) (.t 72)),σ 10 (.mv (.t 73))]
@[simp] def f23r18:Ω:=[σ 74 (.bin .add (.t 59) (κ 1)),σ 59 (.mv (.t 74))]
def f23B1:RC:=(.seq (.region f23r13 [10,57,58,59,60]) (.seq (.cond (.t 60) .skip (.exit 2)) (.seq (.block 3 (.seq (.region f23r14 [10,11,12,57,58,59]) (.seq (.region f23r15 [10,11,12,57,58,59]) (.seq (.region f23r16 [10,12,57,58,59,69]) (.cond (.t 69) (.region f23r17 [10,57,58,59]) .skip))))) (.region f23r18 [10,57,58,59]))))
def f23L1:RC:=.loop [10,57,58,59] f23B1
@[simp] def f23r19:Ω:=[σ 75 (.mv (.t 10)),σ 6 (.mv (.t 75)),σ 7 (.mv (κ 0))]
def f23:RFunc:=⟨[.t 6,.t 7],(.seq (.region f23r0 [0,1,2]) (.seq (.seq (.region f23r1 [0,1,2,15]) (.cond (.t 15) (.seq (.region f23r2 [6,7]) .ret) .skip)) (.seq (.seq (.region f23r3 [0,1,2,16,17,18]) (.block 0 f23L0)) (.seq (.seq (.region f23r9 [0,1,2,53]) (.cond (.t 53) (.seq (.region f23r10 [6,7]) .ret) .skip)) (.seq (.region f23r11 [0,1,2,10]) (.seq (.seq (.region f23r12 [10,57,58,59]) (.block 2 f23L1)) (.seq (.region f23r19 [6,7]) .ret))))))),true⟩
@[simp] def f26r0:Ω:=[σ 2 (.alloc [(.int .i64 (.ofNat 0)),(.int .i64 (.ofNat 0)),(.int .i64 (.ofNat 0)),(.int .i64 (.ofNat 0)),(.int .i64 (.ofNat 0)),(.int .i64 (.ofNat 0)),(.int .i64 (.ofNat 0)),(.int .i64 (.ofNat 0)),(.int .i64 (.ofNat 0)),(.int .i64 (.ofNat 0)),(.int .i64 (.ofNat 0)),(.int .i64 (.ofNat 0)),(.int .i64 (.ofNat 0)),(.int .i64 (.ofNat 0)),(.int .i64 (.ofNat 0)),(.int .i64 (.ofNat 0)),(.int .i64 (.ofNat 0))])]
@[simp] def f26r1:Ω:=[σ 3 (.mv (.t 0)),σ 4 (.build [(.int .i64 (.ofNat 0)),(.int .i64 (.ofNat 0)),(.int .i64 (.ofNat 0)),(.int .i64 (.ofNat 0)),(.int .i64 (.ofNat 0)),(.int .i64 (.ofNat 0)),(.int .i64 (.ofNat 0)),(.int .i64 (.ofNat 0)),(.int .i64 (.ofNat 0)),(.int .i64 (.ofNat 0)),(.int .i64 (.ofNat 0)),(.int .i64 (.ofNat 0)),(.int .i64 (.ofNat 0)),(.int .i64 (.ofNat 0)),(.int .i64 (.ofNat 0)),(.int .i64 (.ofNat 0)),(.int .i64 (.ofNat 0))] [(0,1,(.t 3)),(1,1,(κ 12)),(10,1,(κ 1)),(11,1,(κ 1))]),⟨none,.store 17 (.t 2) (.t 4),none⟩]
def f26:RFunc:=⟨[.cell 2 17 true],(.seq (.region f26r0 [0,2]) (.seq (.region f26r1 [2]) .ret)),true⟩
@[simp] def f27r0:Ω:=[σ 2 (.mv (.c (.list 0 0 .no false []))),σ 3 (.mv (κ 0))]
@[simp] def f27r1:Ω:=[σ 7 (.mv (.t 0)),σ 8 (.call 54 [(.t 7)]),σ 4 (.mv (.t 8))]
@[simp] def f27r2:Ω:=[σ 9 (.mv (.t 4)),σ 10 (.bin .neq (.t 9) (κ 0))]
@[simp] def f27r3:Ω:=[σ 11 (.mv (.t 4)),σ 2 (.mv (.c (.list 0 0 .no false []))),σ 3 (.mv (.t 11))]
@[simp] def f27r4:Ω:=[σ 5 (.alloc [(.list 0 0 .no false [])])]
@[simp] def f27r5:Ω:=[σ 12 (.mv (.t 0)),σ 13 (.call 55 [(.t 12)])]
@[simp] def f27r6:Ω:=[σ 6 (.alloc [(.int .i64 (.ofNat 0)),(.int .i64 (.ofNat 0)),(.int .i64 (.ofNat 0))]),⟨none,.store 3 (.t 6) (.t 14),none⟩]
@[simp] def f27r7:Ω:=[σ 15 (.load 1 false (.t 5)),σ 16 (.load 3 true (.t 6)),σ 17 (.lit 3 true [(.int .i64 (.ofNat 0)),(.int .i64 (.ofNat 0)),(.int .i64 (.ofNat 0))] 1 [(0,(.t 16))]),σ 18 (.append 3 true 24 (.t 15) (.t 17)),⟨none,.store 1 (.t 5) (.t 18),none⟩]
@[simp] def f27r8:Ω:=[σ 19 (.load 1 false (.t 5)),σ 2 (.mv (.t 19)),σ 3 (.mv (κ 0))]
def f27:RFunc:=⟨[.t 2,.t 3],(.seq (.region f27r0 [0]) (.seq (.seq (.region f27r1 [0,4]) (.seq (.region f27r2 [0,4,10]) (.cond (.t 10) (.seq (.region f27r3 [2,3]) .ret) .skip))) (.seq (.region f27r4 [0,5]) (.seq (.seq (.region f27r5 [5,13]) (.block 0 (.rfunc (.t 13) [14] (.region f27r6 [5,6]) (.block 1 (.region f27r7 [])) [5,13]))) (.seq (.region f27r8 [2,3]) .ret))))),true⟩
@[simp] def f29r0:Ω:=[σ 1 (.box 1 (.t 0)),σ 2 (.mv (.c .nilfn))]
@[simp] def f29r1:Ω:=[σ 3 (.alloc [(.int .i64 (.ofNat 0))]),⟨none,.store 1 (.t 3) (κ 0),none⟩]
@[simp] def f29r2:Ω:=[σ 4 (.load 1 false (.t 1)),σ 5 (.len .slice (.t 4)),σ 6 (.bin .gtr (.t 5) (κ 0))]
@[simp] def f29r3:Ω:=[σ 7 (.load 1 false (.t 1)),σ 8 (.iaddr 4 (.t 7) (κ 0)),σ 9 (.faddr 0 (.t 8)),σ 10 (.load 1 false (.t 9)),⟨none,.store 1 (.t 3) (.t 10),none⟩]
@[simp] def f29r4:Ω:=[σ 11 (.mkfn 56 [] [(.t 1),(.t 3)]),σ 2 (.mv (.t 11))]
def f29:RFunc:=⟨[.t 2],(.seq (.region f29r0 [1]) (.seq (.region f29r1 [1,3]) (.seq (.seq (.region f29r2 [1,3,6]) (.cond (.t 6) (.region f29r3 [1,3]) .skip)) (.seq (.region f29r4 [2]) .ret)))),false⟩
@[simp] def f30r0:Ω:=[σ 4 (.mv (κ 0))]
@[simp] def f30r1:Ω:=[σ 5 (.mv (.t 0)),σ 6 (.call 21 [(.t 5)]),σ 7 (.mv (.t 1)),σ 8 (.bin .mul (.t 6) (.t 7)),σ 9 (.bin .quo (.t 8) (κ 8)),σ 4 (.mv (.t 9))]
def f30:RFunc:=⟨[.t 4],(.seq (.region f30r0 [0,1]) (.seq (.region f30r1 [4]) .ret)),true⟩
@[simp] def f31r0:Ω:=[σ 4 (.mv (κ 0))]
@[simp] def f31r1:Ω:=[σ 5 (.mv (κ 0))]
@[simp] def f31r2:Ω:=[σ 8 (.mv (.t 0)),σ 9 (.s2b (.t 8)),σ 10 (.len .slice (.t 9)),σ 11 (.mv (κ 0))]
@[simp] def f31r3:Ω:=[σ 12 (.bin .lss (.t 11) (.t 10))]
@[simp] def f31r4:Ω:=[σ 13 (.iaddr 1 (.t 9) (.t 11)),σ 14 (.load 1 false (.t 13)),σ 7 (.mv (.t 14))]
@[simp] def f31r5:Ω:=[σ 15 (.mv (.t 5)),σ 16 (.mv (.t 7)),σ 17 (.mv (.t 1)),σ 18 (.call 30 [(.t 16),(.t 17)]),σ 19 (.bin .add (.t 15) (.t 18)),σ 5 (.mv (.t 19))]
@[simp] def f31r6:Ω:=[σ 20 (.bin .add (.t 11) (κ 1)),σ 11 (.mv (.t 20))]
def f31B0:RC:=(.seq (.region f31r3 [1,5,9,10,11,12]) (.seq (.cond (.t 12) .skip (.exit 0)) (.seq (.block 1 (.seq (.region f31r4 [1,5,7,9,10,11]) (.region f31r5 [1,5,9,10,11]))) (.region f31r6 [1,5,9,10,11]))))
def f31L0:RC:=.loop [1,5,9,10,11] f31B0
@[simp] def f31r7:Ω:=[σ 21 (.mv (.t 5)),σ 4 (.mv (.t 21))]
def f31:RFunc:=⟨[.t 4],(.seq (.region f31r0 [0,1]) (.seq (.region f31r1 [0,1,5]) (.seq (.seq (.region f31r2 [1,5,9,10,11]) (.block 0 f31L0)) (.seq (.region f31r7 [4]) .ret)))),true⟩
@[simp] def f32r0:Ω:=[σ 6 (.mv (κ 0))]
@[simp] def f32r1:Ω:=[σ 7 (.mv (κ 0))]
@[simp] def f32r2:Ω:=[σ 8 (.mv (.t 0)),σ 9 (.mv (.t 1)),σ 10 (.call 57 [(.c (.str [65,84,32,65,86,32,65,87,32,65,89,32,84,65,32,86,65,32,87,65,32,89,65,32,76,84,32,76,86,32,76,89,32,80,65,32,84,111,32,84,97,32,84,101,32,86,111,32,86,97,32,89,111,32,89,97,32])),(.t 8),(.t 9)])]
@[simp] def f32r3:Ω:=[σ 7 (.mv (κ 2))]
@[simp] def f32r4:Ω:=[σ 11 (.mv (.t 0)),σ 12 (.mv (.t 1)),σ 13 (.call 57 [(.c (.str [114,46,32,114,44,32,102,46,32,102,44,32,118,46,32,121,46,32,65,118,32,65,121,32,111,118,32,118,111,32])),(.t 11),(.t 12)])]
@[simp] def f32r5:Ω:=[σ 7 (.mv (κ 1))]
@[simp] def f32r6:Ω:=[σ 14 (.mv (.t 7)),σ 15 (.mv (.t 2)),σ 16 (.bin .mul (.t 14) (.t 15)),σ 17 (.bin .quo (.t 16) (κ 16)),σ 18 (.un .neg (.t 17)),σ 6 (.mv (.t 18))]
def f32:RFunc:=⟨[.t 6],(.seq (.region f32r0 [0,1,2]) (.seq (.region f32r1 [0,1,2,7]) (.seq (.seq (.region f32r2 [0,1,2,7,10]) (.cond (.t 10) (.region f32r3 [0,1,2,7]) .skip)) (.seq (.seq (.region f32r4 [2,7,13]) (.cond (.t 13) (.region f32r5 [2,7]) .skip)) (.seq (.region f32r6 [6]) .ret))))),true⟩
@[simp] def f40r0:Ω:=[σ 4 (.mv (κ 0))]
@[simp] def f40r1:Ω:=[σ 5 (.mv (.t 0)),σ 6 (.mv (.t 1)),σ 7 (.call 61 [(.t 5),(.t 6)]),σ 4 (.mv (.t 7))]
def f40:RFunc:=⟨[.t 4],(.seq (.region f40r0 [0,1]) (.seq (.region f40r1 [4]) .ret)),true⟩
@[simp] def f41r0:Ω:=[σ 4 (.mv (.c (.bool false)))]
@[simp] def f41r1:Ω:=[σ 7 (.mv (.t 0)),σ 8 (.len .slice (.t 7)),σ 9 (.mv (κ 0))]
@[simp] def f41r2:Ω:=[σ 10 (.bin .lss (.t 9) (.t 8))]
@[simp] def f41r3:Ω:=[σ 11 (.iaddr 4 (.t 7) (.t 9)),σ 12 (.load 4 true (.t 11)),σ 6 (.alloc [(.int .i64 (.ofNat 0)),(.int .i64 (.ofNat 0)),(.int .i64 (.ofNat 0)),(.int .i64 (.ofNat 0))]),⟨none,.store 4 (.t 6) (.t 12),none⟩]
@[simp] def f41r4:Ω:=[σ 13 (.faddr 0 (.t 6)),σ 14 (.load 1 false (.t 13)),σ 15 (.bin .lss (.t 14) (κ 1)),σ 16 (.mv (.t 15)),τ 17 (.faddr 0 (.t 6)) 16 false,τ 18 (.load 1 false (.t 17)) 16 false,τ 19 (.mv (.t 1)) 16 false,τ 20 (.bin .gtr (.t 18) (.t 19)) 16 false,σ 21 (.pick (.t 16) (.c (.bool true)) (.t 20)),σ 22 (.mv (.t 21)),τ 23 (.faddr 1 (.t 6)) 22 false,τ 24 (.load 3 true (.t 23)) 22 false,τ 25 (.call 62 [(.t 24)]) 22 false,τ 26 (.un .not (.t 25)) 22 false,σ 27 (.pick (.t 22) (.c (.bool true)) (.t 26))]
@[simp] def f41r5:Ω:=[σ 4 (.mv (.c (.bool false)))]
@[simp] def f41r6:Ω:=[σ 28 (.mv (.t 1)),σ 29 (.faddr 0 (.t 6)),σ 30 (.load 1 false (.t 29)),σ 31 (.bin .sub (.t 28) (.t 30)),σ 1 (.mv (.t 31))]
@[simp] def f41r7:Ω:=[σ 32 (.bin .add (.t 9) (κ 1)),σ 9 (.mv (.t 32))]
def f41B0:RC:=(.seq (.region f41r2 [1,7,8,9,10]) (.seq (.cond (.t 10) .skip (.exit 0)) (.seq (.block 1 (.seq (.region f41r3 [1,6,7,8,9]) (.seq (.seq (.region f41r4 [1,6,7,8,9,27]) (.cond (.t 27) (.seq (.region f41r5 [4]) .ret) .skip)) (.region f41r6 [1,7,8,9])))) (.region f41r7 [1,7,8,9]))))
def f41L0:RC:=.loop [1,7,8,9] f41B0
@[simp] def f41r8:Ω:=[σ 33 (.mv (.t 1)),σ 34 (.bin .eql (.t 33) (κ 0)),σ 4 (.mv (.t 34))]
def f41:RFunc:=⟨[.t 4],(.seq (.region f41r0 [0,1]) (.seq (.seq (.region f41r1 [1,7,8,9]) (.block 0 f41L0)) (.seq (.region f41r8 [4]) .ret))),true⟩
@[simp] def f42r0:Ω:=[σ 1 (.box 17 (.t 0)),σ 2 (.mv (.c (.bool false)))]
@[simp] def f42r1:Ω:=[σ 5 (.faddr 0 (.t 1)),σ 6 (.load 1 false (.t 5)),σ 7 (.build [(.int .i64 (.ofNat 0)),(.int .i64 (.ofNat 0)),(.int .i64 (.ofNat 0))] [(0,1,(.t 6)),(1,1,(κ 1)),(2,1,(κ 64))]),σ 8 (.faddr 1 (.t 1)),σ 9 (.load 1 false (.t 8)),σ 10 (.build [(.int .i64 (.ofNat 0)),(.int .i64 (.ofNat 0)),(.int .i64 (.ofNat 0))] [(0,1,(.t 9)),(1,1,(κ 1)),(2,1,(κ 255))]),σ 11 (.faddr 2 (.t 1)),σ 12 (.load 1 false (.t 11)),σ 13 (.build [(.int .i64 (.ofNat 0)),(.int .i64 (.ofNat 0)),(.int .i64 (.ofNat 0))] [(0,1,(.t 12)),(1,1,(κ 0)),(2,1,(κ 3))]),σ 14 (.faddr 3 (.t 1)),σ 15 (.load 1 false (.t 14)),σ 16 (.build [(.int .i64 (.ofNat 0)),(.int .i64 (.ofNat 0)),(.int .i64 (.ofNat 0))] [(0,1,(.t 15)),(1,1,(κ 0)),(2,1,(κ 255))]),σ 17 (.faddr 4 (.t 1)),σ 18 (.load 1 false (.t 17)),σ 19 (.build [(.int .i64 (.ofNat 0)),(.int .i64 (.ofNat 0)),(.int .i64 (.ofNat 0))] [(0,1,(.t 18)),(1,1,(κ 0)),(2,1,(κ 255))]),σ 20 (.faddr 5 (.t 1)),σ 21 (.load 1 false (.t 20)),σ 22 (.build [(.int .i64 (.ofNat 0)),(.int .i64 (.ofNat 0)),(.int .i64 (.ofNat 0))] [(0,1,(.t 21)),(1,1,(κ 0)),(2,1,(κ 255))]),σ 23 (.faddr 6 (.t 1)),σ 24 (.load 1 false (.t 23)),σ 25 (.build [(.int .i64 (.ofNat 0)),(.int .i64 (.ofNat 0)),(.int .i64 (.ofNat 0))] [(0,1,(.t 24)),(1,1,(κ 0)),(2,1,(κ 255))]),σ 26 (.faddr 7 (.t 1)),σ 27 (.load 1 false (.t 26)),σ 28 (.build [(.int .i64 (.ofNat 0)),(.int .i64 (.ofNat 0)),(.int .i64 (.ofNat 0))] [(0,1,(.t 27)),(1,1,(κ 0)),(2,1,(κ 255))]),σ 29 (.faddr 8 (.t 1)),σ 30 (.load 1 false (.t 29)),σ 31 (.build [(.int .i64 (.ofNat 0)),(.int .i64 (.ofNat 0)),(.int .i64 (.ofNat 0))] [(0,1,(.t 30)),(1,1,(κ 0)),(2,1,(κ 1))]),σ 32 (.faddr 9 (.t 1)),σ 33 (.load 1 false (.t 32)),σ 34 (.build [(.int .i64 (.ofNat 0)),(.int .i64 (.ofNat 0)),(.int .i64 (.ofNat 0))] [(0,1,(.t 33)),(1,1,(κ 0)),(2,1,(κ 1))]),σ 35 (.faddr 10 (.t 1)),σ 36 (.load 1 false (.t 35)),σ 37 (.build [(.int .i64 (.ofNat 0)),(.int .i64 (.ofNat 0)),(.int .i64 (.ofNat 0))] [(0,1,(.t 36)),(1,1,(κ 1)),(2,1,(κ 4))]),σ 38 (.faddr 11 (.t 1)),σ 39 (.load 1 false (.t 38)),σ 40 (.build [(.int .i64 (.ofNat 0)),(.int .i64 (.ofNat 0)),(.int .i64 (.ofNat 0))] [(0,1,(.t 39)),(1,1,(κ 1)),(2,1,(κ 4))]),σ 41 (.faddr 12 (.t 1)),σ 42 (.load 1 false (.t 41)),σ 43 (.build [(.int .i64 (.ofNat 0)),(.int .i64 (.ofNat 0)),(.int .i64 (.ofNat 0))] [(0,1,(.t 42)),(1,1,(κ 0)),(2,1,(κ 1))]),σ 44 (.faddr 13 (.t 1)),σ 45 (.load 1 false (.t 44)),σ 46 (.build [(.int .i64 (.ofNat 0)),(.int .i64 (.ofNat 0)),(.int .i64 (.ofNat 0))] [(0,1,(.t 45)),(1,1,(κ 0)),(2,1,(κ 1))]),σ 47 (.faddr 14 (.t 1)),σ 48 (.load 1 false (.t 47)),σ 49 (.build [(.int .i64 (.ofNat 0)),(.int .i64 (.ofNat 0)),(.int .i64 (.ofNat 0))] [(0,1,(.t 48)),(1,1,(κ 0)),(2,1,(κ 4))]),σ 50 (.faddr 15 (.t 1)),σ 51 (.load 1 false (.t 50)),σ 52 (.build [(.int .i64 (.ofNat 0)),(.int .i64 (.ofNat 0)),(.int .i64 (.ofNat 0))] [(0,1,(.t 51)),(1,1,(κ 0)),(2,1,(κ 8))]),σ 53 (.faddr 16 (.t 1)),σ 54 (.load 1 false (.t 53)),σ 55 (.build [(.int .i64 (.ofNat 0)),(.int .i64 (.ofNat 0)),(.int .i64 (.ofNat 0))] [(0,1,(.t 54)),(1,1,(κ 0)),(2,1,(κ 3))]),σ 56 (.build [(.int .i64 (.ofNat 0)),(.int .i64 (.ofNat 0)),(.int .i64 (.ofNat 0)),(.int .i64 (.ofNat 0)),(.int .i64 (.ofNat 0)),(.int .i64 (.ofNat 0)),(.int .i64 (.ofNat 0)),(.int .i64 (.ofNat 0)),(.int .i64 (.ofNat 0)),(.int .i64 (.ofNat 0)),(.int .i64 (.ofNat 0)),(.int .i64 (.ofNat 0)),(.int .i64 (.ofNat 0)),(.int .i64 (.ofNat 0)),(.int .i64 (.ofNat 0)),(.int .i64 (.ofNat 0)),(.int .i64 (.ofNat 0)),(.int .i64 (.ofNat 0)),(.int .i64 (.ofNat 0)),(.int .i64 (.ofNat 0)),(.int .i64 (.ofNat 0)),(.int .i64 (.ofNat 0)),(.int .i64 (.ofNat 0)),(.int .i64 (.ofNat 0)),(.int .i64 (.ofNat 0)),(.int .i64 (.ofNat 0)),(.int .i64 (.ofNat 0)),(.int .i64 (.ofNat 0)),(.int .i64 (.ofNat 0)),(.int .i64 (.ofNat 0)),(.int .i64 (.ofNat 0)),(.int .i64 (.ofNat 0)),(.int .i64 (.ofNat 0)),(.int .i64 (.ofNat 0)),(.int .i64 (.ofNat 0)),(.int .i64 (.ofNat 0)),(.int .i64 (.ofNat 0)),(.int .i64 (.ofNat 0)),(.int .i64 (.ofNat 0)),(.int .i64 (.ofNat 0)),(.int .i64 (.ofNat 0)),(.int .i64 (.ofNat 0)),(.int .i64 (.ofNat 0)),(.int .i64 (.ofNat 0)),(.int .i64 (.ofNat 0)),(.int .i64 (.ofNat 0)),(.int .i64 (.ofNat 0)),(.int .i64 (.ofNat 0)),(.int .i64 (.ofNat 0)),(.int .i64 (.ofNat 0)),(.int .i64 (.ofNat 0))] [(0,3,(.t 7)),(3,3,(.t 10)),(6,3,(.t 13)),(9,3,(.t 16)),(12,3,(.t 19)),(15,3,(.t 22)),(18,3,(.t 25)),(21,3,(.t 28)),(24,3,(.t 31)),(27,3,(.t 34)),(30,3,(.t 37)),(33,3,(.t 40)),(36,3,(.t 43)),(39,3,(.t 46)),(42,3,(.t 49)),(45,3,(.t 52)),(48,3,(.t 55))]),σ 57 (.mv (κ 0))]
@[simp] def f42r2:Ω:=[σ 58 (.bin .lss (.t 57) (κ 17))]
@[simp] def f42r3:Ω:=[σ 59 (.indexA 3 true 17 (.t 56) (.t 57)),σ 4 (.alloc [(.int .i64 (.ofNat 0)),(.int .i64 (.ofNat 0)),(.int .i64 (.ofNat 0))]),⟨none,.store 3 (.t 4) (.t 59),none⟩]
@[simp] def f42r4:Ω:=[σ 60 (.faddr 0 (.t 4)),σ 61 (.load 1 false (.t 60)),σ 62 (.faddr 1 (.t 4)),σ 63 (.load 1 false (.t 62)),σ 64 (.bin .lss (.t 61) (.t 63)),σ 65 (.mv (.t 64)),τ 66 (.faddr 0 (.t 4)) 65 false,τ 67 (.load 1 false (.t 66)) 65 false,τ 68 (.faddr 2 (.t 4)) 65 false,τ 69 (.load 1 false (.t 68)) 65 false,τ 70 (.bin .gtr (.t 67) (.t 69)) 65 false,σ 71 (.pick (.t 65) (.c (.bool true)) (.t 70))]
@[simp] def f42r5:Ω:=[σ 2 (.mv (.c (.bool false)))]
@[simp] def f42r6:Ω:=[σ 72 (.bin .add (.t 57) (κ 1)),σ 57 (.mv (.t 72))]
def f42B0:RC:=(.seq (.region f42r2 [56,57,58]) (.seq (.cond (.t 58) .skip (.exit 0)) (.seq (.block 1 (.seq (.region f42r3 [4,56,57]) (.seq (.region f42r4 [56,57,71]) (.cond (.t 71) (.seq (.region f42r5 [2]) .ret) .skip)))) (.region f42r6 [56,57]))))
def f42L0:RC:=.loop [56,57] f42B0
@[simp] def f42r7:Ω:=[σ 2 (.mv (.c (.bool true)))]
def f42:RFunc:=⟨[.t 2],(.seq (.region f42r0 [1]) (.seq (.seq (.region f42r1 [56,57]) (.block 0 f42L0)) (.seq (.region f42r7 [2]) .ret))),true⟩
@[simp] def f43r0:Ω:=[σ 4 (.mv (.c (.bool false)))]
@[simp] def f43r1:Ω:=[σ 7 (.mv (.t 0)),σ 8 (.s2b (.t 7)),σ 9 (.len .slice (.t 8)),σ 10 (.mv (κ 0))]
@[simp] def f43r2:Ω:=[σ 11 (.bin .lss (.t 10) (.t 9))]
@[simp] def f43r3:Ω:=[σ 12 (.iaddr 1 (.t 8) (.t 10)),σ 13 (.load 1 false (.t 12)),σ 6 (.mv (.t 13))]
@[simp] def f43r4:Ω:=[σ 14 (.mv (.t 6)),σ 15 (.bin .leq (.t 14) (.c (.int .u8 (.ofNat 32)))),σ 16 (.mv (.t 15)),τ 17 (.mv (.t 6)) 16 false,τ 18 (.bin .gtr (.t 17) (.c (.int .u8 (.ofNat 126)))) 16 false,σ 19 (.pick (.t 16) (.c (.bool true)) (.t 18))]
@[simp] def f43r5:Ω:=[σ 4 (.mv (.c (.bool false)))]
@[simp] def f43r6:Ω:=[σ 20 (.bin .add (.t 10) (κ 1)),σ 10 (.mv (.t 20))]
def f43B0:RC:=(.seq (.region f43r2 [0,1,8,9,10,11]) (.seq (.cond (.t 11) .skip (.exit 0)) (.seq (.block 1 (.seq (.region f43r3 [0,1,6,8,9,10]) (.seq (.region f43r4 [0,1,8,9,10,19]) (.cond (.t 19) (.seq (.region f43r5 [4]) .ret) .skip)))) (.region f43r6 [0,1,8,9,10]))))
def f43L0:RC:=.loop [0,1,8,9,10] f43B0
@[simp] def f43r7:Ω:=[σ 21 (.mv (.t 0)),σ 22 (.len .str (.t 21)),σ 23 (.mv (.t 1)),σ 24 (.bin .leq (.t 22) (.t 23)),σ 4 (.mv (.t 24))]
def f43:RFunc:=⟨[.t 4],(.seq (.region f43r0 [0,1]) (.seq (.seq (.region f43r1 [0,1,8,9,10]) (.block 0 f43L0)) (.seq (.region f43r7 [4]) .ret))),true⟩
@[simp] def f44r0:Ω:=[σ 4 (.mv (κ 0))]
@[simp] def f44r1:Ω:=[σ 7 (.mv (.t 1)),σ 8 (.len .str (.t 7)),σ 9 (.bin .eql (.t 8) (κ 0))]
@[simp] def f44r2:Ω:=[σ 10 (.mv (.t 0)),σ 11 (.call 63 [(.t 10)]),σ 12 (.bin .add (.t 11) (κ 1)),σ 4 (.mv (.t 12))]
@[simp] def f44r3:Ω:=[σ 13 (.mv (.t 1)),σ 14 (.len .str (.t 13)),σ 15 (.bin .eql (.t 14) (κ 1))]
@[simp] def f44r4:Ω:=[σ 16 (.mv (.t 0)),σ 17 (.mv (.t 1)),σ 18 (.index (.t 17) (κ 0)),σ 19 (.call 64 [(.t 16),(.t 18)]),σ 4 (.mv (.t 19))]
@[simp] def f44r5:Ω:=[σ 5 (.mv (κ 0))]
@[simp] def f44r6:Ω:=[σ 20 (.mv (.t 0)),σ 21 (.mv (.t 1)),σ 22 (.call 65 [(.t 20),(.t 21)]),σ 6 (.mv (.t 22))]
@[simp] def f44r7:Ω:=[σ 23 (.mv (.t 6)),σ 24 (.bin .eql (.t 23) (.c (.int .i64 (.negSucc 0))))]
@[simp] def f44r8:Ω:=[σ 25 (.mv (.t 5)),σ 4 (.mv (.t 25))]
@[simp] def f44r9:Ω:=[σ 26 (.mv (.t 5)),σ 27 (.bin .add (.t 26) (κ 1)),σ 5 (.mv (.t 27))]
@[simp] def f44r10:Ω:=[σ 28 (.mv (.t 0)),σ 29 (.mv (.t 6)),σ 30 (.mv (.t 1)),σ 31 (.len .str (.t 30)),σ 32 (.bin .add (.t 29) (.t 31)),σ 33 (.slice true 1 (.t 28) (some (.t 32)) none none),σ 0 (.mv (.t 33))]
def f44B0:RC:=(.block 1 (.seq (.region f44r6 [0,1,5,6]) (.seq (.seq (.region f44r7 [0,1,5,6,24]) (.cond (.t 24) (.seq (.region f44r8 [4]) .ret) .skip)) (.seq (.region f44r9 [0,1,5,6]) (.region f44r10 [0,1,5])))))
def f44L0:RC:=.loop [0,1,5] f44B0
def f44:RFunc:=⟨[.t 4],(.seq (.region f44r0 [0,1]) (.seq (.seq (.region f44r1 [0,1,9]) (.cond (.t 9) (.seq (.region f44r2 [4]) .ret) .skip)) (.seq (.seq (.region f44r3 [0,1,15]) (.cond (.t 15) (.seq (.region f44r4 [4]) .ret) .skip)) (.seq (.region f44r5 [0,1,5]) (.block 0 f44L0))))),true⟩
@[simp] def f51r0:Ω:=[σ 2 (.mv (.c (.bool false)))]
@[simp] def f51r1:Ω:=[σ 3 (.mv (.t 0)),σ 4 (.bin .geq (.t 3) (κ 1)),σ 5 (.mv (.t 4)),τ 6 (.mv (.t 0)) 5 true,τ 7 (.bin .leq (.t 6) (κ 64)) 5 true,σ 8 (.pick (.t 5) (.t 7) (.c (.bool false))),σ 2 (.mv (.t 8))]
def f51:RFunc:=⟨[.t 2],(.seq (.region f51r0 [0]) (.seq (.region f51r1 [2]) .ret)),true⟩
@[simp] def f54r0:Ω:=[σ 2 (.mv (κ 0))]
@[simp] def f54r1:Ω:=[σ 5 (.mv (.t 0)),σ 6 (.len .str (.t 5)),σ 7 (.bin .gtr (.t 6) (κ 4096))]
@[simp] def f54r2:Ω:=[σ 2 (.mv (κ 3))]
@[simp] def f54r3:Ω:=[σ 8 (.mv (.t 0)),σ 9 (.s2b (.t 8)),σ 10 (.len .slice (.t 9)),σ 11 (.mv (κ 0))]
@[simp] def f54r4:Ω:=[σ 12 (.bin .lss (.t 11) (.t 10))]
@[simp] def f54r5:Ω:=[σ 13 (.iaddr 1 (.t 9) (.t 11)),σ 14 (.load 1 false (.t 13)),σ 4 (.mv (.t 14))]
@[simp] def f54r6:Ω:=[σ 15 (.mv (.t 4)),σ 16 (.call 68 [(.t 15)]),σ 17 (.bin .eql (.t 16) (κ 0))]
@[simp] def f54r7:Ω:=[σ 2 (.mv (κ 4))]
@[simp] def f54r8:Ω:=[σ 18 (.bin .add (.t 11) (κ 1)),σ 11 (.mv (.t 18))]
def f54B0:RC:=(.seq (.region f54r4 [9,10,11,12]) (.seq (.cond (.t 12) .skip (.exit 0)) (.seq (.block 1 (.seq (.region f54r5 [4,9,10,11]) (.seq (.region f54r6 [9,10,11,17]) (.cond (.t 17) (.seq (.region f54r7 [2]) .ret) .skip)))) (.region f54r8 [9,10,11]))))
def f54L0:RC:=.loop [9,10,11] f54B0
@[simp] def f54r9:Ω:=[σ 2 (.mv (κ 0))]
def f54:RFunc:=⟨[.t 2],(.seq (.region f54r0 [0]) (.seq (.seq (.region f54r1 [0,7]) (.cond (.t 7) (.seq (.region f54r2 [2]) .ret) .skip)) (.seq (.seq (.region f54r3 [9,10,11]) (.block 0 f54L0)) (.seq (.region f54r9 [2]) .ret)))),true⟩
@[simp] def f55r0:Ω:=[σ 1 (.box 1 (.t 0)),σ 2 (.mv (.c .nilfn))]
@[simp] def f55r1:Ω:=[σ 3 (.mkfn 69 [] [(.t 1)]),σ 2 (.mv (.t 3))]
def f55:RFunc:=⟨[.t 2],(.seq (.region f55r0 [1]) (.seq (.region f55r1 [2]) .ret)),false⟩
@[simp] def f56r0:Ω:=[σ 4 (.alloc [(.int .i64 (.ofNat 0)),(.int .i64 (.ofNat 0)),(.int .i64 (.ofNat 0))])]
@[simp] def f56r1:Ω:=[σ 5 (.load 1 false (.t 1)),σ 6 (.len .slice (.t 5)),σ 7 (.bin .gtr (.t 6) (κ 1)),σ 8 (.mv (.t 7)),τ 9 (.mv (.t 0)) 8 true,τ 10 (.load 1 false (.t 2)) 8 true,τ 11 (.bin .geq (.t 9) (.t 10)) 8 true,σ 12 (.pick (.t 8) (.t 11) (.c (.bool false)))]
@[simp] def f56r2:Ω:=[σ 13 (.load 1 false (.t 1)),σ 14 (.slice false 4 (.t 13) (some (κ 1)) none none),⟨none,.store 1 (.t 1) (.t 14),none⟩]
@[simp] def f56r3:Ω:=[σ 15 (.load 1 false (.t 2)),σ 16 (.load 1 false (.t 1)),σ 17 (.iaddr 4 (.t 16) (κ 0)),σ 18 (.faddr 0 (.t 17)),σ 19 (.load 1 false (.t 18)),σ 20 (.bin .add (.t 15) (.t 19)),⟨none,.store 1 (.t 2) (.t 20),none⟩]
def f56B0:RC:=(.seq (.seq (.region f56r1 [0,1,2,4,12]) (.cond (.t 12) .skip (.exit 0))) (.block 1 (.seq (.region f56r2 [0,1,2,4]) (.dregion f56r3 [] [] [0,1,2,4]))))
def f56L0:RC:=.loop [0,1,2,4] f56B0
@[simp] def f56r4:Ω:=[σ 21 (.load 1 false (.t 1)),σ 22 (.iaddr 4 (.t 21) (κ 0)),σ 23 (.faddr 1 (.t 22)),σ 24 (.load 3 true (.t 23)),⟨none,.store 3 (.t 4) (.t 24),none⟩]
def f56:RFunc:=⟨[.cell 4 3 true],(.seq (.region f56r0 [0,1,2,4]) (.seq (.block 0 f56L0) (.seq (.region f56r4 [4]) .ret))),false⟩
@[simp] def f57r0:Ω:=[σ 6 (.mv (.c (.bool false)))]
@[simp] def f57r1:Ω:=[σ 7 (.mv (κ 0))]
@[simp] def f57r2:Ω:=[σ 8 (.mv (.t 7)),σ 9 (.bin .add (.t 8) (κ 1)),σ 10 (.mv (.t 0)),σ 11 (.len .str (.t 10)),σ 12 (.bin .lss (.t 9) (.t 11))]
@[simp] def f57r3:Ω:=[σ 15 (.mv (.t 0)),σ 16 (.mv (.t 7)),σ 17 (.index (.t 15) (.t 16)),σ 18 (.mv (.t 1)),σ 19 (.bin .eql (.t 17) (.t 18)),σ 20 (.mv (.t 19)),τ 21 (.mv (.t 0)) 20 true,τ 22 (.mv (.t 7)) 20 true,τ 23 (.bin .add (.t 22) (κ 1)) 20 true,τ 24 (.index (.t 21) (.t 23)) 20 true,τ 25 (.mv (.t 2)) 20 true,τ 26 (.bin .eql (.t 24) (.t 25)) 20 true,σ 27 (.pick (.t 20) (.t 26) (.c (.bool false)))]
@[simp] def f57r4:Ω:=[σ 6 (.mv (.c (.bool true)))]
@[simp] def f57r5:Ω:=[σ 13 (.mv (.t 7)),σ 14 (.bin .add (.t 13) (κ 3)),σ 7 (.mv (.t 14))]
def f57B0:RC:=(.seq (.seq (.region f57r2 [0,1,2,7,12]) (.cond (.t 12) .skip (.exit 0))) (.seq (.block 1 (.seq (.region f57r3 [0,1,2,7,27]) (.cond (.t 27) (.seq (.region f57r4 [6]) .ret) .skip))) (.region f57r5 [0,1,2,7])))
def f57L0:RC:=.loop [0,1,2,7] f57B0
@[simp] def f57r6:Ω:=[σ 6 (.mv (.c (.bool false)))]
def f57:RFunc:=⟨[.t 6],(.seq (.region f57r0 [0,1,2]) (.seq (.seq (.region f57r1 [0,1,2,7]) (.block 0 f57L0)) (.seq (.region f57r6 [6]) .ret))),true⟩
@[simp] def f61r0:Ω:=[σ 4 (.mv (κ 0))]
@[simp] def f61r1:Ω:=[σ 5 (.mv (.t 0)),σ 6 (.mv (.t 1)),σ 7 (.call 72 [(.t 5),(.t 6)]),σ 4 (.mv (.t 7))]
def f61:RFunc:=⟨[.t 4],(.seq (.region f61r0 [0,1]) (.seq (.region f61r1 [4]) .ret)),true⟩
@[simp] def f62r0:Ω:=[σ 1 (.box 3 (.t 0)),σ 2 (.mv (.c (.bool false)))]
@[simp] def f62r1:Ω:=[σ 3 (.faddr 0 (.t 1)),σ 4 (.load 1 false (.t 3)),σ 5 (.bin .geq (.t 4) (κ 0)),σ 6 (.mv (.t 5)),τ 7 (.faddr 0 (.t 1)) 6 true,τ 8 (.load 1 false (.t 7)) 6 true,τ 9 (.bin .leq (.t 8) (κ 64)) 6 true,σ 10 (.pick (.t 6) (.t 9) (.c (.bool false))),σ 11 (.mv (.t 10)),τ 12 (.faddr 1 (.t 1)) 11 true,τ 13 (.load 1 false (.t 12)) 11 true,τ 14 (.bin .geq (.t 13) (κ 0)) 11 true,σ 15 (.pick (.t 11) (.t 14) (.c (.bool false))),σ 16 (.mv (.t 15)),τ 17 (.faddr 1 (.t 1)) 16 true,τ 18 (.load 1 false (.t 17)) 16 true,τ 19 (.bin .leq (.t 18) (κ 15)) 16 true,σ 20 (.pick (.t 16) (.t 19) (.c (.bool false))),σ 21 (.mv (.t 20)),τ 22 (.faddr 2 (.t 1)) 21 true,τ 23 (.load 1 false (.t 22)) 21 true,τ 24 (.bin .eql (.t 23) (κ 0)) 21 true,τ 25 (.mv (.t 24)) 21 true,τ 26 (.faddr 2 (.t 1)) 25 false,τ 27 (.load 1 false (.t 26)) 25 false,τ 28 (.bin .eql (.t 27) (κ 1)) 25 false,τ 29 (.pick (.t 25) (.c (.bool true)) (.t 28)) 21 true,σ 30 (.pick (.t 21) (.t 29) (.c (.bool false))),σ 2 (.mv (.t 30))]
def f62:RFunc:=⟨[.t 2],(.seq (.region f62r0 [1]) (.seq (.region f62r1 [2]) .ret)),true⟩
@[simp] def f63r0:Ω:=[σ 2 (.mv (κ 0))]
@[simp] def f63r1:Ω:=[σ 3 (.mv (.t 0)),σ 4 .fail]
@[simp] def f63r2:Ω:=[σ 5 .fail,σ 6 (.extract (.t 5) 0)]
@[simp] def f63r3:Ω:=[σ 7 (.mv (.t 2)),σ 8 (.bin .add (.t 7) (κ 1)),σ 2 (.mv (.t 8))]
def f63B0:RC:=(.seq (.region f63r2 [2,6]) (.seq (.cond (.t 6) .skip (.exit 0)) (.block 1 (.region f63r3 [2]))))
def f63L0:RC:=.loop [2] f63B0
@[simp] def f63r4:Ω:=[σ 9 (.mv (.t 2)),σ 2 (.mv (.t 9))]
def f63:RFunc:=⟨[.t 2],(.seq (.region f63r0 [0,2]) (.seq (.seq (.region f63r1 [2]) (.block 0 f63L0)) (.seq (.region f63r4 [2]) .ret))),true⟩
@[simp] def f65r0:Ω:=[σ 4 (.mv (κ 0))]
@[simp] def f65r1:Ω:=[σ 5 (.mv (.t 0)),σ 6 (.mv (.t 1)),σ 7 (.call 73 [(.t 5),(.t 6)]),σ 4 (.mv (.t 7))]
def f65:RFunc:=⟨[.t 4],(.seq (.region f65r0 [0,1]) (.seq (.region f65r1 [4]) .ret)),true⟩
@[simp] def f68r0:Ω:=[σ 2 (.mv (κ 0))]
@[simp] def f68r1:Ω:=[σ 4 (.mv (.t 0)),σ 5 (.call 74 [(.t 4)]),σ 3 (.mv (.t 5))]
@[simp] def f68r2:Ω:=[σ 2 (.mv (κ 1))]
@[simp] def f68r3:Ω:=[σ 7 (.mv (.t 0)),σ 8 (.bin .eql (.t 7) (.c (.int .u8 (.ofNat 32)))),σ 6 (.mv (.t 8))]
@[simp] def f68r4:Ω:=[σ 2 (.mv (κ 3))]
@[simp] def f68r5:Ω:=[σ 10 (.mv (.t 0)),σ 11 (.bin .eql (.t 10) (.c (.int .u8 (.ofNat 9)))),σ 9 (.mv (.t 11))]
@[simp] def f68r6:Ω:=[σ 2 (.mv (κ 4))]
@[simp] def f68r7:Ω:=[σ 13 (.mv (.t 0)),σ 14 (.bin .eql (.t 13) (.c (.int .u8 (.ofNat 31)))),σ 12 (.mv (.t 14))]
@[simp] def f68r8:Ω:=[σ 2 (.mv (κ 5))]
@[simp] def f68r9:Ω:=[σ 16 (.mv (.t 0)),σ 17 (.bin .eql (.t 16) (.c (.int .u8 (.ofNat 1)))),σ 15 (.mv (.t 17))]
@[simp] def f68r10:Ω:=[σ 2 (.mv (κ 6))]
@[simp] def f68r11:Ω:=[σ 19 (.mv (.t 0)),σ 20 (.bin .eql (.t 19) (.c (.int .u8 (.ofNat 2)))),σ 18 (.mv (.t 20))]
@[simp] def f68r12:Ω:=[σ 2 (.mv (κ 7))]
@[simp] def f68r13:Ω:=[σ 22 (.mv (.t 0)),σ 23 (.bin .eql (.t 22) (.c (.int .u8 (.ofNat 3)))),σ 21 (.mv (.t 23))]
@[simp] def f68r14:Ω:=[σ 2 (.mv (κ 8))]
@[simp] def f68r15:Ω:=[σ 25 (.mv (.t 0)),σ 26 (.bin .gtr (.t 25) (.c (.int .u8 (.ofNat 32)))),σ 27 (.mv (.t 26)),τ 28 (.mv (.t 0)) 27 true,τ 29 (.bin .leq (.t 28) (.c (.int .u8 (.ofNat 126)))) 27 true,σ 30 (.pick (.t 27) (.t 29) (.c (.bool false))),σ 24 (.mv (.t 30))]
@[simp] def f68r16:Ω:=[σ 2 (.mv (κ 2))]
@[simp] def f68r17:Ω:=[σ 2 (.mv (κ 0))]
def f68:RFunc:=⟨[.t 2],(.seq (.region f68r0 [0]) (.seq (.block 0 (.seq (.region f68r1 [0,3]) (.cond (.t 3) (.seq (.region f68r2 [2]) .ret) (.seq (.region f68r3 [0,6]) (.cond (.t 6) (.seq (.region f68r4 [2]) .ret) (.seq (.region f68r5 [0,9]) (.cond (.t 9) (.seq (.region f68r6 [2]) .ret) (.seq (.region f68r7 [0,12]) (.cond (.t 12) (.seq (.region f68r8 [2]) .ret) (.seq (.region f68r9 [0,15]) (.cond (.t 15) (.seq (.region f68r10 [2]) .ret) (.seq (.region f68r11 [0,18]) (.cond (.t 18) (.seq (.region f68r12 [2]) .ret) (.seq (.region f68r13 [0,21]) (.cond (.t 21) (.seq (.region f68r14 [2]) .ret) (.seq (.region f68r15 [24]) (.cond (.t 24) (.seq (.region f68r16 [2]) .ret) .skip))))))))))))))))) (.seq (.region f68r17 [2]) .ret))),true⟩
@[simp] def f69r0:Ω:=[σ 3 (.mv (κ 0))]
@[simp] def f69r1:Ω:=[σ 5 (.mv (.t 3)),σ 6 (.load 1 false (.t 1)),σ 7 (.len .str (.t 6)),σ 8 (.bin .lss (.t 5) (.t 7))]
@[simp] def f69r2:Ω:=[σ 9 (.mv (.t 3)),σ 10 (.mv (.t 3)),σ 11 (.bin .add (.t 10) (κ 1)),σ 12 (.load 1 false (.t 1)),σ 13 (.mv (.t 3)),σ 14 (.index (.t 12) (.t 13)),σ 15 (.call 68 [(.t 14)]),σ 16 (.build [(.int .i64 (.ofNat 0)),(.int .i64 (.ofNat 0)),(.int .i64 (.ofNat 0))] [(0,1,(.t 9)),(1,1,(.t 11)),(2,1,(.t 15))]),σ 4 (.alloc [(.int .i64 (.ofNat 0)),(.int .i64 (.ofNat 0)),(.int .i64 (.ofNat 0))]),⟨none,.store 3 (.t 4) (.t 16),none⟩]
@[simp] def f69r3:Ω:=[σ 17 (.faddr 2 (.t 4)),σ 18 (.load 1 false (.t 17)),σ 19 (.bin .eql (.t 18) (κ 1)),σ 20 (.mv (.t 19)),τ 21 (.faddr 1 (.t 4)) 20 true,τ 22 (.load 1 false (.t 21)) 20 true,τ 23 (.load 1 false (.t 1)) 20 true,τ 24 (.len .str (.t 23)) 20 true,τ 25 (.bin .lss (.t 22) (.t 24)) 20 true,σ 26 (.pick (.t 20) (.t 25) (.c (.bool false))),σ 27 (.mv (.t 26)),τ 28 (.faddr 1 (.t 4)) 27 true,τ 29 (.load 1 false (.t 28)) 27 true,τ 30 (.mv (.t 3)) 27 true,τ 31 (.bin .add (.t 30) (κ 3)) 27 true,τ 32 (.bin .lss (.t 29) (.t 31)) 27 true,σ 33 (.pick (.t 27) (.t 32) (.c (.bool false))),σ 34 (.mv (.t 33)),τ 35 (.load 1 false (.t 1)) 34 true,τ 36 (.faddr 1 (.t 4)) 34 true,τ 37 (.load 1 false (.t 36)) 34 true,τ 38 (.index (.t 35) (.t 37)) 34 true,τ 39 (.call 70 [(.t 38)]) 34 true,σ 40 (.pick (.t 34) (.t 39) (.c (.bool false)))]
@[simp] def f69r4:Ω:=[σ 41 (.faddr 1 (.t 4)),σ 42 (.load 1 false (.t 41)),σ 43 (.bin .add (.t 42) (κ 1)),σ 44 (.faddr 1 (.t 4)),⟨none,.store 1 (.t 44) (.t 43),none⟩]
def f69B0:RC:=(.seq (.seq (.region f69r3 [0,1,3,4,40]) (.cond (.t 40) .skip (.exit 2))) (.block 3 (.region f69r4 [0,1,3,4])))
def f69L0:RC:=.loop [0,1,3,4] f69B0
@[simp] def f69r5:Ω:=[σ 45 (.mv (.t 0)),σ 46 (.load 3 true (.t 4)),σ 47 (.callv (.t 45) [(.t 46)]),σ 48 (.un .not (.t 47))]
@[simp] def f69r6:Ω:=[σ 49 (.faddr 1 (.t 4)),σ 50 (.load 1 false (.t 49)),σ 3 (.mv (.t 50))]
def f69B1:RC:=(.seq (.seq (.region f69r1 [0,1,3,8]) (.cond (.t 8) .skip (.exit 0))) (.block 1 (.seq (.region f69r2 [0,1,3,4]) (.seq (.block 2 f69L0) (.seq (.seq (.region f69r5 [0,1,4,48]) (.cond (.t 48) .ret .skip)) (.region f69r6 [0,1,3]))))))
def f69L1:RC:=.loop [0,1,3] f69B1
def f69:RFunc:=⟨[],(.seq (.region f69r0 [0,1,3]) (.block 0 f69L1)),false⟩
@[simp] def f70r0:Ω:=[σ 2 (.mv (.c (.bool false)))]
@[simp] def f70r1:Ω:=[σ 3 (.mv (.t 0)),σ 4 (.bin .eql (.t 3) (.c (.int .u8 (.ofNat 94)))),σ 5 (.mv (.t 4)),τ 6 (.mv (.t 0)) 5 false,τ 7 (.bin .eql (.t 6) (.c (.int .u8 (.ofNat 96)))) 5 false,σ 8 (.pick (.t 5) (.c (.bool true)) (.t 7)),σ 9 (.mv (.t 8)),τ 10 (.mv (.t 0)) 9 false,τ 11 (.bin .eql (.t 10) (.c (.int .u8 (.ofNat 126)))) 9 false,σ 12 (.pick (.t 9) (.c (.bool true)) (.t 11)),σ 2 (.mv (.t 12))]
def f70:RFunc:=⟨[.t 2],(.seq (.region f70r0 [0]) (.seq (.region f70r1 [2]) .ret)),true⟩
@[simp] def f73r0:Ω:=[σ 4 (.mv (κ 0))]
@[simp] def f73r1:Ω:=[σ 14 (.mv (.t 1)),σ 15 (.len .str (.t 14)),σ 5 (.mv (.t 15))]
@[simp] def f73r2:Ω:=[σ 17 (.mv (.t 5)),σ 18 (.bin .eql (.t 17) (κ 0)),σ 19 (.mv (.t 18)),τ 20 (.mv (.t 1)) 19 false,τ 21 (.mv (.t 0)) 19 false,τ 22 (.bin .eql (.t 20) (.t 21)) 19 false,σ 23 (.pick (.t 19) (.c (.bool true)) (.t 22)),σ 16 (.mv (.t 23))]
@[simp] def f73r3:Ω:=[σ 4 (.mv (κ 0))]
@[simp] def f73r4:Ω:=[σ 25 (.mv (.t 5)),σ 26 (.bin .eql (.t 25) (κ 1)),σ 24 (.mv (.t 26))]
@[simp] def f73r5:Ω:=[σ 27 (.mv (.t 0)),σ 28 (.mv (.t 1)),σ 29 (.index (.t 28) (κ 0)),σ 30 (.call 61 [(.t 27),(.t 29)]),σ 4 (.mv (.t 30))]
@[simp] def f73r6:Ω:=[σ 32 (.mv (.t 5)),σ 33 (.mv (.t 0)),σ 34 (.len .str (.t 33)),σ 35 (.bin .geq (.t 32) (.t 34)),σ 31 (.mv (.t 35))]
@[simp] def f73r7:Ω:=[σ 4 (.mv (.c (.int .i64 (.negSucc 0))))]
@[simp] def f73r8:Ω:=[σ 37 (.mv (.t 5)),σ 38 .fail,σ 39 (.bin .leq (.t 37) (.t 38)),σ 40 (.mv (.t 39)),τ 41 (.mv (.t 0)) 40 true,τ 42 (.len .str (.t 41)) 40 true,τ 43 (.bin .leq (.t 42) (κ 64)) 40 true,σ 44 (.pick (.t 40) (.t 43) (.c (.bool false))),σ 36 (.mv (.t 44))]
@[simp] def f73r9:Ω:=[σ 45 (.mv (.t 0)),σ 46 (.mv (.t 1)),σ 47 (.call 75 [(.t 45),(.t 46)]),σ 4 (.mv (.t 47))]
@[simp] def f73r10:Ω:=[σ 48 (.mv (.t 1)),σ 49 (.index (.t 48) (κ 0)),σ 6 (.mv (.t 49))]
@[simp] def f73r11:Ω:=[σ 50 (.mv (.t 1)),σ 51 (.index (.t 50) (κ 1)),σ 7 (.mv (.t 51))]
@[simp] def f73r12:Ω:=[σ 8 (.mv (κ 0))]
@[simp] def f73r13:Ω:=[σ 52 (.mv (.t 0)),σ 53 (.len .str (.t 52)),σ 54 (.mv (.t 5)),σ 55 (.bin .sub (.t 53) (.t 54)),σ 56 (.bin .add (.t 55) (κ 1)),σ 9 (.mv (.t 56))]
@[simp] def f73r14:Ω:=[σ 10 (.mv (κ 0))]
@[simp] def f73r15:Ω:=[σ 57 (.mv (.t 8)),σ 58 (.mv (.t 9)),σ 59 (.bin .lss (.t 57) (.t 58))]
@[simp] def f73r16:Ω:=[σ 60 (.mv (.t 0)),σ 61 (.mv (.t 8)),σ 62 (.index (.t 60) (.t 61)),σ 63 (.mv (.t 6)),σ 64 (.bin .neq (.t 62) (.t 63))]
@[simp] def f73r17:Ω:=[σ 65 (.mv (.t 0)),σ 66 (.mv (.t 8)),σ 67 (.bin .add (.t 66) (κ 1)),σ 68 (.mv (.t 9)),σ 69 (.slice true 1 (.t 65) (some (.t 67)) (some (.t 68)) none),σ 70 (.mv (.t 6)),σ 71 (.call 61 [(.t 69),(.t 70)]),σ 11 (.mv (.t 71))]
@[simp] def f73r18:Ω:=[σ 72 (.mv (.t 11)),σ 73 (.bin .lss (.t 72) (κ 0))]
@[simp] def f73r19:Ω:=[σ 4 (.mv (.c (.int .i64 (.negSucc 0))))]
@[simp] def f73r20:Ω:=[σ 74 (.mv (.t 8)),σ 75 (.mv (.t 11)),σ 76 (.bin .add (.t 75) (κ 1)),σ 77 (.bin .add (.t 74) (.t 76)),σ 8 (.mv (.t 77))]
@[simp] def f73r21:Ω:=[σ 78 (.mv (.t 0)),σ 79 (.mv (.t 8)),σ 80 (.bin .add (.t 79) (κ 1)),σ 81 (.index (.t 78) (.t 80)),σ 82 (.mv (.t 7)),σ 83 (.bin .eql (.t 81) (.t 82)),σ 84 (.mv (.t 83)),τ 85 (.mv (.t 0)) 84 true,τ 86 (.mv (.t 8)) 84 true,τ 87 (.mv (.t 8)) 84 true,τ 88 (.mv (.t 5)) 84 true,τ 89 (.bin .add (.t 87) (.t 88)) 84 true,τ 90 (.slice true 1 (.t 85) (some (.t 86)) (some (.t 89)) none) 84 true,τ 91 (.mv (.t 1)) 84 true,τ 92 (.bin .eql (.t 90) (.t 91)) 84 true,σ 93 (.pick (.t 84) (.t 92) (.c (.bool false)))]
@[simp] def f73r22:Ω:=[σ 94 (.mv (.t 8)),σ 4 (.mv (.t 94))]
@[simp] def f73r23:Ω:=[σ 95 (.mv (.t 8)),σ 96 (.bin .add (.t 95) (κ 1)),σ 8 (.mv (.t 96))]
@[simp] def f73r24:Ω:=[σ 97 (.mv (.t 10)),σ 98 (.bin .add (.t 97) (κ 1)),σ 10 (.mv (.t 98))]
@[simp] def f73r25:Ω:=[σ 99 (.mv (.t 5)),σ 100 .fail,σ 101 (.bin .leq (.t 99) (.t 100)),σ 102 (.mv (.t 101)),τ 103 (.mv (.t 10)) 102 true,τ 104 (.mv (.t 8)) 102 true,τ 105 (.call 76 [(.t 104)]) 102 true,τ 106 (.bin .gtr (.t 103) (.t 105)) 102 true,σ 107 (.pick (.t 102) (.t 106) (.c (.bool false)))]
@[simp] def f73r26:Ω:=[σ 108 (.mv (.t 0)),σ 109 (.mv (.t 8)),σ 110 (.slice true 1 (.t 108) (some (.t 109)) none none),σ 111 (.mv (.t 1)),σ 112 (.call 75 [(.t 110),(.t 111)]),σ 12 (.mv (.t 112))]
@[simp] def f73r27:Ω:=[σ 113 (.mv (.t 12)),σ 114 (.bin .geq (.t 113) (κ 0))]
@[simp] def f73r28:Ω:=[σ 115 (.mv (.t 12)),σ 116 (.mv (.t 8)),σ 117 (.bin .add (.t 115) (.t 116)),σ 4 (.mv (.t 117))]
@[simp] def f73r29:Ω:=[σ 4 (.mv (.c (.int .i64 (.negSucc 0))))]
@[simp] def f73r30:Ω:=[σ 118 (.mv (.t 5)),σ 119 .fail,σ 120 (.bin .gtr (.t 118) (.t 119)),σ 121 (.mv (.t 120)),τ 122 (.mv (.t 10)) 121 true,τ 123 (.mv (.t 8)) 121 true,τ 124 (.bin .shr (.t 123) (.c (.int .u64 (.ofNat 4)))) 121 true,τ 125 (.bin .add (κ 4) (.t 124)) 121 true,τ 126 (.bin .geq (.t 122) (.t 125)) 121 true,σ 127 (.pick (.t 121) (.t 126) (.c (.bool false))),σ 128 (.mv (.t 127)),τ 129 (.mv (.t 8)) 128 true,τ 130 (.mv (.t 9)) 128 true,τ 131 (.bin .lss (.t 129) (.t 130)) 128 true,σ 132 (.pick (.t 128) (.t 131) (.c (.bool false)))]
@[simp] def f73r31:Ω:=[σ 133 (.mv (.t 0)),σ 134 (.mv (.t 8)),σ 135 (.slice true 1 (.t 133) (some (.t 134)) none none),σ 136 (.mv (.t 1)),σ 137 (.call 77 [(.t 135),(.t 136)]),σ 13 (.mv (.t 137))]
@[simp] def f73r32:Ω:=[σ 138 (.mv (.t 13)),σ 139 (.bin .lss (.t 138) (κ 0))]
@[simp] def f73r33:Ω:=[σ 4 (.mv (.c (.int .i64 (.negSucc 0))))]
@[simp] def f73r34:Ω:=[σ 140 (.mv (.t 8)),σ 141 (.mv (.t 13)),σ 142 (.bin .add (.t 140) (.t 141)),σ 4 (.mv (.t 142))]
def f73B0:RC:=(.seq (.seq (.region f73r15 [0,1,5,6,7,8,9,10,59]) (.cond (.t 59) .skip (.exit 1))) (.block 2 (.seq (.seq (.region f73r16 [0,1,5,6,7,8,9,10,64]) (.cond (.t 64) (.seq (.region f73r17 [0,1,5,6,7,8,9,10,11]) (.seq (.seq (.region f73r18 [0,1,5,6,7,8,9,10,11,73]) (.cond (.t 73) (.seq (.region f73r19 [4]) .ret) .skip)) (.region f73r20 [0,1,5,6,7,8,9,10]))) .skip)) (.seq (.seq (.region f73r21 [0,1,5,6,7,8,9,10,93]) (.cond (.t 93) (.seq (.region f73r22 [4]) .ret) .skip)) (.seq (.region f73r23 [0,1,5,6,7,8,9,10]) (.seq (.region f73r24 [0,1,5,6,7,8,9,10]) (.seq (.region f73r25 [0,1,5,6,7,8,9,10,107]) (.cond (.t 107) (.seq (.region f73r26 [8,12]) (.seq (.seq (.region f73r27 [8,12,114]) (.cond (.t 114) (.seq (.region f73r28 [4]) .ret) .skip)) (.seq (.region f73r29 [4]) .ret))) (.seq (.region f73r30 [0,1,5,6,7,8,9,10,132]) (.cond (.t 132) (.seq (.region f73r31 [8,13]) (.seq (.seq (.region f73r32 [8,13,139]) (.cond (.t 139) (.seq (.region f73r33 [4]) .ret) .skip)) (.seq (.region f73r34 [4]) .ret))) .skip))))))))))
def f73L0:RC:=.loop [0,1,5,6,7,8,9,10] f73B0
@[simp] def f73r35:Ω:=[σ 4 (.mv (.c (.int .i64 (.negSucc 0))))]
def f73:RFunc:=⟨[.t 4],(.seq (.region f73r0 [0,1]) (.seq (.region f73r1 [0,1,5]) (.seq (.block 0 (.seq (.region f73r2 [0,1,5,16]) (.cond (.t 16) (.seq (.region f73r3 [4]) .ret) (.seq (.region f73r4 [0,1,5,24]) (.cond (.t 24) (.seq (.region f73r5 [4]) .ret) (.seq (.region f73r6 [0,1,5,31]) (.cond (.t 31) (.seq (.region f73r7 [4]) .ret) (.seq (.region f73r8 [0,1,5,36]) (.cond (.t 36) (.seq (.region f73r9 [4]) .ret) .skip))))))))) (.seq (.region f73r10 [0,1,5,6]) (.seq (.region f73r11 [0,1,5,6,7]) (.seq (.region f73r12 [0,1,5,6,7,8]) (.seq (.region f73r13 [0,1,5,6,7,8,9]) (.seq (.region f73r14 [0,1,5,6,7,8,9,10]) (.seq (.block 1 f73L0) (.seq (.region f73r35 [4]) .ret)))))))))),true⟩
@[simp] def f74r0:Ω:=[σ 2 (.mv (.c (.bool false)))]
@[simp] def f74r1:Ω:=[σ 3 (.mv (.t 0)),σ 4 (.bin .geq (.t 3) (.c (.int .u8 (.ofNat 97)))),σ 5 (.mv (.t 4)),τ 6 (.mv (.t 0)) 5 true,τ 7 (.bin .leq (.t 6) (.c (.int .u8 (.ofNat 122)))) 5 true,σ 8 (.pick (.t 5) (.t 7) (.c (.bool false))),σ 9 (.mv (.t 8)),τ 10 (.mv (.t 0)) 9 false,τ 11 (.bin .geq (.t 10) (.c (.int .u8 (.ofNat 65)))) 9 false,τ 12 (.mv (.t 11)) 9 false,τ 13 (.mv (.t 0)) 12 true,τ 14 (.bin .leq (.t 13) (.c (.int .u8 (.ofNat 90)))) 12 true,τ 15 (.pick (.t 12) (.t 14) (.c (.bool false))) 9 false,σ 16 (.pick (.t 9) (.c (.bool true)) (.t 15)),σ 2 (.mv (.t 16))]
def f74:RFunc:=⟨[.t 2],(.seq (.region f74r0 [0]) (.seq (.region f74r1 [2]) .ret)),true⟩
@[simp] def f76r0:Ω:=[σ 2 (.mv (κ 0))]
@[simp] def f76r1:Ω:=[σ 3 (.mv (.t 0)),σ 4 (.bin .add (.t 3) (κ 16)),σ 5 (.bin .quo (.t 4) (κ 8)),σ 2 (.mv (.t 5))]
def f76:RFunc:=⟨[.t 2],(.seq (.region f76r0 [0]) (.seq (.region f76r1 [2]) .ret)),true⟩
@[simp] def f77r0:Ω:=[σ 4 (.mv (κ 0))]
@[simp] def f77r1:Ω:=[σ 12 (.mv (.t 1)),σ 13 (.call 78 [(.t 12)]),σ 11 (.mv (.t 13)),σ 14 (.extract (.t 11) 0),σ 15 (.extract (.t 11) 1),σ 5 (.mv (.t 14)),σ 6 (.mv (.t 15))]
@[simp] def f77r2:Ω:=[σ 16 (.mv (.t 1)),σ 17 (.len .str (.t 16)),σ 7 (.mv (.t 17))]
@[simp] def f77r3:Ω:=[σ 8 (.mv (.c (.int .u32 (.ofNat 0))))]
@[simp] def f77r4:Ω:=[σ 9 (.mv (κ 0))]
@[simp] def f77r5:Ω:=[σ 18 (.mv (.t 9)),σ 19 (.mv (.t 7)),σ 20 (.bin .lss (.t 18) (.t 19))]
@[simp] def f77r6:Ω:=[σ 23 (.mv (.t 8)),σ 24 (.bin .mul (.t 23) (.c (.int .u32 (.ofNat 16777619)))),σ 25 (.mv (.t 0)),σ 26 (.mv (.t 9)),σ 27 (.index (.t 25) (.t 26)),σ 28 (.i2i .u32 (.t 27)),σ 29 (.bin .add (.t 24) (.t 28)),σ 8 (.mv (.t 29))]
@[simp] def f77r7:Ω:=[σ 21 (.mv (.t 9)),σ 22 (.bin .add (.t 21) (κ 1)),σ 9 (.mv (.t 22))]
def f77B0:RC:=(.seq (.seq (.region f77r5 [0,1,5,6,7,8,9,20]) (.cond (.t 20) .skip (.exit 0))) (.seq (.block 1 (.region f77r6 [0,1,5,6,7,8,9])) (.region f77r7 [0,1,5,6,7,8,9])))
def f77L0:RC:=.loop [0,1,5,6,7,8,9] f77B0
@[simp] def f77r8:Ω:=[σ 30 (.mv (.t 8)),σ 31 (.mv (.t 5)),σ 32 (.bin .eql (.t 30) (.t 31)),σ 33 (.mv (.t 32)),τ 34 (.mv (.t 0)) 33 true,τ 35 (.mv (.t 7)) 33 true,τ 36 (.slice true 1 (.t 34) none (some (.t 35)) none) 33 true,τ 37 (.mv (.t 1)) 33 true,τ 38 (.bin .eql (.t 36) (.t 37)) 33 true,σ 39 (.pick (.t 33) (.t 38) (.c (.bool false)))]
@[simp] def f77r9:Ω:=[σ 4 (.mv (κ 0))]
@[simp] def f77r10:Ω:=[σ 40 (.mv (.t 7)),σ 10 (.mv (.t 40))]
@[simp] def f77r11:Ω:=[σ 41 (.mv (.t 10)),σ 42 (.mv (.t 0)),σ 43 (.len .str (.t 42)),σ 44 (.bin .lss (.t 41) (.t 43))]
@[simp] def f77r12:Ω:=[σ 45 (.mv (.t 8)),σ 46 (.bin .mul (.t 45) (.c (.int .u32 (.ofNat 16777619)))),σ 8 (.mv (.t 46))]
@[simp] def f77r13:Ω:=[σ 47 (.mv (.t 8)),σ 48 (.mv (.t 0)),σ 49 (.mv (.t 10)),σ 50 (.index (.t 48) (.t 49)),σ 51 (.i2i .u32 (.t 50)),σ 52 (.bin .add (.t 47) (.t 51)),σ 8 (.mv (.t 52))]
@[simp] def f77r14:Ω:=[σ 53 (.mv (.t 8)),σ 54 (.mv (.t 6)),σ 55 (.mv (.t 0)),σ 56 (.mv (.t 10)),σ 57 (.mv (.t 7)),σ 58 (.bin .sub (.t 56) (.t 57)),σ 59 (.index (.t 55) (.t 58)),σ 60 (.i2i .u32 (.t 59)),σ 61 (.bin .mul (.t 54) (.t 60)),σ 62 (.bin .sub (.t 53) (.t 61)),σ 8 (.mv (.t 62))]
@[simp] def f77r15:Ω:=[σ 63 (.mv (.t 10)),σ 64 (.bin .add (.t 63) (κ 1)),σ 10 (.mv (.t 64))]
@[simp] def f77r16:Ω:=[σ 65 (.mv (.t 8)),σ 66 (.mv (.t 5)),σ 67 (.bin .eql (.t 65) (.t 66)),σ 68 (.mv (.t 67)),τ 69 (.mv (.t 0)) 68 true,τ 70 (.mv (.t 10)) 68 true,τ 71 (.mv (.t 7)) 68 true,τ 72 (.bin .sub (.t 70) (.t 71)) 68 true,τ 73 (.mv (.t 10)) 68 true,τ 74 (.slice true 1 (.t 69) (some (.t 72)) (some (.t 73)) none) 68 true,τ 75 (.mv (.t 1)) 68 true,τ 76 (.bin .eql (.t 74) (.t 75)) 68 true,σ 77 (.pick (.t 68) (.t 76) (.c (.bool false)))]
@[simp] def f77r17:Ω:=[σ 78 (.mv (.t 10)),σ 79 (.mv (.t 7)),σ 80 (.bin .sub (.t 78) (.t 79)),σ 4 (.mv (.t 80))]
def f77B1:RC:=(.seq (.seq (.region f77r11 [0,1,5,6,7,8,10,44]) (.cond (.t 44) .skip (.exit 2))) (.block 3 (.seq (.region f77r12 [0,1,5,6,7,8,10]) (.seq (.region f77r13 [0,1,5,6,7,8,10]) (.seq (.region f77r14 [0,1,5,6,7,8,10]) (.seq (.region f77r15 [0,1,5,6,7,8,10]) (.seq (.region f77r16 [0,1,5,6,7,8,10,77]) (.cond (.t 77) (.seq (.region f77r17 [4]) .ret) .skip))))))))
def f77L1:RC:=.loop [0,1,5,6,7,8,10] f77B1
@[simp] def f77r18:Ω:=[σ 4 (.mv (.c (.int .i64 (.negSucc 0))))]
def f77:RFunc:=⟨[.t 4],(.seq (.region f77r0 [0,1]) (.seq (.region f77r1 [0,1,5,6]) (.seq (.region f77r2 [0,1,5,6,7]) (.seq (.region f77r3 [0,1,5,6,7,8]) (.seq (.seq (.region f77r4 [0,1,5,6,7,8,9]) (.block 0 f77L0)) (.seq (.seq (.region f77r8 [0,1,5,6,7,8,39]) (.cond (.t 39) (.seq (.region f77r9 [4]) .ret) .skip)) (.seq (.seq (.region f77r10 [0,1,5,6,7,8,10]) (.block 2 f77L1)) (.seq (.region f77r18 [4]) .ret)))))))),true⟩
@[simp] def f78r0:Ω:=[σ 2 (.mv (.c (.int .u32 (.ofNat 0)))),σ 3 (.mv (.c (.int .u32 (.ofNat 0))))]
@[simp] def f78r1:Ω:=[σ 4 (.mv (.c (.int .u32 (.ofNat 0))))]
@[simp] def f78r2:Ω:=[σ 5 (.mv (κ 0))]
@[simp] def f78r3:Ω:=[σ 9 (.mv (.t 5)),σ 10 (.mv (.t 0)),σ 11 (.len .str (.t 10)),σ 12 (.bin .lss (.t 9) (.t 11))]
@[simp] def f78r4:Ω:=[σ 15 (.mv (.t 4)),σ 16 (.bin .mul (.t 15) (.c (.int .u32 (.ofNat 16777619)))),σ 17 (.mv (.t 0)),σ 18 (.mv (.t 5)),σ 19 (.index (.t 17) (.t 18)),σ 20 (.i2i .u32 (.t 19)),σ 21 (.bin .add (.t 16) (.t 20)),σ 4 (.mv (.t 21))]
@[simp] def f78r5:Ω:=[σ 13 (.mv (.t 5)),σ 14 (.bin .add (.t 13) (κ 1)),σ 5 (.mv (.t 14))]
def f78B0:RC:=(.seq (.seq (.region f78r3 [0,4,5,12]) (.cond (.t 12) .skip (.exit 0))) (.seq (.block 1 (.region f78r4 [0,4,5])) (.region f78r5 [0,4,5])))
def f78L0:RC:=.loop [0,4,5] f78B0
@[simp] def f78r6:Ω:=[σ 6 (.mv (.c (.int .u32 (.ofNat 1)))),σ 7 (.mv (.c (.int .u32 (.ofNat 16777619))))]
@[simp] def f78r7:Ω:=[σ 22 (.mv (.t 0)),σ 23 (.len .str (.t 22)),σ 8 (.mv (.t 23))]
@[simp] def f78r8:Ω:=[σ 24 (.mv (.t 8)),σ 25 (.bin .gtr (.t 24) (κ 0))]
@[simp] def f78r9:Ω:=[σ 28 (.mv (.t 8)),σ 29 (.bin .and (.t 28) (κ 1)),σ 30 (.bin .neq (.t 29) (κ 0))]
@[simp] def f78r10:Ω:=[σ 31 (.mv (.t 6)),σ 32 (.mv (.t 7)),σ 33 (.bin .mul (.t 31) (.t 32)),σ 6 (.mv (.t 33))]
@[simp] def f78r11:Ω:=[σ 34 (.mv (.t 7)),σ 35 (.mv (.t 7)),σ 36 (.bin .mul (.t 34) (.t 35)),σ 7 (.mv (.t 36))]
@[simp] def f78r12:Ω:=[σ 26 (.mv (.t 8)),σ 27 (.bin .shr (.t 26) (.c (.int .u64 (.ofNat 1)))),σ 8 (.mv (.t 27))]
def f78B1:RC:=(.seq (.seq (.region f78r8 [4,6,7,8,25]) (.cond (.t 25) .skip (.exit 2))) (.seq (.block 3 (.seq (.seq (.region f78r9 [4,6,7,8,30]) (.cond (.t 30) (.region f78r10 [4,6,7,8]) .skip)) (.region f78r11 [4,6,7,8]))) (.region f78r12 [4,6,7,8])))
def f78L1:RC:=.loop [4,6,7,8] f78B1
@[simp] def f78r13:Ω:=[σ 37 (.mv (.t 4)),σ 38 (.mv (.t 6)),σ 2 (.mv (.t 37)),σ 3 (.mv (.t 38))]
def f78:RFunc:=⟨[.t 2,.t 3],(.seq (.region f78r0 [0]) (.seq (.region f78r1 [0,4]) (.seq (.seq (.region f78r2 [0,4,5]) (.block 0 f78L0)) (.seq (.region f78r6 [0,4,6,7]) (.seq (.seq (.region f78r7 [4,6,7,8]) (.block 2 f78L1)) (.seq (.region f78r13 [2,3]) .ret)))))),true⟩
@[simp] def f105r0:Ω:=[σ 2 (.alloc [(.str []),(.list 0 0 .no false []),(.int .i64 (.ofNat 0)),(.int .i64 (.ofNat 0)),(.int .i64 (.ofNat 0)),(.int .i64 (.ofNat 0)),(.int .i64 (.ofNat 0)),(.int .i64 (.ofNat 0)),(.int .i64 (.ofNat 0)),(.int .i64 (.ofNat 0)),(.int .i64 (.ofNat 0)),(.int .i64 (.ofNat 0)),(.int .i64 (.ofNat 0)),(.int .i64 (.ofNat 0)),(.int .i64 (.ofNat 0)),(.int .i64 (.ofNat 0)),(.int .i64 (.ofNat 0)),(.int .i64 (.ofNat 0)),(.int .i64 (.ofNat 0)),(.str []),(.list 0 0 .no false [])])]
@[simp] def f105r1:Ω:=[σ 4 (.mv (.t 0)),σ 5 (.call 26 [(κ 8)]),σ 6 (.build [(.str []),(.list 0 0 .no false []),(.int .i64 (.ofNat 0)),(.int .i64 (.ofNat 0)),(.int .i64 (.ofNat 0)),(.int .i64 (.ofNat 0)),(.int .i64 (.ofNat 0)),(.int .i64 (.ofNat 0)),(.int .i64 (.ofNat 0)),(.int .i64 (.ofNat 0)),(.int .i64 (.ofNat 0)),(.int .i64 (.ofNat 0)),(.int .i64 (.ofNat 0)),(.int .i64 (.ofNat 0)),(.int .i64 (.ofNat 0)),(.int .i64 (.ofNat 0)),(.int .i64 (.ofNat 0)),(.int .i64 (.ofNat 0)),(.int .i64 (.ofNat 0)),(.str []),(.list 0 0 .no false [])] [(0,1,(.t 4)),(2,17,(.t 5))]),σ 3 (.alloc [(.str []),(.list 0 0 .no false []),(.int .i64 (.ofNat 0)),(.int .i64 (.ofNat 0)),(.int .i64 (.ofNat 0)),(.int .i64 (.ofNat 0)),(.int .i64 (.ofNat 0)),(.int .i64 (.ofNat 0)),(.int .i64 (.ofNat 0)),(.int .i64 (.ofNat 0)),(.int .i64 (.ofNat 0)),(.int .i64 (.ofNat 0)),(.int .i64 (.ofNat 0)),(.int .i64 (.ofNat 0)),(.int .i64 (.ofNat 0)),(.int .i64 (.ofNat 0)),(.int .i64 (.ofNat 0)),(.int .i64 (.ofNat 0)),(.int .i64 (.ofNat 0)),(.str []),(.list 0 0 .no false [])]),⟨none,.store 21 (.t 3) (.t 6),none⟩]
@[simp] def f105r2:Ω:=[σ 7 (.mv (.t 0)),σ 8 (.len .str (.t 7)),σ 9 (.bin .gtr (.t 8) (κ 0))]
@[simp] def f105r3:Ω:=[σ 10 (.mv (.t 0)),σ 11 (.len .str (.t 10)),σ 12 (.build [(.int .i64 (.ofNat 0)),(.int .i64 (.ofNat 0)),(.int .i64 (.ofNat 0)),(.int .i64 (.ofNat 0))] [(0,1,(.t 11))]),σ 13 (.lit 4 true [(.int .i64 (.ofNat 0)),(.int .i64 (.ofNat 0)),(.int .i64 (.ofNat 0)),(.int .i64 (.ofNat 0))] 1 [(0,(.t 12))]),σ 14 (.faddr 1 (.t 3)),⟨none,.store 1 (.t 14) (.t 13),none⟩]
@[simp] def f105r4:Ω:=[σ 15 (.load 21 true (.t 3)),⟨none,.store 21 (.t 2) (.t 15),none⟩]
def f105:RFunc:=⟨[.cell 2 21 true],(.seq (.region f105r0 [0,2]) (.seq (.region f105r1 [0,2,3]) (.seq (.seq (.region f105r2 [0,2,3,9]) (.cond (.t 9) (.region f105r3 [2,3]) .skip)) (.seq (.region f105r4 [2]) .ret)))),true⟩
@[simp] def f106r0:Ω:=[σ 1 (.box 21 (.t 0)),σ 2 (.mv (.c (.list 0 0 .no false []))),σ 3 (.mv (κ 0))]
@[simp] def f106r1:Ω:=[σ 9 (.load 21 true (.t 1)),σ 10 (.call 117 [(.t 9)]),σ 8 (.mv (.t 10)),σ 11 (.extract (.t 8) 0),σ 12 (.extract (.t 8) 1),σ 4 (.mv (.t 11)),σ 5 (.mv (.t 12))]
@[simp] def f106r2:Ω:=[σ 13 (.mv (.t 5)),σ 14 (.bin .neq (.t 13) (κ 0))]
@[simp] def f106r3:Ω:=[σ 15 (.mv (.t 5)),σ 2 (.mv (.c (.list 0 0 .no false []))),σ 3 (.mv (.t 15))]
@[simp] def f106r4:Ω:=[σ 6 (.alloc [(.list 0 0 .no false [])])]
@[simp] def f106r5:Ω:=[σ 16 (.load 21 true (.t 1)),σ 17 (.mv (.t 4)),σ 18 (.call 118 [(.t 16),(.t 17)])]
@[simp] def f106r6:Ω:=[σ 7 (.alloc [(.int .i64 (.ofNat 0)),(.int .i64 (.ofNat 0)),(.int .i64 (.ofNat 0)),(.int .i64 (.ofNat 0)),(.int .i64 (.ofNat 0)),(.int .i64 (.ofNat 0)),(.int .i64 (.ofNat 0)),(.bool false)]),⟨none,.store 8 (.t 7) (.t 19),none⟩]
@[simp] def f106r7:Ω:=[σ 20 (.load 1 false (.t 6)),σ 21 (.load 8 true (.t 7)),σ 22 (.lit 8 true [(.int .i64 (.ofNat 0)),(.int .i64 (.ofNat 0)),(.int .i64 (.ofNat 0)),(.int .i64 (.ofNat 0)),(.int .i64 (.ofNat 0)),(.int .i64 (.ofNat 0)),(.int .i64 (.ofNat 0)),(.bool false)] 1 [(0,(.t 21))]),σ 23 (.append 8 true 64 (.t 20) (.t 22)),⟨none,.store 1 (.t 6) (.t 23),none⟩]
@[simp] def f106r8:Ω:=[σ 24 (.load 1 false (.t 6)),σ 2 (.mv (.t 24)),σ 3 (.mv (κ 0))]
def f106:RFunc:=⟨[.t 2,.t 3],(.seq (.region f106r0 [1]) (.seq (.region f106r1 [1,4,5]) (.seq (.seq (.region f106r2 [1,4,5,14]) (.cond (.t 14) (.seq (.region f106r3 [2,3]) .ret) .skip)) (.seq (.region f106r4 [1,4,6]) (.seq (.seq (.region f106r5 [6,18]) (.block 0 (.rfunc (.t 18) [19] (.region f106r6 [6,7]) (.block 1 (.region f106r7 [])) [6,18]))) (.seq (.region f106r8 [2,3]) .ret)))))),true⟩
@[simp] def f117r0:Ω:=[σ 1 (.box 21 (.t 0)),σ 2 (.mv (.c (.list 0 0 .no false []))),σ 3 (.mv (κ 0))]
@[simp] def f117r1:Ω:=[σ 7 (.load 21 true (.t 1)),σ 8 (.call 10 [(.t 7)]),σ 6 (.mv (.t 8)),σ 9 (.extract (.t 6) 0),σ 10 (.extract (.t 6) 1),σ 4 (.mv (.t 9)),σ 5 (.mv (.t 10))]
@[simp] def f117r2:Ω:=[σ 11 (.mv (.t 5)),σ 12 (.bin .eql (.t 11) (κ 0)),σ 13 (.mv (.t 12)),τ 14 (.faddr 2 (.t 1)) 13 true,τ 15 (.faddr 14 (.t 14)) 13 true,τ 16 (.load 1 false (.t 15)) 13 true,τ 17 (.bin .geq (.t 16) (κ 2)) 13 true,σ 18 (.pick (.t 13) (.t 17) (.c (.bool false))),σ 19 (.mv (.t 18)),τ 20 (.mv (.t 4)) 19 true,τ 21 (.len .slice (.t 20)) 19 true,τ 22 (.bin .gtr (.t 21) (κ 0)) 19 true,σ 23 (.pick (.t 19) (.t 22) (.c (.bool false))),σ 24 (.mv (.t 23)),τ 25 (.mv (.t 4)) 24 true,τ 26 (.iaddr 6 (.t 25) (κ 0)) 24 true,τ 27 (.faddr 2 (.t 26)) 24 true,τ 28 (.load 1 false (.t 27)) 24 true,τ 29 (.bin .eql (.t 28) (κ 1)) 24 true,σ 30 (.pick (.t 24) (.t 29) (.c (.bool false)))]
@[simp] def f117r3:Ω:=[σ 31 (.mv (.t 4)),σ 32 (.slice false 6 (.t 31) (some (κ 1)) none none),σ 4 (.mv (.t 32))]
@[simp] def f117r4:Ω:=[σ 33 (.mv (.t 4)),σ 34 (.mv (.t 5)),σ 2 (.mv (.t 33)),σ 3 (.mv (.t 34))]
def f117:RFunc:=⟨[.t 2,.t 3],(.seq (.region f117r0 [1]) (.seq (.region f117r1 [1,4,5]) (.seq (.seq (.region f117r2 [4,5,30]) (.cond (.t 30) (.region f117r3 [4,5]) .skip)) (.seq (.region f117r4 [2,3]) .ret)))),true⟩
@[simp] def f118r0:Ω:=[σ 2 (.box 21 (.t 0)),σ 3 (.box 1 (.t 1)),σ 4 (.mv (.c .nilfn))]
@[simp] def f118r1:Ω:=[σ 5 (.mkfn 131 [] [(.t 2),(.t 3)]),σ 4 (.mv (.t 5))]
def f118:RFunc:=⟨[.t 4],(.seq (.region f118r0 [2,3]) (.seq (.region f118r1 [4]) .ret)),false⟩
@[simp] def f131r0:Ω:=[σ 3 (.box 1 (.t 0))]
@[simp] def f131r1:Ω:=[σ 12 (.load 21 true (.t 1)),σ 13 (.load 1 false (.t 2)),σ 14 (.call 132 [(.t 12),(.t 13)]),σ 4 (.mv (.t 14))]
@[simp] def f131r2:Ω:=[σ 15 (.mkfn 133 [] [(.t 2),(.t 1)]),σ 5 (.mv (.t 15))]
@[simp] def f131r3:Ω:=[σ 7 (.alloc [(.int .i64 (.ofNat 0))]),σ 6 (.mv (κ 0)),⟨none,.store 1 (.t 7) (κ 0),none⟩]
@[simp] def f131r4:Ω:=[σ 16 (.mkfn 134 [] [(.t 7),(.t 3),(.t 2)]),σ 8 (.mv (.t 16))]
@[simp] def f131r5:Ω:=[σ 17 (.load 1 false (.t 2)),σ 18 (.len .slice (.t 17)),σ 19 (.mv (κ 0))]
@[simp] def f131r6:Ω:=[σ 20 (.bin .lss (.t 19) (.t 18))]
@[simp] def f131r7:Ω:=[σ 21 (.mv (.t 19)),σ 22 (.iaddr 6 (.t 17) (.t 19)),σ 23 (.load 6 true (.t 22)),σ 10 (.alloc [(.int .i64 (.ofNat 0)),(.int .i64 (.ofNat 0)),(.int .i64 (.ofNat 0)),(.int .i64 (.ofNat 0)),(.int .i64 (.ofNat 0)),(.int .i64 (.ofNat 0))]),σ 9 (.mv (.t 21)),⟨none,.store 6 (.t 10) (.t 23),none⟩]
@[simp] def f131r8:Ω:=[σ 24 (.load 6 true (.t 10)),σ 25 (.call 136 [(.t 24)]),σ 26 (.un .not (.t 25))]
@[simp] def f131r9:Ω:=[σ 27 (.mv (.t 8)),σ 28 (.mv (.t 9)),σ 29 (.callv (.t 27) [(.t 28)]),σ 30 (.un .not (.t 29)),σ 31 (.mv (.t 30)),τ 32 (.load 1 false (.t 3)) 31 false,τ 33 (.load 6 true (.t 10)) 31 false,τ 34 (.call 137 [(.t 33)]) 31 false,τ 35 (.callv (.t 32) [(.t 34)]) 31 false,τ 36 (.un .not (.t 35)) 31 false,σ 37 (.pick (.t 31) (.c (.bool true)) (.t 36))]
@[simp] def f131r10:Ω:=[σ 38 (.mv (.t 9)),σ 39 (.bin .add (.t 38) (κ 1)),σ 40 (.mv (.t 9)),σ 41 (.bin .add (.t 40) (κ 1)),σ 6 (.mv (.t 39)),⟨none,.store 1 (.t 7) (.t 41),none⟩]
@[simp] def f131r11:Ω:=[σ 42 (.mv (.t 9)),σ 43 (.load 1 false (.t 7)),σ 44 (.bin .eql (.t 42) (.t 43))]
@[simp] def f131r12:Ω:=[σ 45 (.faddr 0 (.t 10)),σ 46 (.load 1 false (.t 45)),σ 47 (.faddr 0 (.t 10)),σ 48 (.load 1 false (.t 47)),σ 49 (.build [(.int .i64 (.ofNat 0)),(.int .i64 (.ofNat 0)),(.int .i64 (.ofNat 0)),(.int .i64 (.ofNat 0)),(.int .i64 (.ofNat 0)),(.int .i64 (.ofNat 0)),(.int .i64 (.ofNat 0)),(.bool false)] [(0,1,(κ 3)),(1,1,(.t 46)),(2,1,(.t 48))]),σ 11 (.alloc [(.int .i64 (.ofNat 0)),(.int .i64 (.ofNat 0)),(.int .i64 (.ofNat 0)),(.int .i64 (.ofNat 0)),(.int .i64 (.ofNat 0)),(.int .i64 (.ofNat 0)),(.int .i64 (.ofNat 0)),(.bool false)]),⟨none,.store 8 (.t 11) (.t 49),none⟩]
@[simp] def f131r13:Ω:=[σ 51 (.mv (.t 4)),σ 52 (.mv (.t 9)),σ 53 (.iaddr 1 (.t 51) (.t 52)),σ 54 (.load 1 false (.t 53)),σ 50 (.mv (.t 54))]
@[simp] def f131r14:Ω:=[σ 55 (.faddr 3 (.t 10)),σ 56 (.load 1 false (.t 55)),σ 57 (.call 138 [(.t 56)]),σ 58 (.faddr 6 (.t 11)),⟨none,.store 1 (.t 58) (κ 100),none⟩,σ 59 (.faddr 7 (.t 11)),⟨none,.store 1 (.t 59) (.c (.bool true)),none⟩,σ 60 (.faddr 3 (.t 11)),⟨none,.store 1 (.t 60) (.t 57),none⟩]
@[simp] def f131r15:Ω:=[σ 62 (.mv (.t 5)),σ 63 (.mv (.t 9)),σ 64 (.bin .sub (.t 63) (κ 1)),σ 65 (.callv (.t 62) [(.t 64)]),σ 66 (.mv (.t 65)),τ 67 (.mv (.t 5)) 66 true,τ 68 (.mv (.t 9)) 66 true,τ 69 (.callv (.t 67) [(.t 68)]) 66 true,τ 70 (.un .not (.t 69)) 66 true,σ 71 (.pick (.t 66) (.t 70) (.c (.bool false))),σ 72 (.mv (.t 71)),τ 73 (.mv (.t 9)) 72 true,τ 74 (.bin .sub (.t 73) (κ 1)) 72 true,τ 75 (.mv (.t 6)) 72 true,τ 76 (.bin .gtr (.t 74) (.t 75)) 72 true,σ 77 (.pick (.t 72) (.t 76) (.c (.bool false))),σ 61 (.mv (.t 77))]
@[simp] def f131r16:Ω:=[σ 78 (.faddr 6 (.t 11)),⟨none,.store 1 (.t 78) (κ 50),none⟩]
@[simp] def f131r17:Ω:=[σ 79 (.mv (.t 8)),σ 80 (.mv (.t 9)),σ 81 (.callv (.t 79) [(.t 80)]),σ 82 (.un .not (.t 81)),σ 83 (.mv (.t 82)),τ 84 (.load 1 false (.t 3)) 83 false,τ 85 (.load 8 true (.t 11)) 83 false,τ 86 (.callv (.t 84) [(.t 85)]) 83 false,τ 87 (.un .not (.t 86)) 83 false,σ 88 (.pick (.t 83) (.c (.bool true)) (.t 87))]
@[simp] def f131r18:Ω:=[σ 89 (.mv (.t 9)),⟨none,.store 1 (.t 7) (.t 89),none⟩]
@[simp] def f131r19:Ω:=[σ 90 (.bin .add (.t 19) (κ 1)),σ 19 (.mv (.t 90))]
def f131B0:RC:=(.seq (.region f131r6 [2,3,4,5,6,7,8,17,18,19,20]) (.seq (.cond (.t 20) .skip (.exit 0)) (.seq (.block 1 (.seq (.region f131r7 [2,3,4,5,6,7,8,9,10,17,18,19]) (.seq (.seq (.region f131r8 [2,3,4,5,6,7,8,9,10,17,18,19,26]) (.cond (.t 26) (.seq (.seq (.dregion f131r9 [] [] [2,3,4,5,7,8,9,17,18,19,37]) (.cond (.t 37) .ret .skip)) (.seq (.region f131r10 [2,3,4,5,6,7,8,17,18,19]) (.exit 1))) .skip)) (.seq (.seq (.region f131r11 [2,3,4,5,6,7,8,9,10,17,18,19,44]) (.cond (.t 44) (.exit 1) .skip)) (.seq (.region f131r12 [2,3,4,5,6,7,8,9,10,11,17,18,19]) (.seq (.block 2 (.seq (.region f131r13 [2,3,4,5,6,7,8,9,10,11,17,18,19,50]) (.cond (.t 50) (.region f131r14 [2,3,4,5,6,7,8,9,11,17,18,19]) (.seq (.region f131r15 [2,3,4,5,6,7,8,9,11,17,18,19,61]) (.cond (.t 61) (.region f131r16 [2,3,4,5,6,7,8,9,11,17,18,19]) (.exit 1)))))) (.seq (.seq (.region f131r17 [2,3,4,5,6,7,8,9,17,18,19,88]) (.cond (.t 88) .ret .skip)) (.region f131r18 [2,3,4,5,6,7,8,17,18,19])))))))) (.region f131r19 [2,3,4,5,6,7,8,17,18,19]))))
def f131L0:RC:=.loop [2,3,4,5,6,7,8,17,18,19] f131B0
@[simp] def f131r20:Ω:=[σ 91 (.mv (.t 8)),σ 92 (.load 1 false (.t 2)),σ 93 (.len .slice (.t 92)),σ 94 (.callv (.t 91) [(.t 93)])]
def f131:RFunc:=⟨[],(.seq (.region f131r0 [1,2,3]) (.seq (.region f131r1 [1,2,3,4]) (.seq (.region f131r2 [2,3,4,5]) (.seq (.region f131r3 [2,3,4,5,6,7]) (.seq (.region f131r4 [2,3,4,5,6,7,8]) (.seq (.seq (.region f131r5 [2,3,4,5,6,7,8,17,18,19]) (.block 0 f131L0)) (.region f131r20 []))))))),false⟩
@[simp] def f132r0:Ω:=[σ 2 (.box 21 (.t 0)),σ 4 (.mv (.c (.list 0 0 .no false [])))]
@[simp] def f132r1:Ω:=[σ 14 (.mv (.t 1)),σ 15 (.len .slice (.t 14)),σ 16 (.bin .add (.t 15) (κ 1)),σ 17 (.mkslice 1 false 1 [(.bool false)] (.t 16) (.t 16)),σ 5 (.mv (.t 17))]
@[simp] def f132r2:Ω:=[σ 18 (.faddr 2 (.t 2)),σ 19 (.faddr 12 (.t 18)),σ 20 (.load 1 false (.t 19)),σ 21 (.bin .eql (.t 20) (κ 0))]
@[simp] def f132r3:Ω:=[σ 22 (.mv (.t 5)),σ 4 (.mv (.t 22))]
@[simp] def f132r4:Ω:=[σ 23 (.call 143 []),σ 6 (.mv (.t 23))]
@[simp] def f132r5:Ω:=[σ 7 (.mv (κ 0))]
@[simp] def f132r6:Ω:=[σ 24 (.mv (.t 7)),σ 25 (.mv (.t 1)),σ 26 (.len .slice (.t 25)),σ 27 (.bin .lss (.t 24) (.t 26))]
@[simp] def f132r7:Ω:=[σ 28 (.mv (.t 1)),σ 29 (.mv (.t 7)),σ 30 (.iaddr 6 (.t 28) (.t 29)),σ 31 (.faddr 2 (.t 30)),σ 32 (.load 1 false (.t 31)),σ 33 (.bin .neq (.t 32) (κ 1))]
@[simp] def f132r8:Ω:=[σ 34 (.mv (.t 7)),σ 35 (.bin .add (.t 34) (κ 1)),σ 7 (.mv (.t 35))]
@[simp] def f132r9:Ω:=[σ 36 (.mv (.t 7)),σ 8 (.mv (.t 36))]
@[simp] def f132r10:Ω:=[σ 9 (.mv (.c (.list 0 0 .no false [])))]
@[simp] def f132r11:Ω:=[σ 37 (.mv (.t 8)),σ 38 (.mv (.t 1)),σ 39 (.len .slice (.t 38)),σ 40 (.bin .lss (.t 37) (.t 39)),σ 41 (.mv (.t 40)),τ 42 (.mv (.t 1)) 41 true,τ 43 (.mv (.t 8)) 41 true,τ 44 (.iaddr 6 (.t 42) (.t 43)) 41 true,τ 45 (.faddr 2 (.t 44)) 41 true,τ 46 (.load 1 false (.t 45)) 41 true,τ 47 (.bin .eql (.t 46) (κ 1)) 41 true,σ 48 (.pick (.t 41) (.t 47) (.c (.bool false))),σ 49 (.mv (.t 48)),τ 50 (.mv (.t 1)) 49 true,τ 51 (.mv (.t 8)) 49 true,τ 52 (.iaddr 6 (.t 50) (.t 51)) 49 true,τ 53 (.faddr 3 (.t 52)) 49 true,τ 54 (.load 1 false (.t 53)) 49 true,τ 55 (.mv (.t 1)) 49 true,τ 56 (.mv (.t 7)) 49 true,τ 57 (.iaddr 6 (.t 55) (.t 56)) 49 true,τ 58 (.faddr 3 (.t 57)) 49 true,τ 59 (.load 1 false (.t 58)) 49 true,τ 60 (.bin .eql (.t 54) (.t 59)) 49 true,σ 61 (.pick (.t 49) (.t 60) (.c (.bool false)))]
@[simp] def f132r12:Ω:=[σ 62 (.mv (.t 9)),σ 63 (.faddr 0 (.t 2)),σ 64 (.load 1 false (.t 63)),σ 65 (.mv (.t 1)),σ 66 (.mv (.t 8)),σ 67 (.iaddr 6 (.t 65) (.t 66)),σ 68 (.faddr 0 (.t 67)),σ 69 (.load 1 false (.t 68)),σ 70 (.index (.t 64) (.t 69)),σ 71 (.lit 1 false [(.int .u8 (.ofNat 0))] 1 [(0,(.t 70))]),σ 72 (.append 1 false 1 (.t 62) (.t 71)),σ 9 (.mv (.t 72))]
@[simp] def f132r13:Ω:=[σ 73 (.mv (.t 8)),σ 74 (.bin .add (.t 73) (κ 1)),σ 8 (.mv (.t 74))]
def f132B0:RC:=(.seq (.seq (.dregion f132r11 [] [] [1,2,5,6,7,8,9,61]) (.cond (.t 61) .skip (.exit 2))) (.block 3 (.seq (.dregion f132r12 [] [] [1,2,5,6,7,8,9]) (.region f132r13 [1,2,5,6,7,8,9]))))
def f132L0:RC:=.loop [1,2,5,6,7,8,9] f132B0
@[simp] def f132r14:Ω:=[σ 76 (.mv (.t 6)),σ 77 (.mv (.t 9)),σ 78 (.b2s (.t 77)),σ 79 (.call 144 [(.t 76),(.t 78)]),σ 75 (.mv (.t 79)),σ 80 (.extract (.t 75) 0),σ 81 (.extract (.t 75) 1),σ 10 (.mv (.t 80)),σ 11 (.mv (.t 81))]
@[simp] def f132r15:Ω:=[σ 82 (.mv (.t 10)),σ 83 (.len .slice (.t 82)),σ 84 (.mv (κ 0))]
@[simp] def f132r16:Ω:=[σ 85 (.bin .lss (.t 84) (.t 83))]
@[simp] def f132r17:Ω:=[σ 86 (.iaddr 1 (.t 82) (.t 84)),σ 87 (.load 1 false (.t 86)),σ 13 (.mv (.t 87))]
@[simp] def f132r18:Ω:=[σ 88 (.mv (.t 5)),σ 89 (.mv (.t 7)),σ 90 (.mv (.t 13)),σ 91 (.bin .add (.t 89) (.t 90)),σ 92 (.iaddr 1 (.t 88) (.t 91)),⟨none,.store 1 (.t 92) (.c (.bool true)),none⟩]
@[simp] def f132r19:Ω:=[σ 93 (.bin .add (.t 84) (κ 1)),σ 84 (.mv (.t 93))]
def f132B1:RC:=(.seq (.region f132r16 [1,2,5,6,7,8,82,83,84,85]) (.seq (.cond (.t 85) .skip (.exit 4)) (.seq (.block 5 (.seq (.region f132r17 [1,2,5,6,7,8,13,82,83,84]) (.region f132r18 [1,2,5,6,7,8,82,83,84]))) (.region f132r19 [1,2,5,6,7,8,82,83,84]))))
def f132L1:RC:=.loop [1,2,5,6,7,8,82,83,84] f132B1
@[simp] def f132r20:Ω:=[σ 94 (.mv (.t 8)),σ 7 (.mv (.t 94))]
def f132B2:RC:=(.seq (.seq (.region f132r6 [1,2,5,6,7,27]) (.cond (.t 27) .skip (.exit 0))) (.block 1 (.seq (.seq (.region f132r7 [1,2,5,6,7,33]) (.cond (.t 33) (.seq (.region f132r8 [1,2,5,6,7]) (.exit 1)) .skip)) (.seq (.region f132r9 [1,2,5,6,7,8]) (.seq (.region f132r10 [1,2,5,6,7,8,9]) (.seq (.block 2 f132L0) (.seq (.region f132r14 [1,2,5,6,7,8,10]) (.seq (.seq (.region f132r15 [1,2,5,6,7,8,82,83,84]) (.block 4 f132L1)) (.region f132r20 [1,2,5,6,7])))))))))
def f132L2:RC:=.loop [1,2,5,6,7] f132B2
@[simp] def f132r21:Ω:=[σ 95 (.mv (.t 5)),σ 4 (.mv (.t 95))]
def f132:RFunc:=⟨[.t 4],(.seq (.region f132r0 [1,2]) (.seq (.region f132r1 [1,2,5]) (.seq (.seq (.region f132r2 [1,2,5,21]) (.cond (.t 21) (.seq (.region f132r3 [4]) .ret) .skip)) (.seq (.region f132r4 [1,2,5,6]) (.seq (.seq (.region f132r5 [1,2,5,6,7]) (.block 0 f132L2)) (.seq (.region f132r21 [4]) .ret)))))),true⟩
@[simp] def f133r0:Ω:=[σ 4 (.mv (.c (.bool false)))]
@[simp] def f133r1:Ω:=[σ 5 (.load 1 false (.t 1)),σ 6 (.mv (.t 0)),σ 7 (.iaddr 6 (.t 5) (.t 6)),σ 8 (.faddr 2 (.t 7)),σ 9 (.load 1 false (.t 8)),σ 10 (.bin .eql (.t 9) (κ 2)),σ 11 (.mv (.t 10)),τ 12 (.faddr 0 (.t 2)) 11 true,τ 13 (.load 1 false (.t 12)) 11 true,τ 14 (.load 1 false (.t 1)) 11 true,τ 15 (.mv (.t 0)) 11 true,τ 16 (.iaddr 6 (.t 14) (.t 15)) 11 true,τ 17 (.faddr 0 (.t 16)) 11 true,τ 18 (.load 1 false (.t 17)) 11 true,τ 19 (.index (.t 13) (.t 18)) 11 true,τ 20 (.bin .eql (.t 19) (.c (.int .u8 (.ofNat 45)))) 11 true,σ 21 (.pick (.t 11) (.t 20) (.c (.bool false))),σ 4 (.mv (.t 21))]
def f133:RFunc:=⟨[.t 4],(.seq (.region f133r0 [0,1,2]) (.seq (.dregion f133r1 [] [] [4]) .ret)),false⟩
@[simp] def f134r0:Ω:=[σ 5 (.mv (.c (.bool false)))]
@[simp] def f134r1:Ω:=[σ 6 (.load 1 false (.t 1)),σ 7 (.mv (.t 0)),σ 8 (.bin .geq (.t 6) (.t 7)),σ 9 (.mv (.t 8)),τ 10 (.load 1 false (.t 2)) 9 false,τ 11 (.load 1 false (.t 3)) 9 false,τ 12 (.load 1 false (.t 1)) 9 false,τ 13 (.mv (.t 0)) 9 false,τ 14 (.call 135 [(.t 11),(.t 12),(.t 13)]) 9 false,τ 15 (.callv (.t 10) [(.t 14)]) 9 false,σ 16 (.pick (.t 9) (.c (.bool true)) (.t 15)),σ 5 (.mv (.t 16))]
def f134:RFunc:=⟨[.t 5],(.seq (.region f134r0 [0,1,2,3]) (.seq (.dregion f134r1 [] [] [5]) .ret)),false⟩
@[simp] def f135r0:Ω:=[σ 6 (.alloc [(.int .i64 (.ofNat 0)),(.int .i64 (.ofNat 0)),(.int .i64 (.ofNat 0)),(.int .i64 (.ofNat 0)),(.int .i64 (.ofNat 0)),(.int .i64 (.ofNat 0)),(.int .i64 (.ofNat 0)),(.bool false)])]
@[simp] def f135r1:Ω:=[σ 10 (.mv (.t 0)),σ 11 (.mv (.t 1)),σ 12 (.mv (.t 2)),σ 13 (.call 23 [(.t 10),(.t 11),(.t 12)]),σ 9 (.mv (.t 13)),σ 14 (.extract (.t 9) 0),σ 15 (.extract (.t 9) 1),σ 7 (.mv (.t 14)),σ 8 (.mv (.t 15))]
@[simp] def f135r2:Ω:=[σ 16 (.mv (.t 0)),σ 17 (.mv (.t 1)),σ 18 (.iaddr 6 (.t 16) (.t 17)),σ 19 (.faddr 0 (.t 18)),σ 20 (.load 1 false (.t 19)),σ 21 (.mv (.t 0)),σ 22 (.mv (.t 2)),σ 23 (.bin .sub (.t 22) (κ 1)),σ 24 (.iaddr 6 (.t 21) (.t 23)),σ 25 (.faddr 1 (.t 24)),σ 26 (.load 1 false (.t 25)),σ 27 (.mv (.t 7)),σ 28 (.build [(.int .i64 (.ofNat 0)),(.int .i64 (.ofNat 0)),(.int .i64 (.ofNat 0)),(.int .i64 (.ofNat 0)),(.int .i64 (.ofNat 0)),(.int .i64 (.ofNat 0)),(.int .i64 (.ofNat 0)),(.bool false)] [(0,1,(κ 1)),(1,1,(.t 20)),(2,1,(.t 26)),(3,1,(.t 27))]),⟨none,.store 8 (.t 6) (.t 28),none⟩]
def f135:RFunc:=⟨[.cell 6 8 true],(.seq (.region f135r0 [0,1,2,6]) (.seq (.region f135r1 [0,1,2,6,7]) (.seq (.dregion f135r2 [] [] [6]) .ret))),true⟩
@[simp] def f136r0:Ω:=[σ 1 (.box 6 (.t 0)),σ 2 (.mv (.c (.bool false)))]
@[simp] def f136r1:Ω:=[σ 3 (.faddr 2 (.t 1)),σ 4 (.load 1 false (.t 3)),σ 5 (.bin .neq (.t 4) (κ 3)),σ 6 (.mv (.t 5)),τ 7 (.faddr 2 (.t 1)) 6 true,τ 8 (.load 1 false (.t 7)) 6 true,τ 9 (.bin .neq (.t 8) (κ 4)) 6 true,σ 10 (.pick (.t 6) (.t 9) (.c (.bool false))),σ 11 (.mv (.t 10)),τ 12 (.faddr 2 (.t 1)) 11 true,τ 13 (.load 1 false (.t 12)) 11 true,τ 14 (.bin .neq (.t 13) (κ 5)) 11 true,σ 15 (.pick (.t 11) (.t 14) (.c (.bool false))),σ 2 (.mv (.t 15))]
def f136:RFunc:=⟨[.t 2],(.seq (.region f136r0 [1]) (.seq (.region f136r1 [2]) .ret)),true⟩
@[simp] def f137r0:Ω:=[σ 1 (.box 6 (.t 0)),σ 2 (.alloc [(.int .i64 (.ofNat 0)),(.int .i64 (.ofNat 0)),(.int .i64 (.ofNat 0)),(.int .i64 (.ofNat 0)),(.int .i64 (.ofNat 0)),(.int .i64 (.ofNat 0)),(.int .i64 (.ofNat 0)),(.bool false)])]
@[simp] def f137r1:Ω:=[σ 3 (.faddr 2 (.t 1)),σ 4 (.load 1 false (.t 3))]
@[simp] def f137r2:Ω:=[σ 6 (.bin .eql (.t 4) (κ 3)),σ 5 (.mv (.t 6))]
@[simp] def f137r3:Ω:=[σ 7 (.faddr 0 (.t 1)),σ 8 (.load 1 false (.t 7)),σ 9 (.faddr 1 (.t 1)),σ 10 (.load 1 false (.t 9)),σ 11 (.faddr 4 (.t 1)),σ 12 (.load 1 false (.t 11)),σ 13 (.faddr 4 (.t 1)),σ 14 (.load 1 false (.t 13)),σ 15 (.bin .quo (.t 14) (κ 2)),σ 16 (.faddr 4 (.t 1)),σ 17 (.load 1 false (.t 16)),σ 18 (.bin .quo (.t 17) (κ 3)),σ 19 (.build [(.int .i64 (.ofNat 0)),(.int .i64 (.ofNat 0)),(.int .i64 (.ofNat 0)),(.int .i64 (.ofNat 0)),(.int .i64 (.ofNat 0)),(.int .i64 (.ofNat 0)),(.int .i64 (.ofNat 0)),(.bool false)] [(0,1,(κ 2)),(1,1,(.t 8)),(2,1,(.t 10)),(3,1,(.t 12)),(4,1,(.t 15)),(5,1,(.t 18))]),⟨none,.store 8 (.t 2) (.t 19),none⟩]
@[simp] def f137r4:Ω:=[σ 21 (.bin .eql (.t 4) (κ 4)),σ 20 (.mv (.t 21))]
@[simp] def f137r5:Ω:=[σ 22 (.faddr 0 (.t 1)),σ 23 (.load 1 false (.t 22)),σ 24 (.faddr 1 (.t 1)),σ 25 (.load 1 false (.t 24)),σ 26 (.build [(.int .i64 (.ofNat 0)),(.int .i64 (.ofNat 0)),(.int .i64 (.ofNat 0)),(.int .i64 (.ofNat 0)),(.int .i64 (.ofNat 0)),(.int .i64 (.ofNat 0)),(.int .i64 (.ofNat 0)),(.bool false)] [(0,1,(κ 4)),(1,1,(.t 23)),(2,1,(.t 25))]),⟨none,.store 8 (.t 2) (.t 26),none⟩]
@[simp] def f137r6:Ω:=[σ 27 (.faddr 0 (.t 1)),σ 28 (.load 1 false (.t 27)),σ 29 (.faddr 1 (.t 1)),σ 30 (.load 1 false (.t 29)),σ 31 (.faddr 3 (.t 1)),σ 32 (.load 1 false (.t 31)),σ 33 (.call 138 [(.t 32)]),σ 34 (.build [(.int .i64 (.ofNat 0)),(.int .i64 (.ofNat 0)),(.int .i64 (.ofNat 0)),(.int .i64 (.ofNat 0)),(.int .i64 (.ofNat 0)),(.int .i64 (.ofNat 0)),(.int .i64 (.ofNat 0)),(.bool false)] [(0,1,(κ 3)),(1,1,(.t 28)),(2,1,(.t 30)),(3,1,(.t 33)),(6,1,(κ 50)),(7,1,(.c (.bool true)))]),⟨none,.store 8 (.t 2) (.t 34),none⟩]
def f137:RFunc:=⟨[.cell 2 8 true],(.seq (.region f137r0 [1,2]) (.seq (.seq (.region f137r1 [1,2,4]) (.block 0 (.seq (.region f137r2 [1,2,4,5]) (.cond (.t 5) (.seq (.region f137r3 [2]) .ret) (.seq (.region f137r4 [1,2,20]) (.cond (.t 20) (.seq (.region f137r5 [2]) .ret) .skip)))))) (.seq (.dregion f137r6 [] [] [2]) .ret))),true⟩
@[simp] def f138r0:Ω:=[σ 2 (.mv (κ 0))]
@[simp] def f138r1:Ω:=[σ 6 (.mv (.t 0)),σ 7 (.call 17 [(.c (.str [45])),(.t 6)]),σ 5 (.mv (.t 7)),σ 8 (.extract (.t 5) 0),σ 9 (.extract (.t 5) 1),σ 3 (.mv (.t 8)),σ 4 (.mv (.t 9))]
@[simp] def f138r2:Ω:=[σ 10 (.mv (.t 3)),σ 2 (.mv (.t 10))]
def f138:RFunc:=⟨[.t 2],(.seq (.region f138r0 [0]) (.seq (.region f138r1 [3]) (.seq (.region f138r2 [2]) .ret))),true⟩
@[simp] def f139r0:Ω:=[σ 4 (.alloc [(.int .i64 (.ofNat 0)),(.int .i64 (.ofNat 0))]),σ 5 (.mv (κ 0))]
@[simp] def f139r1:Ω:=[σ 7 (.mv (.t 0)),σ 8 (.call 145 [(.t 7)]),σ 6 (.mv (.t 8))]
@[simp] def f139r2:Ω:=[σ 9 (.mv (.t 6)),σ 10 (.bin .neq (.t 9) (κ 0))]
@[simp] def f139r3:Ω:=[σ 11 (.build [(.int .i64 (.ofNat 0)),(.int .i64 (.ofNat 0))] []),σ 12 (.mv (.t 6)),⟨none,.store 2 (.t 4) (.t 11),none⟩,σ 5 (.mv (.t 12))]
@[simp] def f139r4:Ω:=[σ 13 (.mv (.t 1)),σ 14 (.bin .lss (.t 13) (κ 0)),σ 15 (.mv (.t 14)),τ 16 (.mv (.t 1)) 15 false,τ 17 (.bin .gtr (.t 16) (κ 8190)) 15 false,σ 18 (.pick (.t 15) (.c (.bool true)) (.t 17))]
@[simp] def f139r5:Ω:=[σ 19 (.build [(.int .i64 (.ofNat 0)),(.int .i64 (.ofNat 0))] []),⟨none,.store 2 (.t 4) (.t 19),none⟩,σ 5 (.mv (κ 5))]
@[simp] def f139r6:Ω:=[σ 20 (.mv (.t 0)),σ 21 (.mv (.t 1)),σ 22 (.call 146 [(.t 20),(.t 21)]),⟨none,.store 2 (.t 4) (.t 22),none⟩,σ 5 (.mv (κ 0))]
def f139:RFunc:=⟨[.cell 4 2 true,.t 5],(.seq (.region f139r0 [0,1,4]) (.seq (.seq (.region f139r1 [0,1,4,6]) (.seq (.region f139r2 [0,1,4,6,10]) (.cond (.t 10) (.seq (.region f139r3 [4,5]) .ret) .skip))) (.seq (.seq (.region f139r4 [0,1,4,18]) (.cond (.t 18) (.seq (.region f139r5 [4,5]) .ret) .skip)) (.seq (.region f139r6 [4,5]) .ret)))),true⟩
@[simp] def f143r0:Ω:=[σ 0 (.mv (.c .nilp))]
@[simp] def f143r1:Ω:=[σ 4 (.call 148 [(.c (.str [49,116,97,32,49,116,101,32,49,116,105,32,49,116,111,32,49,110,97,32,49,110,101,32,49,110,105,32,49,108,97,32,49,108,101,32,49,108,105,32,49,114,97,32,49,114,101,32,49,109,97,32,49,109,101,32,49,112,97,32,49,112,101,32,49,99,97,32,49,99,111,32,49,100,101,32,49,115,97,32,49,103,101,32,49,98,108,32,116,50,116,101,32,108,50,108,101,32,110,50,110,101,32,114,50,114,101,32,50,98,108,101,46,32,52,108,101,46,32,46,114,101,51,97,32,49,112,104,101]))]),σ 5 (.lit 1 false [(.str [])] 3 [(0,(.c (.str [116,97,45,98,108,101]))),(1,(.c (.str [112,114,111,45,106,101,99,116]))),(2,(.c (.str [104,121,45,112,104,101,110,45,97,45,116,105,111,110])))]),σ 6 (.call 147 [(.t 4),(.t 5)]),σ 3 (.mv (.t 6)),σ 7 (.extract (.t 3) 0),σ 8 (.extract (.t 3) 1),σ 1 (.mv (.t 7)),σ 2 (.mv (.t 8))]
@[simp] def f143r2:Ω:=[σ 9 (.mv (.t 1)),σ 0 (.mv (.t 9))]
def f143:RFunc:=⟨[.t 0],(.seq (.region f143r0 []) (.seq (.region f143r1 [1]) (.seq (.region f143r2 [0]) .ret))),false⟩
@[simp] def f144r0:Ω:=[σ 4 (.mv (.c (.list 0 0 .no false []))),σ 5 (.mv (κ 0))]
@[simp] def f144r1:Ω:=[σ 13 (.mv (.t 0)),σ 14 (.eq .ptr false (.t 13) (.c .nilp)),σ 15 (.mv (.t 14)),τ 16 (.mv (.t 0)) 15 false,τ 17 (.nilchk (.t 16)) 15 false,τ 18 (.faddr 0 (.t 17)) 15 false,τ 19 (.load 1 false (.t 18)) 15 false,τ 20 (.eq .ptr false (.t 19) (.c .nilp)) 15 false,σ 21 (.pick (.t 15) (.c (.bool true)) (.t 20))]
@[simp] def f144r2:Ω:=[σ 4 (.mv (.c (.list 0 0 .no false []))),σ 5 (.mv (κ 1))]
@[simp] def f144r3:Ω:=[σ 23 (.mv (.t 1)),σ 24 (.call 149 [(.t 23)]),σ 22 (.mv (.t 24)),σ 25 (.extract (.t 22) 0),σ 26 (.extract (.t 22) 1),σ 6 (.mv (.t 25)),σ 7 (.mv (.t 26))]
@[simp] def f144r4:Ω:=[σ 27 (.mv (.t 7)),σ 28 (.un .not (.t 27))]
@[simp] def f144r5:Ω:=[σ 4 (.mv (.c (.list 0 0 .no false []))),σ 5 (.mv (κ 4))]
@[simp] def f144r6:Ω:=[σ 30 (.mv (.t 0)),σ 31 (.nilchk (.t 30)),σ 32 (.faddr 1 (.t 31)),σ 33 (.load 1 false (.t 32)),σ 34 (.mv (.t 6)),σ 35 (.lookup [.str] (.list 0 0 .no false []) (.t 33) (.t 34) true),σ 29 (.mv (.t 35)),σ 36 (.extract (.t 29) 0),σ 37 (.extract (.t 29) 1),σ 8 (.mv (.t 36)),σ 9 (.mv (.t 37))]
@[simp] def f144r7:Ω:=[σ 38 (.mv (.t 9))]
@[simp] def f144r8:Ω:=[σ 39 (.mv (.t 8)),σ 40 (.call 150 [(.t 39)]),σ 4 (.mv (.t 40)),σ 5 (.mv (κ 0))]
@[simp] def f144r9:Ω:=[σ 41 (.mv (.t 6)),σ 42 (.len .str (.t 41)),σ 43 (.bin .add (.t 42) (κ 3)),σ 44 (.mkslice 1 false 1 [(.int .u8 (.ofNat 0))] (.t 43) (.t 43)),σ 10 (.mv (.t 44))]
@[simp] def f144r10:Ω:=[σ 45 (.mv (.t 0)),σ 46 (.mv (.t 6)),σ 47 (.bin .add (.c (.str [46])) (.t 46)),σ 48 (.bin .add (.t 47) (.c (.str [46]))),σ 49 (.mv (.t 10)),σ 50 (.mkfn 152 [(.t 49)] []),σ 51 (.call 151 [(.t 45),(.t 48),(.t 50)])]
@[simp] def f144r11:Ω:=[σ 11 (.mv (.c (.list 0 0 .no false [])))]
@[simp] def f144r12:Ω:=[σ 12 (.mv (κ 2))]
@[simp] def f144r13:Ω:=[σ 52 (.mv (.t 12)),σ 53 (.mv (.t 6)),σ 54 (.len .str (.t 53)),σ 55 (.bin .sub (.t 54) (κ 3)),σ 56 (.bin .leq (.t 52) (.t 55))]
@[simp] def f144r14:Ω:=[σ 59 (.mv (.t 10)),σ 60 (.mv (.t 12)),σ 61 (.bin .add (.t 60) (κ 1)),σ 62 (.iaddr 1 (.t 59) (.t 61)),σ 63 (.load 1 false (.t 62)),σ 64 (.bin .rem (.t 63) (.c (.int .u8 (.ofNat 2)))),σ 65 (.bin .eql (.t 64) (.c (.int .u8 (.ofNat 1))))]
@[simp] def f144r15:Ω:=[σ 66 (.mv (.t 11)),σ 67 (.mv (.t 12)),σ 68 (.lit 1 false [(.int .i64 (.ofNat 0))] 1 [(0,(.t 67))]),σ 69 (.append 1 false 8 (.t 66) (.t 68)),σ 11 (.mv (.t 69))]
@[simp] def f144r16:Ω:=[σ 57 (.mv (.t 12)),σ 58 (.bin .add (.t 57) (κ 1)),σ 12 (.mv (.t 58))]
def f144B0:RC:=(.seq (.seq (.region f144r13 [6,10,11,12,56]) (.cond (.t 56) .skip (.exit 0))) (.seq (.block 1 (.seq (.region f144r14 [6,10,11,12,65]) (.cond (.t 65) (.region f144r15 [6,10,11,12]) .skip))) (.region f144r16 [6,10,11,12])))
def f144L0:RC:=.loop [6,10,11,12] f144B0
@[simp] def f144r17:Ω:=[σ 70 (.mv (.t 11)),σ 4 (.mv (.t 70)),σ 5 (.mv (κ 0))]
def f144:RFunc:=⟨[.t 4,.t 5],(.seq (.region f144r0 [0,1]) (.seq (.seq (.region f144r1 [0,1,21]) (.cond (.t 21) (.seq (.region f144r2 [4,5]) .ret) .skip)) (.seq (.region f144r3 [0,6,7]) (.seq (.seq (.region f144r4 [0,6,28]) (.cond (.t 28) (.seq (.region f144r5 [4,5]) .ret) .skip)) (.seq (.seq (.region f144r6 [0,6,8,9]) (.seq (.region f144r7 [0,6,8,38]) (.cond (.t 38) (.seq (.region f144r8 [4,5]) .ret) .skip))) (.seq (.region f144r9 [0,6,10]) (.seq (.region f144r10 [6,10]) (.seq (.region f144r11 [6,10,11]) (.seq (.seq (.region f144r12 [6,10,11,12]) (.block 0 f144L0)) (.seq (.region f144r17 [4,5]) .ret)))))))))),false⟩
@[simp] def f145r0:Ω:=[σ 2 (.mv (κ 0))]
@[simp] def f145r1:Ω:=[σ 6 (.mv (.t 0)),σ 7 (.len .slice (.t 6)),σ 8 (.bin .gtr (.t 7) (κ 16))]
@[simp] def f145r2:Ω:=[σ 2 (.mv (κ 2))]
@[simp] def f145r3:Ω:=[σ 3 (.mv (κ 0))]
@[simp] def f145r4:Ω:=[σ 9 (.mv (.t 0)),σ 10 (.len .slice (.t 9)),σ 11 (.mv (κ 0))]
@[simp] def f145r5:Ω:=[σ 12 (.bin .lss (.t 11) (.t 10))]
@[simp] def f145r6:Ω:=[σ 13 (.iaddr 2 (.t 9) (.t 11)),σ 14 (.load 2 true (.t 13)),σ 5 (.alloc [(.int .i64 (.ofNat 0)),(.int .i64 (.ofNat 0))]),⟨none,.store 2 (.t 5) (.t 14),none⟩]
@[simp] def f145r7:Ω:=[σ 15 (.faddr 0 (.t 5)),σ 16 (.load 1 false (.t 15)),σ 17 (.mv (.t 3)),σ 18 (.bin .leq (.t 16) (.t 17)),σ 19 (.mv (.t 18)),τ 20 (.faddr 0 (.t 5)) 19 false,τ 21 (.load 1 false (.t 20)) 19 false,τ 22 (.bin .gtr (.t 21) (κ 4095)) 19 false,σ 23 (.pick (.t 19) (.c (.bool true)) (.t 22)),σ 24 (.mv (.t 23)),τ 25 (.faddr 1 (.t 5)) 24 false,τ 26 (.load 1 false (.t 25)) 24 false,τ 27 (.bin .neq (.t 26) (κ 0)) 24 false,τ 28 (.mv (.t 27)) 24 false,τ 29 (.faddr 1 (.t 5)) 28 true,τ 30 (.load 1 false (.t 29)) 28 true,τ 31 (.bin .neq (.t 30) (κ 2)) 28 true,τ 32 (.pick (.t 28) (.t 31) (.c (.bool false))) 24 false,τ 33 (.mv (.t 32)) 24 false,τ 34 (.faddr 1 (.t 5)) 33 true,τ 35 (.load 1 false (.t 34)) 33 true,τ 36 (.bin .neq (.t 35) (κ 3)) 33 true,τ 37 (.pick (.t 33) (.t 36) (.c (.bool false))) 24 false,σ 38 (.pick (.t 24) (.c (.bool true)) (.t 37))]
@[simp] def f145r8:Ω:=[σ 2 (.mv (κ 2))]
@[simp] def f145r9:Ω:=[σ 39 (.faddr 0 (.t 5)),σ 40 (.load 1 false (.t 39)),σ 3 (.mv (.t 40))]
@[simp] def f145r10:Ω:=[σ 41 (.bin .add (.t 11) (κ 1)),σ 11 (.mv (.t 41))]
def f145B0:RC:=(.seq (.region f145r5 [3,9,10,11,12]) (.seq (.cond (.t 12) .skip (.exit 0)) (.seq (.block 1 (.seq (.region f145r6 [3,5,9,10,11]) (.seq (.seq (.region f145r7 [5,9,10,11,38]) (.cond (.t 38) (.seq (.region f145r8 [2]) .ret) .skip)) (.region f145r9 [3,9,10,11])))) (.region f145r10 [3,9,10,11]))))
def f145L0:RC:=.loop [3,9,10,11] f145B0
@[simp] def f145r11:Ω:=[σ 2 (.mv (κ 0))]
def f145:RFunc:=⟨[.t 2],(.seq (.region f145r0 [0]) (.seq (.seq (.region f145r1 [0,8]) (.cond (.t 8) (.seq (.region f145r2 [2]) .ret) .skip)) (.seq (.region f145r3 [0,3]) (.seq (.seq (.region f145r4 [3,9,10,11]) (.block 0 f145L0)) (.seq (.region f145r11 [2]) .ret))))),true⟩
@[simp] def f146r0:Ω:=[σ 4 (.alloc [(.int .i64 (.ofNat 0)),(.int .i64 (.ofNat 0))])]
@[simp] def f146r1:Ω:=[σ 8 (.mv (.t 0)),σ 9 (.mv (.t 1)),σ 10 (.bin .add (.t 9) (κ 1)),σ 11 (.call 153 [(.t 8),(.t 10),(.f 154)]),σ 7 (.mv (.t 11)),σ 12 (.extract (.t 7) 0),σ 13 (.extract (.t 7) 1),σ 5 (.mv (.t 12)),σ 6 (.mv (.t 13))]
@[simp] def f146r2:Ω:=[σ 14 (.mv (.t 5)),σ 15 (.mv (.t 0)),σ 16 (.len .slice (.t 15)),σ 17 (.bin .lss (.t 14) (.t 16))]
@[simp] def f146r3:Ω:=[σ 18 (.mv (.t 0)),σ 19 (.mv (.t 5)),σ 20 (.iaddr 2 (.t 18) (.t 19)),σ 21 (.load 2 true (.t 20)),⟨none,.store 2 (.t 4) (.t 21),none⟩]
@[simp] def f146r4:Ω:=[σ 22 (.mv (.t 1)),σ 23 (.bin .quo (.t 22) (κ 48)),σ 24 (.bin .add (.t 23) (κ 1)),σ 25 (.bin .mul (.t 24) (κ 48)),σ 26 (.build [(.int .i64 (.ofNat 0)),(.int .i64 (.ofNat 0))] [(0,1,(.t 25))]),⟨none,.store 2 (.t 4) (.t 26),none⟩]
def f146:RFunc:=⟨[.cell 4 2 true],(.seq (.region f146r0 [0,1,4]) (.seq (.region f146r1 [0,1,4,5]) (.seq (.seq (.region f146r2 [0,1,4,5,17]) (.cond (.t 17) (.seq (.region f146r3 [4]) .ret) .skip)) (.seq (.region f146r4 [4]) .ret)))),true⟩
@[simp] def f147r0:Ω:=[σ 4 (.mv (.c .nilp)),σ 5 (.mv (κ 0))]
@[simp] def f147r1:Ω:=[σ 20 (.mv (.t 0)),σ 21 (.len .slice (.t 20)),σ 22 (.bin .gtr (.t 21) (κ 256)),σ 23 (.mv (.t 22)),τ 24 (.mv (.t 1)) 23 false,τ 25 (.len .slice (.t 24)) 23 false,τ 26 (.bin .gtr (.t 25) (κ 64)) 23 false,σ 27 (.pick (.t 23) (.c (.bool true)) (.t 26))]
@[simp] def f147r2:Ω:=[σ 4 (.mv (.c .nilp)),σ 5 (.mv (κ 3))]
@[simp] def f147r3:Ω:=[σ 28 (.build [.nilmap,(.list 0 0 .no false [])] []),σ 29 (.box 2 (.t 28)),σ 30 .mkmap,σ 31 (.build [.nilp,.nilmap] [(0,1,(.t 29)),(1,1,(.t 30))]),σ 32 (.box 2 (.t 31)),σ 6 (.mv (.t 32))]
@[simp] def f147r4:Ω:=[σ 33 (.mv (.t 0)),σ 34 (.len .slice (.t 33)),σ 35 (.mv (κ 0))]
@[simp] def f147r5:Ω:=[σ 36 (.bin .lss (.t 35) (.t 34))]
@[simp] def f147r6:Ω:=[σ 37 (.iaddr 1 (.t 33) (.t 35)),σ 38 (.load 1 false (.t 37)),σ 8 (.mv (.t 38))]
@[simp] def f147r7:Ω:=[σ 40 (.mv (.t 8)),σ 41 (.call 156 [(.t 40)]),σ 39 (.mv (.t 41)),σ 42 (.extract (.t 39) 0),σ 43 (.extract (.t 39) 1),σ 44 (.extract (.t 39) 2),σ 9 (.mv (.t 42)),σ 10 (.mv (.t 43)),σ 11 (.mv (.t 44))]
@[simp] def f147r8:Ω:=[σ 45 (.mv (.t 11)),σ 46 (.un .not (.t 45))]
@[simp] def f147r9:Ω:=[σ 4 (.mv (.c .nilp)),σ 5 (.mv (κ 4))]
@[simp] def f147r10:Ω:=[σ 47 (.mv (.t 6)),σ 48 (.nilchk (.t 47)),σ 49 (.faddr 0 (.t 48)),σ 50 (.load 1 false (.t 49)),σ 51 (.mv (.t 9)),σ 52 (.mv (.t 10)),σ 53 (.call 157 [(.t 50),(.t 51),(.t 52)])]
@[simp] def f147r11:Ω:=[σ 54 (.bin .add (.t 35) (κ 1)),σ 35 (.mv (.t 54))]
def f147B0:RC:=(.seq (.region f147r5 [1,6,33,34,35,36]) (.seq (.cond (.t 36) .skip (.exit 0)) (.seq (.block 1 (.seq (.region f147r6 [1,6,8,33,34,35]) (.seq (.region f147r7 [1,6,9,10,11,33,34,35]) (.seq (.seq (.region f147r8 [1,6,9,10,33,34,35,46]) (.cond (.t 46) (.seq (.region f147r9 [4,5]) .ret) .skip)) (.region f147r10 [1,6,33,34,35]))))) (.region f147r11 [1,6,33,34,35]))))
def f147L0:RC:=.loop [1,6,33,34,35] f147B0
@[simp] def f147r12:Ω:=[σ 12 (.mv (.c (.bool false)))]
@[simp] def f147r13:Ω:=[σ 55 (.mv (.t 1)),σ 56 (.len .slice (.t 55)),σ 57 (.mv (κ 0))]
@[simp] def f147r14:Ω:=[σ 58 (.bin .lss (.t 57) (.t 56))]
@[simp] def f147r15:Ω:=[σ 59 (.iaddr 1 (.t 55) (.t 57)),σ 60 (.load 1 false (.t 59)),σ 14 (.mv (.t 60))]
@[simp] def f147r16:Ω:=[σ 62 (.mv (.t 14)),σ 63 (.call 158 [(.t 62)]),σ 61 (.mv (.t 63)),σ 64 (.extract (.t 61) 0),σ 65 (.extract (.t 61) 1),σ 66 (.extract (.t 61) 2),σ 15 (.mv (.t 64)),σ 16 (.mv (.t 65)),σ 17 (.mv (.t 66))]
@[simp] def f147r17:Ω:=[σ 67 (.mv (.t 17)),σ 68 (.un .not (.t 67))]
@[simp] def f147r18:Ω:=[σ 4 (.mv (.c .nilp)),σ 5 (.mv (κ 4))]
@[simp] def f147r19:Ω:=[σ 70 (.mv (.t 6)),σ 71 (.nilchk (.t 70)),σ 72 (.faddr 1 (.t 71)),σ 73 (.load 1 false (.t 72)),σ 74 (.mv (.t 15)),σ 75 (.lookup [.str] (.list 0 0 .no false []) (.t 73) (.t 74) true),σ 69 (.mv (.t 75)),σ 76 (.extract (.t 69) 0),σ 77 (.extract (.t 69) 1),σ 18 (.mv (.t 76)),σ 19 (.mv (.t 77))]
@[simp] def f147r20:Ω:=[σ 78 (.mv (.t 12)),σ 79 (.mv (.t 78)),τ 80 (.mv (.t 19)) 79 false,σ 81 (.pick (.t 79) (.c (.bool true)) (.t 80)),σ 12 (.mv (.t 81))]
@[simp] def f147r21:Ω:=[σ 82 (.mv (.t 6)),σ 83 (.nilchk (.t 82)),σ 84 (.faddr 1 (.t 83)),σ 85 (.load 1 false (.t 84)),σ 86 (.mv (.t 15)),σ 87 (.mv (.t 16)),⟨none,.mapset [.str] (.t 85) (.t 86) (.t 87),none⟩]
@[simp] def f147r22:Ω:=[σ 88 (.bin .add (.t 57) (κ 1)),σ 57 (.mv (.t 88))]
def f147B1:RC:=(.seq (.region f147r14 [6,12,55,56,57,58]) (.seq (.cond (.t 58) .skip (.exit 2)) (.seq (.block 3 (.seq (.region f147r15 [6,12,14,55,56,57]) (.seq (.region f147r16 [6,12,15,16,17,55,56,57]) (.seq (.seq (.region f147r17 [6,12,15,16,55,56,57,68]) (.cond (.t 68) (.seq (.region f147r18 [4,5]) .ret) .skip)) (.seq (.region f147r19 [6,12,15,16,19,55,56,57]) (.seq (.region f147r20 [6,12,15,16,55,56,57]) (.region f147r21 [6,12,55,56,57]))))))) (.region f147r22 [6,12,55,56,57]))))
def f147L1:RC:=.loop [6,12,55,56,57] f147B1
@[simp] def f147r23:Ω:=[σ 89 (.mv (.t 12))]
@[simp] def f147r24:Ω:=[σ 4 (.mv (.c .nilp)),σ 5 (.mv (κ 7))]
@[simp] def f147r25:Ω:=[σ 90 (.mv (.t 6)),σ 4 (.mv (.t 90)),σ 5 (.mv (κ 0))]
def f147:RFunc:=⟨[.t 4,.t 5],(.seq (.region f147r0 [0,1]) (.seq (.seq (.region f147r1 [0,1,27]) (.cond (.t 27) (.seq (.region f147r2 [4,5]) .ret) .skip)) (.seq (.region f147r3 [0,1,6]) (.seq (.seq (.region f147r4 [1,6,33,34,35]) (.block 0 f147L0)) (.seq (.region f147r12 [1,6,12]) (.seq (.seq (.region f147r13 [6,12,55,56,57]) (.block 2 f147L1)) (.seq (.seq (.region f147r23 [6,89]) (.cond (.t 89) (.seq (.region f147r24 [4,5]) .ret) .skip)) (.seq (.region f147r25 [4,5]) .ret)))))))),false⟩
@[simp] def f148r0:Ω:=[σ 2 (.mv (.c (.list 0 0 .no false [])))]
@[simp] def f148r1:Ω:=[σ 3 (.mv (κ 0))]
@[simp] def f148r2:Ω:=[σ 4 (.mv (κ 1))]
@[simp] def f148r3:Ω:=[σ 5 (.mv (.c (.int .u8 (.ofNat 0))))]
@[simp] def f148r4:Ω:=[σ 6 (.mv (κ 0))]
@[simp] def f148r5:Ω:=[σ 13 (.mv (.t 6)),σ 14 (.mv (.t 0)),σ 15 (.len .str (.t 14)),σ 16 (.bin .lss (.t 13) (.t 15))]
@[simp] def f148r6:Ω:=[σ 19 (.mv (.t 0)),σ 20 (.mv (.t 6)),σ 21 (.index (.t 19) (.t 20)),σ 7 (.mv (.t 21))]
@[simp] def f148r7:Ω:=[σ 22 (.mv (.t 5)),σ 23 (.mv (.t 7)),σ 24 (.bin .or (.t 22) (.t 23)),σ 5 (.mv (.t 24))]
@[simp] def f148r8:Ω:=[σ 25 (.mv (.t 7)),σ 26 (.iaddrA 1 256 (.c asciiSpaceD) (.t 25)),σ 27 (.load 1 false (.t 26)),σ 28 (.i2i .i64 (.t 27)),σ 8 (.mv (.t 28))]
@[simp] def f148r9:Ω:=[σ 29 (.mv (.t 3)),σ 30 (.mv (.t 4)),σ 31 (.mv (.t 8)),σ 32 (.un .xor (.t 31)),σ 33 (.bin .and (.t 30) (.t 32)),σ 34 (.bin .add (.t 29) (.t 33)),σ 3 (.mv (.t 34))]
@[simp] def f148r10:Ω:=[σ 35 (.mv (.t 8)),σ 4 (.mv (.t 35))]
@[simp] def f148r11:Ω:=[σ 17 (.mv (.t 6)),σ 18 (.bin .add (.t 17) (κ 1)),σ 6 (.mv (.t 18))]
def f148B0:RC:=(.seq (.seq (.region f148r5 [0,3,4,5,6,16]) (.cond (.t 16) .skip (.exit 0))) (.seq (.block 1 (.seq (.region f148r6 [0,3,4,5,6,7]) (.seq (.region f148r7 [0,3,4,5,6,7]) (.seq (.region f148r8 [0,3,4,5,6,8]) (.seq (.region f148r9 [0,3,5,6,8]) (.region f148r10 [0,3,4,5,6])))))) (.region f148r11 [0,3,4,5,6])))
def f148L0:RC:=.loop [0,3,4,5,6] f148B0
@[simp] def f148r12:Ω:=[σ 36 (.mv (.t 5)),σ 37 (.bin .geq (.t 36) (.c (.int .u8 (.ofNat 128))))]
@[simp] def f148r13:Ω:=[σ 38 (.mv (.t 0)),σ 39 (.call 159 [(.t 38),(.f 160)]),σ 2 (.mv (.t 39))]
@[simp] def f148r14:Ω:=[σ 40 (.mv (.t 3)),σ 41 (.mkslice 1 false 16 [(.str [])] (.t 40) (.t 40)),σ 9 (.mv (.t 41))]
@[simp] def f148r15:Ω:=[σ 10 (.mv (κ 0))]
@[simp] def f148r16:Ω:=[σ 11 (.mv (κ 0))]
@[simp] def f148r17:Ω:=[σ 12 (.mv (κ 0))]
@[simp] def f148r18:Ω:=[σ 42 (.mv (.t 12)),σ 43 (.mv (.t 0)),σ 44 (.len .str (.t 43)),σ 45 (.bin .lss (.t 42) (.t 44)),σ 46 (.mv (.t 45)),τ 47 (.mv (.t 0)) 46 true,τ 48 (.mv (.t 12)) 46 true,τ 49 (.index (.t 47) (.t 48)) 46 true,τ 50 (.iaddrA 1 256 (.c asciiSpaceD) (.t 49)) 46 true,τ 51 (.load 1 false (.t 50)) 46 true,τ 52 (.bin .neq (.t 51) (.c (.int .u8 (.ofNat 0)))) 46 true,σ 53 (.pick (.t 46) (.t 52) (.c (.bool false)))]
@[simp] def f148r19:Ω:=[σ 54 (.mv (.t 12)),σ 55 (.bin .add (.t 54) (κ 1)),σ 12 (.mv (.t 55))]
def f148B1:RC:=(.seq (.seq (.region f148r18 [0,9,10,12,53]) (.cond (.t 53) .skip (.exit 2))) (.block 3 (.region f148r19 [0,9,10,12])))
def f148L1:RC:=.loop [0,9,10,12] f148B1
@[simp] def f148r20:Ω:=[σ 56 (.mv (.t 12)),σ 11 (.mv (.t 56))]
@[simp] def f148r21:Ω:=[σ 57 (.mv (.t 12)),σ 58 (.mv (.t 0)),σ 59 (.len .str (.t 58)),σ 60 (.bin .lss (.t 57) (.t 59))]
@[simp] def f148r22:Ω:=[σ 61 (.mv (.t 0)),σ 62 (.mv (.t 12)),σ 63 (.index (.t 61) (.t 62)),σ 64 (.iaddrA 1 256 (.c asciiSpaceD) (.t 63)),σ 65 (.load 1 false (.t 64)),σ 66 (.bin .eql (.t 65) (.c (.int .u8 (.ofNat 0))))]
@[simp] def f148r23:Ω:=[σ 67 (.mv (.t 12)),σ 68 (.bin .add (.t 67) (κ 1)),σ 12 (.mv (.t 68))]
@[simp] def f148r24:Ω:=[σ 69 (.mv (.t 9)),σ 70 (.mv (.t 10)),σ 71 (.mv (.t 0)),σ 72 (.mv (.t 11)),σ 73 (.mv (.t 12)),σ 74 (.slice true 1 (.t 71) (some (.t 72)) (some (.t 73)) none),σ 75 (.iaddr 1 (.t 69) (.t 70)),⟨none,.store 1 (.t 75) (.t 74),none⟩]
@[simp] def f148r25:Ω:=[σ 76 (.mv (.t 10)),σ 77 (.bin .add (.t 76) (κ 1)),σ 10 (.mv (.t 77))]
@[simp] def f148r26:Ω:=[σ 78 (.mv (.t 12)),σ 79 (.bin .add (.t 78) (κ 1)),σ 12 (.mv (.t 79))]
@[simp] def f148r27:Ω:=[σ 80 (.mv (.t 12)),σ 81 (.mv (.t 0)),σ 82 (.len .str (.t 81)),σ 83 (.bin .lss (.t 80) (.t 82)),σ 84 (.mv (.t 83)),τ 85 (.mv (.t 0)) 84 true,τ 86 (.mv (.t 12)) 84 true,τ 87 (.index (.t 85) (.t 86)) 84 true,τ 88 (.iaddrA 1 256 (.c asciiSpaceD) (.t 87)) 84 true,τ 89 (.load 1 false (.t 88)) 84 true,τ 90 (.bin .neq (.t 89) (.c (.int .u8 (.ofNat 0)))) 84 true,σ 91 (.pick (.t 84) (.t 90) (.c (.bool false)))]
@[simp] def f148r28:Ω:=[σ 92 (.mv (.t 12)),σ 93 (.bin .add (.t 92) (κ 1)),σ 12 (.mv (.t 93))]
def f148B2:RC:=(.seq (.seq (.region f148r27 [0,9,10,12,91]) (.cond (.t 91) .skip (.exit 6))) (.block 7 (.region f148r28 [0,9,10,12])))
def f148L2:RC:=.loop [0,9,10,12] f148B2
@[simp] def f148r29:Ω:=[σ 94 (.mv (.t 12)),σ 11 (.mv (.t 94))]
def f148B3:RC:=(.seq (.seq (.region f148r21 [0,9,10,11,12,60]) (.cond (.t 60) .skip (.exit 4))) (.block 5 (.seq (.seq (.region f148r22 [0,9,10,11,12,66]) (.cond (.t 66) (.seq (.region f148r23 [0,9,10,11,12]) (.exit 5)) .skip)) (.seq (.region f148r24 [0,9,10,12]) (.seq (.region f148r25 [0,9,10,12]) (.seq (.region f148r26 [0,9,10,12]) (.seq (.block 6 f148L2) (.region f148r29 [0,9,10,11,12]))))))))
def f148L3:RC:=.loop [0,9,10,11,12] f148B3
@[simp] def f148r30:Ω:=[σ 95 (.mv (.t 11)),σ 96 (.mv (.t 0)),σ 97 (.len .str (.t 96)),σ 98 (.bin .lss (.t 95) (.t 97))]
@[simp] def f148r31:Ω:=[σ 99 (.mv (.t 9)),σ 100 (.mv (.t 10)),σ 101 (.mv (.t 0)),σ 102 (.mv (.t 11)),σ 103 (.slice true 1 (.t 101) (some (.t 102)) none none),σ 104 (.iaddr 1 (.t 99) (.t 100)),⟨none,.store 1 (.t 104) (.t 103),none⟩]
@[simp] def f148r32:Ω:=[σ 105 (.mv (.t 9)),σ 2 (.mv (.t 105))]
def f148:RFunc:=⟨[.t 2],(.seq (.region f148r0 [0]) (.seq (.region f148r1 [0,3]) (.seq (.region f148r2 [0,3,4]) (.seq (.region f148r3 [0,3,4,5]) (.seq (.seq (.region f148r4 [0,3,4,5,6]) (.block 0 f148L0)) (.seq (.seq (.region f148r12 [0,3,37]) (.cond (.t 37) (.seq (.region f148r13 [2]) .ret) .skip)) (.seq (.region f148r14 [0,9]) (.seq (.region f148r15 [0,9,10]) (.seq (.region f148r16 [0,9,10]) (.seq (.region f148r17 [0,9,10,12]) (.seq (.block 2 f148L1) (.seq (.region f148r20 [0,9,10,11,12]) (.seq (.block 4 f148L3) (.seq (.seq (.region f148r30 [0,9,10,11,98]) (.cond (.t 98) (.region f148r31 [9]) .skip)) (.seq (.region f148r32 [2]) .ret))))))))))))))),true⟩
@[simp] def f149r0:Ω:=[σ 2 (.mv (.c (.str []))),σ 3 (.mv (.c (.bool false)))]
@[simp] def f149r1:Ω:=[σ 7 (.mv (.t 0)),σ 8 (.len .str (.t 7)),σ 9 (.bin .lss (.t 8) (κ 1)),σ 10 (.mv (.t 9)),τ 11 (.mv (.t 0)) 10 false,τ 12 (.len .str (.t 11)) 10 false,τ 13 (.bin .gtr (.t 12) (κ 64)) 10 false,σ 14 (.pick (.t 10) (.c (.bool true)) (.t 13))]
@[simp] def f149r2:Ω:=[σ 2 (.mv (.c (.str []))),σ 3 (.mv (.c (.bool false)))]
@[simp] def f149r3:Ω:=[σ 15 (.mv (.t 0)),σ 16 (.s2h (.t 15)),σ 4 (.mv (.t 16))]
@[simp] def f149r4:Ω:=[σ 17 (.mv (.t 4)),σ 18 (.len .slice (.t 17)),σ 19 (.mv (κ 0))]
@[simp] def f149r5:Ω:=[σ 20 (.bin .lss (.t 19) (.t 18))]
@[simp] def f149r6:Ω:=[σ 21 (.mv (.t 19)),σ 22 (.iaddr 1 (.t 17) (.t 19)),σ 23 (.load 1 false (.t 22)),σ 5 (.mv (.t 21)),σ 6 (.mv (.t 23))]
@[simp] def f149r7:Ω:=[σ 24 (.mv (.t 6)),σ 25 (.bin .geq (.t 24) (.c (.int .u8 (.ofNat 65)))),σ 26 (.mv (.t 25)),τ 27 (.mv (.t 6)) 26 true,τ 28 (.bin .leq (.t 27) (.c (.int .u8 (.ofNat 90)))) 26 true,σ 29 (.pick (.t 26) (.t 28) (.c (.bool false)))]
@[simp] def f149r8:Ω:=[σ 30 (.mv (.t 4)),σ 31 (.mv (.t 5)),σ 32 (.mv (.t 6)),σ 33 (.bin .add (.t 32) (.c (.int .u8 (.ofNat 97)))),σ 34 (.bin .sub (.t 33) (.c (.int .u8 (.ofNat 65)))),σ 35 (.iaddr 1 (.t 30) (.t 31)),⟨none,.store 1 (.t 35) (.t 34),none⟩]
@[simp] def f149r9:Ω:=[σ 36 (.mv (.t 4)),σ 37 (.mv (.t 5)),σ 38 (.iaddr 1 (.t 36) (.t 37)),σ 39 (.load 1 false (.t 38)),σ 40 (.call 161 [(.t 39)]),σ 41 (.un .not (.t 40))]
@[simp] def f149r10:Ω:=[σ 2 (.mv (.c (.str []))),σ 3 (.mv (.c (.bool false)))]
@[simp] def f149r11:Ω:=[σ 42 (.bin .add (.t 19) (κ 1)),σ 19 (.mv (.t 42))]
def f149B0:RC:=(.seq (.region f149r5 [4,17,18,19,20]) (.seq (.cond (.t 20) .skip (.exit 0)) (.seq (.block 1 (.seq (.region f149r6 [4,5,6,17,18,19]) (.seq (.seq (.region f149r7 [4,5,6,17,18,19,29]) (.cond (.t 29) (.region f149r8 [4,5,17,18,19]) .skip)) (.seq (.region f149r9 [4,17,18,19,41]) (.cond (.t 41) (.seq (.region f149r10 [2,3]) .ret) .skip))))) (.region f149r11 [4,17,18,19]))))
def f149L0:RC:=.loop [4,17,18,19] f149B0
@[simp] def f149r12:Ω:=[σ 43 (.mv (.t 4)),σ 44 (.b2s (.t 43)),σ 2 (.mv (.t 44)),σ 3 (.mv (.c (.bool true)))]
def f149:RFunc:=⟨[.t 2,.t 3],(.seq (.region f149r0 [0]) (.seq (.seq (.region f149r1 [0,14]) (.cond (.t 14) (.seq (.region f149r2 [2,3]) .ret) .skip)) (.seq (.region f149r3 [4]) (.seq (.seq (.region f149r4 [4,17,18,19]) (.block 0 f149L0)) (.seq (.region f149r12 [2,3]) .ret))))),true⟩
@[simp] def f150r0:Ω:=[σ 2 (.mv (.c (.list 0 0 .no false [])))]
@[simp] def f150r1:Ω:=[σ 3 (.mv (.t 0)),σ 4 (.eq .slice false (.t 3) (.c (.list 0 0 .no false [])))]
@[simp] def f150r2:Ω:=[σ 2 (.mv (.c (.list 0 0 .no false [])))]
@[simp] def f150r3:Ω:=[σ 5 (.lit 1 false [(.int .i64 (.ofNat 0))] 0 []),σ 6 (.mv (.t 0)),σ 7 (.append 1 false 8 (.t 5) (.t 6)),σ 2 (.mv (.t 7))]
def f150:RFunc:=⟨[.t 2],(.seq (.region f150r0 [0]) (.seq (.seq (.region f150r1 [0,4]) (.cond (.t 4) (.seq (.region f150r2 [2]) .ret) .skip)) (.seq (.region f150r3 [2]) .ret))),true⟩
@[simp] def f151r0:Ω:=[σ 10 (.mv (.t 1)),σ 11 (.len .str (.t 10)),σ 12 (.mv (κ 0))]
@[simp] def f151r1:Ω:=[σ 13 (.bin .lss (.t 12) (.t 11))]
@[simp] def f151r2:Ω:=[σ 14 (.mv (.t 12)),σ 6 (.mv (.t 14))]
@[simp] def f151r3:Ω:=[σ 15 (.mv (.t 0)),σ 16 (.nilchk (.t 15)),σ 17 (.faddr 0 (.t 16)),σ 18 (.load 1 false (.t 17)),σ 7 (.mv (.t 18))]
@[simp] def f151r4:Ω:=[σ 19 (.mv (.t 1)),σ 20 (.mv (.t 6)),σ 21 (.slice true 1 (.t 19) (some (.t 20)) none none),σ 22 (.s2b (.t 21)),σ 23 (.len .slice (.t 22)),σ 24 (.mv (κ 0))]
@[simp] def f151r5:Ω:=[σ 25 (.bin .lss (.t 24) (.t 23))]
@[simp] def f151r6:Ω:=[σ 26 (.iaddr 1 (.t 22) (.t 24)),σ 27 (.load 1 false (.t 26)),σ 9 (.mv (.t 27))]
@[simp] def f151r7:Ω:=[σ 28 (.mv (.t 7)),σ 29 (.nilchk (.t 28)),σ 30 (.faddr 0 (.t 29)),σ 31 (.load 1 false (.t 30)),σ 32 (.mv (.t 9)),σ 33 (.lookup [.int] .nilp (.t 31) (.t 32) false),σ 7 (.mv (.t 33))]
@[simp] def f151r8:Ω:=[σ 34 (.mv (.t 7)),σ 35 (.eq .ptr false (.t 34) (.c .nilp))]
@[simp] def f151r9:Ω:=[σ 36 (.mv (.t 7)),σ 37 (.nilchk (.t 36)),σ 38 (.faddr 1 (.t 37)),σ 39 (.load 1 false (.t 38)),σ 40 (.eq .slice true (.t 39) (.c (.list 0 0 .no false [])))]
@[simp] def f151r10:Ω:=[σ 41 (.mv (.t 2)),σ 42 (.mv (.t 6)),σ 43 (.mv (.t 7)),σ 44 (.nilchk (.t 43)),σ 45 (.faddr 1 (.t 44)),σ 46 (.load 1 false (.t 45)),σ 47 (.callv (.t 41) [(.t 42),(.t 46)])]
@[simp] def f151r11:Ω:=[σ 48 (.bin .add (.t 24) (κ 1)),σ 24 (.mv (.t 48))]
def f151B0:RC:=(.seq (.region f151r5 [0,1,2,6,7,11,12,22,23,24,25]) (.seq (.cond (.t 25) .skip (.exit 2)) (.seq (.block 3 (.seq (.region f151r6 [0,1,2,6,7,9,11,12,22,23,24]) (.seq (.region f151r7 [0,1,2,6,7,11,12,22,23,24]) (.seq (.seq (.region f151r8 [0,1,2,6,7,11,12,22,23,24,35]) (.cond (.t 35) (.exit 2) .skip)) (.seq (.region f151r9 [0,1,2,6,7,11,12,22,23,24,40]) (.cond (.t 40) (.region f151r10 [0,1,2,6,7,11,12,22,23,24]) .skip)))))) (.region f151r11 [0,1,2,6,7,11,12,22,23,24]))))
def f151L0:RC:=.loop [0,1,2,6,7,11,12,22,23,24] f151B0
@[simp] def f151r12:Ω:=[σ 49 (.bin .add (.t 12) (κ 1)),σ 12 (.mv (.t 49))]
def f151B1:RC:=(.seq (.region f151r1 [0,1,2,11,12,13]) (.seq (.cond (.t 13) .skip (.exit 0)) (.seq (.block 1 (.seq (.region f151r2 [0,1,2,6,11,12]) (.seq (.region f151r3 [0,1,2,6,7,11,12]) (.seq (.region f151r4 [0,1,2,6,7,11,12,22,23,24]) (.block 2 f151L0))))) (.region f151r12 [0,1,2,11,12]))))
def f151L1:RC:=.loop [0,1,2,11,12] f151B1
def f151:RFunc:=⟨[],(.seq (.region f151r0 [0,1,2,11,12]) (.block 0 f151L1)),false⟩
@[simp] def f152r0:Ω:=[σ 8 (.mv (.t 2)),σ 9 (.len .slice (.t 8)),σ 10 (.mv (κ 0))]
@[simp] def f152r1:Ω:=[σ 11 (.bin .lss (.t 10) (.t 9))]
@[simp] def f152r2:Ω:=[σ 12 (.mv (.t 10)),σ 13 (.iaddr 1 (.t 8) (.t 10)),σ 14 (.load 1 false (.t 13)),σ 6 (.mv (.t 12)),σ 7 (.mv (.t 14))]
@[simp] def f152r3:Ω:=[σ 15 (.mv (.t 0)),σ 16 (.mv (.t 1)),σ 17 (.mv (.t 6)),σ 18 (.bin .add (.t 16) (.t 17)),σ 19 (.mv (.t 0)),σ 20 (.mv (.t 1)),σ 21 (.mv (.t 6)),σ 22 (.bin .add (.t 20) (.t 21)),σ 23 (.iaddr 1 (.t 19) (.t 22)),σ 24 (.load 1 false (.t 23)),σ 25 (.mv (.t 7)),σ 26 (.max [(.t 24),(.t 25)]),σ 27 (.iaddr 1 (.t 15) (.t 18)),⟨none,.store 1 (.t 27) (.t 26),none⟩]
@[simp] def f152r4:Ω:=[σ 28 (.bin .add (.t 10) (κ 1)),σ 10 (.mv (.t 28))]
def f152B0:RC:=(.seq (.region f152r1 [0,1,8,9,10,11]) (.seq (.cond (.t 11) .skip (.exit 0)) (.seq (.block 1 (.seq (.region f152r2 [0,1,6,7,8,9,10]) (.region f152r3 [0,1,8,9,10]))) (.region f152r4 [0,1,8,9,10]))))
def f152L0:RC:=.loop [0,1,8,9,10] f152B0
def f152:RFunc:=⟨[],(.seq (.region f152r0 [0,1,8,9,10]) (.block 0 f152L0)),false⟩
@[simp] def f153r0:Ω:=[σ 6 (.mv (κ 0)),σ 7 (.mv (.c (.bool false)))]
@[simp] def f153r1:Ω:=[σ 12 (.mv (.t 0)),σ 13 (.len .slice (.t 12)),σ 8 (.mv (.t 13))]
@[simp] def f153r2:Ω:=[σ 14 (.mv (.t 8)),σ 9 (.mv (κ 0)),σ 10 (.mv (.t 14))]
@[simp] def f153r3:Ω:=[σ 15 (.mv (.t 9)),σ 16 (.mv (.t 10)),σ 17 (.bin .lss (.t 15) (.t 16))]
@[simp] def f153r4:Ω:=[σ 18 (.mv (.t 9)),σ 19 (.mv (.t 10)),σ 20 (.bin .add (.t 18) (.t 19)),σ 21 (.i2i .u64 (.t 20)),σ 22 (.bin .shr (.t 21) (.c (.int .u64 (.ofNat 1)))),σ 23 (.i2i .i64 (.t 22)),σ 11 (.mv (.t 23))]
@[simp] def f153r5:Ω:=[σ 24 (.mv (.t 2)),σ 25 (.mv (.t 0)),σ 26 (.mv (.t 11)),σ 27 (.iaddr 2 (.t 25) (.t 26)),σ 28 (.load 2 true (.t 27)),σ 29 (.mv (.t 1)),σ 30 (.callv (.t 24) [(.t 28),(.t 29)]),σ 31 (.bin .lss (.t 30) (κ 0))]
@[simp] def f153r6:Ω:=[σ 32 (.mv (.t 11)),σ 33 (.bin .add (.t 32) (κ 1)),σ 9 (.mv (.t 33))]
@[simp] def f153r7:Ω:=[σ 34 (.mv (.t 11)),σ 10 (.mv (.t 34))]
def f153B0:RC:=(.seq (.seq (.region f153r3 [0,1,2,8,9,10,17]) (.cond (.t 17) .skip (.exit 0))) (.block 1 (.seq (.region f153r4 [0,1,2,8,9,10,11]) (.seq (.region f153r5 [0,1,2,8,9,10,11,31]) (.cond (.t 31) (.region f153r6 [0,1,2,8,9,10]) (.region f153r7 [0,1,2,8,9,10]))))))
def f153L0:RC:=.loop [0,1,2,8,9,10] f153B0
@[simp] def f153r8:Ω:=[σ 35 (.mv (.t 9)),σ 36 (.mv (.t 9)),σ 37 (.mv (.t 8)),σ 38 (.bin .lss (.t 36) (.t 37)),σ 39 (.mv (.t 38)),τ 40 (.mv (.t 2)) 39 true,τ 41 (.mv (.t 0)) 39 true,τ 42 (.mv (.t 9)) 39 true,τ 43 (.iaddr 2 (.t 41) (.t 42)) 39 true,τ 44 (.load 2 true (.t 43)) 39 true,τ 45 (.mv (.t 1)) 39 true,τ 46 (.callv (.t 40) [(.t 44),(.t 45)]) 39 true,τ 47 (.bin .eql (.t 46) (κ 0)) 39 true,σ 48 (.pick (.t 39) (.t 47) (.c (.bool false))),σ 6 (.mv (.t 35)),σ 7 (.mv (.t 48))]
def f153:RFunc:=⟨[.t 6,.t 7],(.seq (.region f153r0 [0,1,2]) (.seq (.region f153r1 [0,1,2,8]) (.seq (.region f153r2 [0,1,2,8,9,10]) (.seq (.block 0 f153L0) (.seq (.region f153r8 [6,7]) .ret))))),false⟩
@[simp] def f154r0:Ω:=[σ 2 (.box 2 (.t 0)),σ 4 (.mv (κ 0))]
@[simp] def f154r1:Ω:=[σ 5 (.faddr 0 (.t 2)),σ 6 (.load 1 false (.t 5)),σ 7 (.mv (.t 1)),σ 8 (.call 155 [(.t 6),(.t 7)]),σ 4 (.mv (.t 8))]
def f154:RFunc:=⟨[.t 4],(.seq (.region f154r0 [1,2]) (.seq (.region f154r1 [4]) .ret)),true⟩
@[simp] def f155r0:Ω:=[σ 4 (.mv (κ 0))]
@[simp] def f155r1:Ω:=[σ 7 (.mv (.t 0)),σ 8 (.call 162 [(.t 7)]),σ 5 (.mv (.t 8))]
@[simp] def f155r2:Ω:=[σ 9 (.mv (.t 1)),σ 10 (.call 162 [(.t 9)]),σ 6 (.mv (.t 10))]
@[simp] def f155r3:Ω:=[σ 11 (.mv (.t 5))]
@[simp] def f155r4:Ω:=[σ 12 (.mv (.t 6))]
@[simp] def f155r5:Ω:=[σ 4 (.mv (κ 0))]
@[simp] def f155r6:Ω:=[σ 4 (.mv (.c (.int .i64 (.negSucc 0))))]
@[simp] def f155r7:Ω:=[σ 13 (.mv (.t 6))]
@[simp] def f155r8:Ω:=[σ 4 (.mv (κ 1))]
@[simp] def f155r9:Ω:=[σ 14 (.mv (.t 0)),σ 15 (.mv (.t 1)),σ 16 (.bin .lss (.t 14) (.t 15))]
@[simp] def f155r10:Ω:=[σ 4 (.mv (.c (.int .i64 (.negSucc 0))))]
@[simp] def f155r11:Ω:=[σ 17 (.mv (.t 0)),σ 18 (.mv (.t 1)),σ 19 (.bin .gtr (.t 17) (.t 18))]
@[simp] def f155r12:Ω:=[σ 4 (.mv (κ 1))]
@[simp] def f155r13:Ω:=[σ 4 (.mv (κ 0))]
def f155:RFunc:=⟨[.t 4],(.seq (.region f155r0 [0,1]) (.seq (.region f155r1 [0,1,5]) (.seq (.region f155r2 [0,1,5,6]) (.seq (.seq (.region f155r3 [0,1,6,11]) (.cond (.t 11) (.seq (.seq (.region f155r4 [12]) (.cond (.t 12) (.seq (.region f155r5 [4]) .ret) .skip)) (.seq (.region f155r6 [4]) .ret)) .skip)) (.seq (.seq (.region f155r7 [0,1,13]) (.cond (.t 13) (.seq (.region f155r8 [4]) .ret) .skip)) (.seq (.seq (.region f155r9 [0,1,16]) (.cond (.t 16) (.seq (.region f155r10 [4]) .ret) .skip)) (.seq (.seq (.region f155r11 [19]) (.cond (.t 19) (.seq (.region f155r12 [4]) .ret) .skip)) (.seq (.region f155r13 [4]) .ret)))))))),true⟩
@[simp] def f156r0:Ω:=[σ 2 (.mv (.c (.str []))),σ 3 (.mv (.c (.list 0 0 .no false []))),σ 4 (.mv (.c (.bool false)))]
@[simp] def f156r1:Ω:=[σ 11 (.mv (.t 0)),σ 12 (.len .str (.t 11)),σ 13 (.bin .lss (.t 12) (κ 1)),σ 14 (.mv (.t 13)),τ 15 (.mv (.t 0)) 14 false,τ 16 (.len .str (.t 15)) 14 false,τ 17 (.bin .gtr (.t 16) (κ 16)) 14 false,σ 18 (.pick (.t 14) (.c (.bool true)) (.t 17))]
@[simp] def f156r2:Ω:=[σ 2 (.mv (.c (.str []))),σ 3 (.mv (.c (.list 0 0 .no false []))),σ 4 (.mv (.c (.bool false)))]
@[simp] def f156r3:Ω:=[σ 5 (.mv (.c (.list 0 0 .no false [])))]
@[simp] def f156r4:Ω:=[σ 19 (.hlit 1 false [(.int .u8 (.ofNat 0))] 1 [(0,(.c (.int .u8 (.ofNat 0))))]),σ 6 (.mv (.t 19))]
@[simp] def f156r5:Ω:=[σ 7 (.mv (.c (.bool false))),σ 8 (.mv (.c (.bool true)))]
@[simp] def f156r6:Ω:=[σ 20 (.mv (.t 0)),σ 21 (.s2h (.t 20)),σ 22 (.len .slice (.t 21)),σ 23 (.mv (κ 0))]
@[simp] def f156r7:Ω:=[σ 24 (.bin .lss (.t 23) (.t 22))]
@[simp] def f156r8:Ω:=[σ 25 (.mv (.t 23)),σ 26 (.iaddr 1 (.t 21) (.t 23)),σ 27 (.load 1 false (.t 26)),σ 9 (.mv (.t 25)),σ 10 (.mv (.t 27))]
@[simp] def f156r9:Ω:=[σ 29 (.mv (.t 10)),σ 30 (.bin .eql (.t 29) (.c (.int .u8 (.ofNat 46)))),σ 28 (.mv (.t 30))]
@[simp] def f156r10:Ω:=[σ 31 (.mv (.t 9)),σ 32 (.bin .neq (.t 31) (κ 0)),σ 33 (.mv (.t 32)),τ 34 (.mv (.t 9)) 33 true,τ 35 (.mv (.t 0)) 33 true,τ 36 (.len .str (.t 35)) 33 true,τ 37 (.bin .sub (.t 36) (κ 1)) 33 true,τ 38 (.bin .neq (.t 34) (.t 37)) 33 true,σ 39 (.pick (.t 33) (.t 38) (.c (.bool false)))]
@[simp] def f156r11:Ω:=[σ 2 (.mv (.c (.str []))),σ 3 (.mv (.c (.list 0 0 .no false []))),σ 4 (.mv (.c (.bool false)))]
@[simp] def f156r12:Ω:=[σ 40 (.mv (.t 5)),σ 41 (.mv (.t 10)),σ 42 (.hlit 1 false [(.int .u8 (.ofNat 0))] 1 [(0,(.t 41))]),σ 43 (.append 1 false 1 (.t 40) (.t 42)),σ 44 (.mv (.t 6)),σ 45 (.hlit 1 false [(.int .u8 (.ofNat 0))] 1 [(0,(.c (.int .u8 (.ofNat 0))))]),σ 46 (.append 1 false 1 (.t 44) (.t 45)),σ 5 (.mv (.t 43)),σ 6 (.mv (.t 46))]
@[simp] def f156r13:Ω:=[σ 8 (.mv (.c (.bool true)))]
@[simp] def f156r14:Ω:=[σ 48 (.mv (.t 10)),σ 49 (.call 161 [(.t 48)]),σ 47 (.mv (.t 49))]
@[simp] def f156r15:Ω:=[σ 50 (.mv (.t 5)),σ 51 (.mv (.t 10)),σ 52 (.hlit 1 false [(.int .u8 (.ofNat 0))] 1 [(0,(.t 51))]),σ 53 (.append 1 false 1 (.t 50) (.t 52)),σ 54 (.mv (.t 6)),σ 55 (.hlit 1 false [(.int .u8 (.ofNat 0))] 1 [(0,(.c (.int .u8 (.ofNat 0))))]),σ 56 (.append 1 false 1 (.t 54) (.t 55)),σ 5 (.mv (.t 53)),σ 6 (.mv (.t 56))]
@[simp] def f156r16:Ω:=[σ 7 (.mv (.c (.bool true))),σ 8 (.mv (.c (.bool true)))]
@[simp] def f156r17:Ω:=[σ 58 (.mv (.t 10)),σ 59 (.call 163 [(.t 58)]),σ 60 (.mv (.t 59)),τ 61 (.mv (.t 8)) 60 true,σ 62 (.pick (.t 60) (.t 61) (.c (.bool false))),σ 57 (.mv (.t 62))]
@[simp] def f156r18:Ω:=[σ 63 (.mv (.t 6)),σ 64 (.mv (.t 6)),σ 65 (.len .slice (.t 64)),σ 66 (.bin .sub (.t 65) (κ 1)),σ 67 (.mv (.t 10)),σ 68 (.bin .sub (.t 67) (.c (.int .u8 (.ofNat 48)))),σ 69 (.iaddr 1 (.t 63) (.t 66)),⟨none,.store 1 (.t 69) (.t 68),none⟩]
@[simp] def f156r19:Ω:=[σ 8 (.mv (.c (.bool false)))]
@[simp] def f156r20:Ω:=[σ 2 (.mv (.c (.str []))),σ 3 (.mv (.c (.list 0 0 .no false []))),σ 4 (.mv (.c (.bool false)))]
@[simp] def f156r21:Ω:=[σ 70 (.bin .add (.t 23) (κ 1)),σ 23 (.mv (.t 70))]
def f156B0:RC:=(.seq (.region f156r7 [0,5,6,7,8,21,22,23,24]) (.seq (.cond (.t 24) .skip (.exit 0)) (.seq (.block 1 (.seq (.region f156r8 [0,5,6,7,8,9,10,21,22,23]) (.block 2 (.seq (.region f156r9 [0,5,6,7,8,9,10,21,22,23,28]) (.cond (.t 28) (.seq (.seq (.region f156r10 [0,5,6,7,10,21,22,23,39]) (.cond (.t 39) (.seq (.region f156r11 [2,3,4]) .ret) .skip)) (.seq (.region f156r12 [0,5,6,7,21,22,23]) (.region f156r13 [0,5,6,7,8,21,22,23]))) (.seq (.region f156r14 [0,5,6,7,8,10,21,22,23,47]) (.cond (.t 47) (.seq (.region f156r15 [0,5,6,21,22,23]) (.region f156r16 [0,5,6,7,8,21,22,23])) (.seq (.region f156r17 [0,5,6,7,10,21,22,23,57]) (.cond (.t 57) (.seq (.region f156r18 [0,5,6,7,21,22,23]) (.region f156r19 [0,5,6,7,8,21,22,23])) (.seq (.region f156r20 [2,3,4]) .ret)))))))))) (.region f156r21 [0,5,6,7,8,21,22,23]))))
def f156L0:RC:=.loop [0,5,6,7,8,21,22,23] f156B0
@[simp] def f156r22:Ω:=[σ 71 (.mv (.t 5)),σ 72 (.b2s (.t 71)),σ 73 (.mv (.t 6)),σ 74 (.mv (.t 7)),σ 2 (.mv (.t 72)),σ 3 (.mv (.t 73)),σ 4 (.mv (.t 74))]
def f156:RFunc:=⟨[.t 2,.t 3,.t 4],(.seq (.region f156r0 [0]) (.seq (.seq (.region f156r1 [0,18]) (.cond (.t 18) (.seq (.region f156r2 [2,3,4]) .ret) .skip)) (.seq (.region f156r3 [0,5]) (.seq (.region f156r4 [0,5,6]) (.seq (.region f156r5 [0,5,6,7,8]) (.seq (.seq (.region f156r6 [0,5,6,7,8,21,22,23]) (.block 0 f156L0)) (.seq (.region f156r22 [2,3,4]) .ret))))))),true⟩
@[simp] def f157r0:Ω:=[σ 10 (.mv (.t 1)),σ 11 (.s2b (.t 10)),σ 12 (.len .slice (.t 11)),σ 13 (.mv (κ 0))]
@[simp] def f157r1:Ω:=[σ 14 (.bin .lss (.t 13) (.t 12))]
@[simp] def f157r2:Ω:=[σ 15 (.iaddr 1 (.t 11) (.t 13)),σ 16 (.load 1 false (.t 15)),σ 7 (.mv (.t 16))]
@[simp] def f157r3:Ω:=[σ 17 (.mv (.t 0)),σ 18 (.nilchk (.t 17)),σ 19 (.faddr 0 (.t 18)),σ 20 (.load 1 false (.t 19)),σ 21 (.eq .map false (.t 20) (.c .nilmap))]
@[simp] def f157r4:Ω:=[σ 22 (.mv (.t 0)),σ 23 .mkmap,σ 24 (.nilchk (.t 22)),σ 25 (.faddr 0 (.t 24)),⟨none,.store 1 (.t 25) (.t 23),none⟩]
@[simp] def f157r5:Ω:=[σ 26 (.mv (.t 0)),σ 27 (.nilchk (.t 26)),σ 28 (.faddr 0 (.t 27)),σ 29 (.load 1 false (.t 28)),σ 30 (.mv (.t 7)),σ 31 (.lookup [.int] .nilp (.t 29) (.t 30) false),σ 32 (.eq .ptr false (.t 31) (.c .nilp))]
@[simp] def f157r6:Ω:=[σ 33 (.mv (.t 0)),σ 34 (.nilchk (.t 33)),σ 35 (.faddr 0 (.t 34)),σ 36 (.load 1 false (.t 35)),σ 37 (.mv (.t 7)),σ 38 (.build [.nilmap,(.list 0 0 .no false [])] []),σ 39 (.box 2 (.t 38)),⟨none,.mapset [.int] (.t 36) (.t 37) (.t 39),none⟩]
@[simp] def f157r7:Ω:=[σ 40 (.mv (.t 0)),σ 41 (.nilchk (.t 40)),σ 42 (.faddr 0 (.t 41)),σ 43 (.load 1 false (.t 42)),σ 44 (.mv (.t 7)),σ 45 (.lookup [.int] .nilp (.t 43) (.t 44) false),σ 0 (.mv (.t 45))]
@[simp] def f157r8:Ω:=[σ 46 (.bin .add (.t 13) (κ 1)),σ 13 (.mv (.t 46))]
def f157B0:RC:=(.seq (.region f157r1 [0,2,11,12,13,14]) (.seq (.cond (.t 14) .skip (.exit 0)) (.seq (.block 1 (.seq (.region f157r2 [0,2,7,11,12,13]) (.seq (.seq (.region f157r3 [0,2,7,11,12,13,21]) (.cond (.t 21) (.region f157r4 [0,2,7,11,12,13]) .skip)) (.seq (.seq (.region f157r5 [0,2,7,11,12,13,32]) (.cond (.t 32) (.region f157r6 [0,2,7,11,12,13]) .skip)) (.region f157r7 [0,2,11,12,13]))))) (.region f157r8 [0,2,11,12,13]))))
def f157L0:RC:=.loop [0,2,11,12,13] f157B0
@[simp] def f157r9:Ω:=[σ 47 (.mv (.t 0)),σ 48 (.nilchk (.t 47)),σ 49 (.faddr 1 (.t 48)),σ 50 (.load 1 false (.t 49)),σ 51 (.eq .slice false (.t 50) (.c (.list 0 0 .no false [])))]
@[simp] def f157r10:Ω:=[σ 52 (.mv (.t 0)),σ 53 (.mv (.t 2)),σ 54 (.call 164 [(.t 53)]),σ 55 (.nilchk (.t 52)),σ 56 (.faddr 1 (.t 55)),⟨none,.store 1 (.t 56) (.t 54),none⟩]
@[simp] def f157r11:Ω:=[σ 57 (.mv (.t 2)),σ 58 (.len .slice (.t 57)),σ 59 (.mv (κ 0))]
@[simp] def f157r12:Ω:=[σ 60 (.bin .lss (.t 59) (.t 58))]
@[simp] def f157r13:Ω:=[σ 61 (.mv (.t 59)),σ 62 (.iaddr 1 (.t 57) (.t 59)),σ 63 (.load 1 false (.t 62)),σ 8 (.mv (.t 61)),σ 9 (.mv (.t 63))]
@[simp] def f157r14:Ω:=[σ 64 (.mv (.t 0)),σ 65 (.nilchk (.t 64)),σ 66 (.faddr 1 (.t 65)),σ 67 (.load 1 false (.t 66)),σ 68 (.mv (.t 8)),σ 69 (.mv (.t 0)),σ 70 (.nilchk (.t 69)),σ 71 (.faddr 1 (.t 70)),σ 72 (.load 1 false (.t 71)),σ 73 (.mv (.t 8)),σ 74 (.iaddr 1 (.t 72) (.t 73)),σ 75 (.load 1 false (.t 74)),σ 76 (.mv (.t 9)),σ 77 (.max [(.t 75),(.t 76)]),σ 78 (.iaddr 1 (.t 67) (.t 68)),⟨none,.store 1 (.t 78) (.t 77),none⟩]
@[simp] def f157r15:Ω:=[σ 79 (.bin .add (.t 59) (κ 1)),σ 59 (.mv (.t 79))]
def f157B1:RC:=(.seq (.region f157r12 [0,57,58,59,60]) (.seq (.cond (.t 60) .skip (.exit 2)) (.seq (.block 3 (.seq (.region f157r13 [0,8,9,57,58,59]) (.dregion f157r14 [] [] [0,57,58,59]))) (.region f157r15 [0,57,58,59]))))
def f157L1:RC:=.loop [0,57,58,59] f157B1
def f157:RFunc:=⟨[],(.seq (.seq (.region f157r0 [0,2,11,12,13]) (.block 0 f157L0)) (.seq (.seq (.region f157r9 [0,2,51]) (.cond (.t 51) (.seq (.region f157r10 []) .ret) .skip)) (.seq (.region f157r11 [0,57,58,59]) (.block 2 f157L1)))),false⟩
@[simp] def f158r0:Ω:=[σ 2 (.mv (.c (.str []))),σ 3 (.mv (.c (.list 0 0 .no false []))),σ 4 (.mv (.c (.bool false)))]
@[simp] def f158r1:Ω:=[σ 5 (.mv (.c (.list 0 0 .no false [])))]
@[simp] def f158r2:Ω:=[σ 6 (.mv (.c (.list 0 0 .no false [])))]
@[simp] def f158r3:Ω:=[σ 9 (.mv (.t 0)),σ 10 (.s2b (.t 9)),σ 11 (.len .slice (.t 10)),σ 12 (.mv (κ 0))]
@[simp] def f158r4:Ω:=[σ 13 (.bin .lss (.t 12) (.t 11))]
@[simp] def f158r5:Ω:=[σ 14 (.mv (.t 12)),σ 15 (.iaddr 1 (.t 10) (.t 12)),σ 16 (.load 1 false (.t 15)),σ 7 (.mv (.t 14)),σ 8 (.mv (.t 16))]
@[simp] def f158r6:Ω:=[σ 18 (.mv (.t 8)),σ 19 (.call 161 [(.t 18)]),σ 17 (.mv (.t 19))]
@[simp] def f158r7:Ω:=[σ 20 (.mv (.t 5)),σ 21 (.mv (.t 8)),σ 22 (.lit 1 false [(.int .u8 (.ofNat 0))] 1 [(0,(.t 21))]),σ 23 (.append 1 false 1 (.t 20) (.t 22)),σ 5 (.mv (.t 23))]
@[simp] def f158r8:Ω:=[σ 25 (.mv (.t 8)),σ 26 (.bin .eql (.t 25) (.c (.int .u8 (.ofNat 45)))),σ 27 (.mv (.t 26)),τ 28 (.mv (.t 7)) 27 true,τ 29 (.bin .gtr (.t 28) (κ 0)) 27 true,σ 30 (.pick (.t 27) (.t 29) (.c (.bool false))),σ 31 (.mv (.t 30)),τ 32 (.mv (.t 7)) 31 true,τ 33 (.mv (.t 0)) 31 true,τ 34 (.len .str (.t 33)) 31 true,τ 35 (.bin .sub (.t 34) (κ 1)) 31 true,τ 36 (.bin .lss (.t 32) (.t 35)) 31 true,σ 37 (.pick (.t 31) (.t 36) (.c (.bool false))),σ 38 (.mv (.t 37)),τ 39 (.mv (.t 0)) 38 true,τ 40 (.mv (.t 7)) 38 true,τ 41 (.bin .sub (.t 40) (κ 1)) 38 true,τ 42 (.index (.t 39) (.t 41)) 38 true,τ 43 (.bin .neq (.t 42) (.c (.int .u8 (.ofNat 45)))) 38 true,σ 44 (.pick (.t 38) (.t 43) (.c (.bool false))),σ 24 (.mv (.t 44))]
@[simp] def f158r9:Ω:=[σ 45 (.mv (.t 6)),σ 46 (.mv (.t 5)),σ 47 (.len .slice (.t 46)),σ 48 (.lit 1 false [(.int .i64 (.ofNat 0))] 1 [(0,(.t 47))]),σ 49 (.append 1 false 8 (.t 45) (.t 48)),σ 6 (.mv (.t 49))]
@[simp] def f158r10:Ω:=[σ 2 (.mv (.c (.str []))),σ 3 (.mv (.c (.list 0 0 .no false []))),σ 4 (.mv (.c (.bool false)))]
@[simp] def f158r11:Ω:=[σ 50 (.bin .add (.t 12) (κ 1)),σ 12 (.mv (.t 50))]
def f158B0:RC:=(.seq (.region f158r4 [0,5,6,10,11,12,13]) (.seq (.cond (.t 13) .skip (.exit 0)) (.seq (.block 1 (.seq (.region f158r5 [0,5,6,7,8,10,11,12]) (.block 2 (.seq (.region f158r6 [0,5,6,7,8,10,11,12,17]) (.cond (.t 17) (.region f158r7 [0,5,6,10,11,12]) (.seq (.region f158r8 [0,5,6,10,11,12,24]) (.cond (.t 24) (.region f158r9 [0,5,6,10,11,12]) (.seq (.region f158r10 [2,3,4]) .ret)))))))) (.region f158r11 [0,5,6,10,11,12]))))
def f158L0:RC:=.loop [0,5,6,10,11,12] f158B0
@[simp] def f158r12:Ω:=[σ 51 (.mv (.t 5)),σ 52 (.b2s (.t 51)),σ 53 (.mv (.t 6)),σ 54 (.mv (.t 5)),σ 55 (.len .slice (.t 54)),σ 56 (.bin .geq (.t 55) (κ 2)),σ 57 (.mv (.t 56)),τ 58 (.mv (.t 5)) 57 true,τ 59 (.len .slice (.t 58)) 57 true,τ 60 (.bin .leq (.t 59) (κ 64)) 57 true,σ 61 (.pick (.t 57) (.t 60) (.c (.bool false))),σ 2 (.mv (.t 52)),σ 3 (.mv (.t 53)),σ 4 (.mv (.t 61))]
def f158:RFunc:=⟨[.t 2,.t 3,.t 4],(.seq (.region f158r0 [0]) (.seq (.region f158r1 [0,5]) (.seq (.region f158r2 [0,5,6]) (.seq (.seq (.region f158r3 [0,5,6,10,11,12]) (.block 0 f158L0)) (.seq (.region f158r12 [2,3,4]) .ret))))),true⟩
@[simp] def f159r0:Ω:=[σ 4 (.mv (.c (.list 0 0 .no false [])))]
@[simp] def f159r1:Ω:=[σ 12 (.mklist 2 16 (κ 0) (κ 32)),σ 5 (.mv (.t 12))]
@[simp] def f159r2:Ω:=[σ 6 (.mv (.c (.int .i64 (.negSucc 0))))]
@[simp] def f159r3:Ω:=[σ 13 (.mv (.t 0)),σ 14 .fail]
@[simp] def f159r4:Ω:=[σ 15 .fail,σ 16 (.extract (.t 15) 0)]
@[simp] def f159r5:Ω:=[σ 17 (.extract (.t 15) 1),σ 18 (.extract (.t 15) 2),σ 7 (.mv (.t 17)),σ 8 (.mv (.t 18))]
@[simp] def f159r6:Ω:=[σ 19 (.mv (.t 1)),σ 20 (.mv (.t 8)),σ 21 (.callv (.t 19) [(.t 20)])]
@[simp] def f159r7:Ω:=[σ 22 (.mv (.t 6)),σ 23 (.bin .geq (.t 22) (κ 0))]
@[simp] def f159r8:Ω:=[σ 24 (.mv (.t 5)),σ 25 (.mv (.t 6)),σ 26 (.mv (.t 7)),σ 27 (.build [(.int .i64 (.ofNat 0)),(.int .i64 (.ofNat 0))] [(0,1,(.t 25)),(1,1,(.t 26))]),σ 28 (.lit 2 true [(.int .i64 (.ofNat 0)),(.int .i64 (.ofNat 0))] 1 [(0,(.t 27))]),σ 29 (.append 2 true 16 (.t 24) (.t 28)),σ 5 (.mv (.t 29))]
@[simp] def f159r9:Ω:=[σ 30 (.mv (.t 6)),σ 31 (.un .xor (.t 30)),σ 6 (.mv (.t 31))]
@[simp] def f159r10:Ω:=[σ 32 (.mv (.t 6)),σ 33 (.bin .lss (.t 32) (κ 0))]
@[simp] def f159r11:Ω:=[σ 34 (.mv (.t 7)),σ 6 (.mv (.t 34))]
def f159B0:RC:=(.seq (.region f159r4 [0,1,5,6,15,16]) (.seq (.cond (.t 16) .skip (.exit 0)) (.block 1 (.seq (.region f159r5 [0,1,5,6,7,8]) (.seq (.region f159r6 [0,1,5,6,7,21]) (.cond (.t 21) (.seq (.region f159r7 [0,1,5,6,7,23]) (.cond (.t 23) (.seq (.region f159r8 [0,1,5,6]) (.region f159r9 [0,1,5,6])) .skip)) (.seq (.region f159r10 [0,1,5,6,7,33]) (.cond (.t 33) (.region f159r11 [0,1,5,6]) .skip))))))))
def f159L0:RC:=.loop [0,1,5,6] f159B0
@[simp] def f159r12:Ω:=[σ 35 (.mv (.t 6)),σ 36 (.bin .geq (.t 35) (κ 0))]
@[simp] def f159r13:Ω:=[σ 37 (.mv (.t 5)),σ 38 (.mv (.t 6)),σ 39 (.mv (.t 0)),σ 40 (.len .str (.t 39)),σ 41 (.build [(.int .i64 (.ofNat 0)),(.int .i64 (.ofNat 0))] [(0,1,(.t 38)),(1,1,(.t 40))]),σ 42 (.lit 2 true [(.int .i64 (.ofNat 0)),(.int .i64 (.ofNat 0))] 1 [(0,(.t 41))]),σ 43 (.append 2 true 16 (.t 37) (.t 42)),σ 5 (.mv (.t 43))]
@[simp] def f159r14:Ω:=[σ 44 (.mv (.t 5)),σ 45 (.len .slice (.t 44)),σ 46 (.mkslice 1 false 16 [(.str [])] (.t 45) (.t 45)),σ 9 (.mv (.t 46))]
@[simp] def f159r15:Ω:=[σ 47 (.mv (.t 5)),σ 48 (.len .slice (.t 47)),σ 49 (.mv (κ 0))]
@[simp] def f159r16:Ω:=[σ 50 (.bin .lss (.t 49) (.t 48))]
@[simp] def f159r17:Ω:=[σ 51 (.mv (.t 49)),σ 52 (.iaddr 2 (.t 47) (.t 49)),σ 53 (.load 2 true (.t 52)),σ 11 (.alloc [(.int .i64 (.ofNat 0)),(.int .i64 (.ofNat 0))]),σ 10 (.mv (.t 51)),⟨none,.store 2 (.t 11) (.t 53),none⟩]
@[simp] def f159r18:Ω:=[σ 54 (.mv (.t 9)),σ 55 (.mv (.t 10)),σ 56 (.mv (.t 0)),σ 57 (.faddr 0 (.t 11)),σ 58 (.load 1 false (.t 57)),σ 59 (.faddr 1 (.t 11)),σ 60 (.load 1 false (.t 59)),σ 61 (.slice true 1 (.t 56) (some (.t 58)) (some (.t 60)) none),σ 62 (.iaddr 1 (.t 54) (.t 55)),⟨none,.store 1 (.t 62) (.t 61),none⟩]
@[simp] def f159r19:Ω:=[σ 63 (.bin .add (.t 49) (κ 1)),σ 49 (.mv (.t 63))]
def f159B1:RC:=(.seq (.region f159r16 [0,9,47,48,49,50]) (.seq (.cond (.t 50) .skip (.exit 2)) (.seq (.block 3 (.seq (.region f159r17 [0,9,10,11,47,48,49]) (.region f159r18 [0,9,47,48,49]))) (.region f159r19 [0,9,47,48,49]))))
def f159L1:RC:=.loop [0,9,47,48,49] f159B1
@[simp] def f159r20:Ω:=[σ 64 (.mv (.t 9)),σ 4 (.mv (.t 64))]
def f159:RFunc:=⟨[.t 4],(.seq (.region f159r0 [0,1]) (.seq (.region f159r1 [0,1,5]) (.seq (.region f159r2 [0,1,5,6]) (.seq (.seq (.region f159r3 [0,1,5,6]) (.block 0 f159L0)) (.seq (.seq (.region f159r12 [0,5,6,36]) (.cond (.t 36) (.region f159r13 [0,5]) .skip)) (.seq (.region f159r14 [0,5,9]) (.seq (.seq (.region f159r15 [0,9,47,48,49]) (.block 2 f159L1)) (.seq (.region f159r20 [4]) .ret)))))))),false⟩
@[simp] def f160r0:Ω:=[σ 2 (.mv (.c (.bool false)))]
@[simp] def f160r1:Ω:=[σ 3 (.mv (.t 0)),σ 4 (.i2i .u32 (.t 3)),σ 5 (.bin .leq (.t 4) (.c (.int .u32 (.ofNat 255))))]
@[simp] def f160r2:Ω:=[σ 6 (.mv (.t 0))]
@[simp] def f160r3:Ω:=[σ 8 (.bin .eql (.t 6) (.c (.int .i32 (.ofNat 9)))),σ 7 (.mv (.t 8))]
@[simp] def f160r4:Ω:=[σ 9 (.bin .eql (.t 6) (.c (.int .i32 (.ofNat 10)))),σ 7 (.mv (.t 9))]
@[simp] def f160r5:Ω:=[σ 10 (.bin .eql (.t 6) (.c (.int .i32 (.ofNat 11)))),σ 7 (.mv (.t 10))]
@[simp] def f160r6:Ω:=[σ 11 (.bin .eql (.t 6) (.c (.int .i32 (.ofNat 12)))),σ 7 (.mv (.t 11))]
@[simp] def f160r7:Ω:=[σ 12 (.bin .eql (.t 6) (.c (.int .i32 (.ofNat 13)))),σ 7 (.mv (.t 12))]
@[simp] def f160r8:Ω:=[σ 13 (.bin .eql (.t 6) (.c (.int .i32 (.ofNat 32)))),σ 7 (.mv (.t 13))]
@[simp] def f160r9:Ω:=[σ 14 (.bin .eql (.t 6) (.c (.int .i32 (.ofNat 133)))),σ 7 (.mv (.t 14))]
@[simp] def f160r10:Ω:=[σ 15 (.bin .eql (.t 6) (.c (.int .i32 (.ofNat 160)))),σ 7 (.mv (.t 15))]
@[simp] def f160r11:Ω:=[σ 2 (.mv (.c (.bool true)))]
@[simp] def f160r12:Ω:=[σ 2 (.mv (.c (.bool false)))]
@[simp] def f160r13:Ω:=[σ 16 .fail,σ 17 (.mv (.t 0)),σ 18 (.call 165 [(.t 16),(.t 17)]),σ 2 (.mv (.t 18))]
def f160:RFunc:=⟨[.t 2],(.seq (.region f160r0 [0]) (.seq (.seq (.region f160r1 [0,5]) (.cond (.t 5) (.seq (.seq (.region f160r2 [6]) (.block 0 (.seq (.seq (.region f160r3 [6,7]) (.cond (.t 7) .skip (.seq (.region f160r4 [6,7]) (.cond (.t 7) .skip (.seq (.region f160r5 [6,7]) (.cond (.t 7) .skip (.seq (.region f160r6 [6,7]) (.cond (.t 7) .skip (.seq (.region f160r7 [6,7]) (.cond (.t 7) .skip (.seq (.region f160r8 [6,7]) (.cond (.t 7) .skip (.seq (.region f160r9 [6,7]) (.cond (.t 7) .skip (.region f160r10 [7]))))))))))))))) (.cond (.t 7) (.seq (.region f160r11 [2]) .ret) .skip)))) (.seq (.region f160r12 [2]) .ret)) .skip)) (.seq (.region f160r13 [2]) .ret))),true⟩
@[simp] def f161r0:Ω:=[σ 2 (.mv (.c (.bool false)))]
@[simp] def f161r1:Ω:=[σ 3 (.mv (.t 0)),σ 4 (.bin .geq (.t 3) (.c (.int .u8 (.ofNat 97)))),σ 5 (.mv (.t 4)),τ 6 (.mv (.t 0)) 5 true,τ 7 (.bin .leq (.t 6) (.c (.int .u8 (.ofNat 122)))) 5 true,σ 8 (.pick (.t 5) (.t 7) (.c (.bool false))),σ 2 (.mv (.t 8))]
def f161:RFunc:=⟨[.t 2],(.seq (.region f161r0 [0]) (.seq (.region f161r1 [2]) .ret)),true⟩
@[simp] def f162r0:Ω:=[σ 2 (.mv (.c (.bool false)))]
@[simp] def f162r1:Ω:=[σ 3 (.mv (.t 0)),σ 4 (.mv (.t 0)),σ 5 (.bin .neq (.t 3) (.t 4)),σ 2 (.mv (.t 5))]
def f162:RFunc:=⟨[.t 2],(.seq (.region f162r0 [0]) (.seq (.region f162r1 [2]) .ret)),true⟩
@[simp] def f163r0:Ω:=[σ 2 (.mv (.c (.bool false)))]
@[simp] def f163r1:Ω:=[σ 3 (.mv (.t 0)),σ 4 (.bin .geq (.t 3) (.c (.int .u8 (.ofNat 48)))),σ 5 (.mv (.t 4)),τ 6 (.mv (.t 0)) 5 true,τ 7 (.bin .leq (.t 6) (.c (.int .u8 (.ofNat 57)))) 5 true,σ 8 (.pick (.t 5) (.t 7) (.c (.bool false))),σ 2 (.mv (.t 8))]
def f163:RFunc:=⟨[.t 2],(.seq (.region f163r0 [0]) (.seq (.region f163r1 [2]) .ret)),true⟩
@[simp] def f164r0:Ω:=[σ 2 (.mv (.c (.list 0 0 .no false [])))]
@[simp] def f164r1:Ω:=[σ 3 (.mv (.t 0)),σ 4 (.eq .slice false (.t 3) (.c (.list 0 0 .no false [])))]
@[simp] def f164r2:Ω:=[σ 2 (.mv (.c (.list 0 0 .no false [])))]
@[simp] def f164r3:Ω:=[σ 5 (.lit 1 false [(.int .u8 (.ofNat 0))] 0 []),σ 6 (.mv (.t 0)),σ 7 (.appendH 1 false 1 (.t 5) (.t 6)),σ 2 (.mv (.t 7))]
def f164:RFunc:=⟨[.t 2],(.seq (.region f164r0 [0]) (.seq (.seq (.region f164r1 [0,4]) (.cond (.t 4) (.seq (.region f164r2 [2]) .ret) .skip)) (.seq (.region f164r3 [2]) .ret))),false⟩
@[simp] def f165r0:Ω:=[σ 4 (.mv (.c (.bool false)))]
@[simp] def f165r1:Ω:=[σ 8 (.mv (.t 0)),σ 9 (.nilchk (.t 8)),σ 10 (.faddr 0 (.t 9)),σ 11 (.load 1 false (.t 10)),σ 5 (.mv (.t 11))]
@[simp] def f165r2:Ω:=[σ 12 (.mv (.t 0)),σ 13 (.nilchk (.t 12)),σ 14 (.faddr 2 (.t 13)),σ 15 (.load 1 false (.t 14)),σ 6 (.mv (.t 15))]
@[simp] def f165r3:Ω:=[σ 16 (.mv (.t 5)),σ 17 (.len .slice (.t 16)),σ 18 (.mv (.t 6)),σ 19 (.bin .gtr (.t 17) (.t 18)),σ 20 (.mv (.t 19)),τ 21 (.mv (.t 1)) 20 true,τ 22 (.i2i .u32 (.t 21)) 20 true,τ 23 (.mv (.t 5)) 20 true,τ 24 (.mv (.t 5)) 20 true,τ 25 (.len .slice (.t 24)) 20 true,τ 26 (.bin .sub (.t 25) (κ 1)) 20 true,τ 27 (.iaddr 3 (.t 23) (.t 26)) 20 true,τ 28 (.faddr 1 (.t 27)) 20 true,τ 29 (.load 1 false (.t 28)) 20 true,τ 30 (.i2i .u32 (.t 29)) 20 true,τ 31 (.bin .leq (.t 22) (.t 30)) 20 true,σ 32 (.pick (.t 20) (.t 31) (.c (.bool false)))]
@[simp] def f165r4:Ω:=[σ 33 (.mv (.t 5)),σ 34 (.mv (.t 6)),σ 35 (.slice false 3 (.t 33) (some (.t 34)) none none),σ 36 (.mv (.t 1)),σ 37 (.i2i .u16 (.t 36)),σ 38 (.call 166 [(.t 35),(.t 37)]),σ 4 (.mv (.t 38))]
@[simp] def f165r5:Ω:=[σ 39 (.mv (.t 0)),σ 40 (.nilchk (.t 39)),σ 41 (.faddr 1 (.t 40)),σ 42 (.load 1 false (.t 41)),σ 7 (.mv (.t 42))]
@[simp] def f165r6:Ω:=[σ 43 (.mv (.t 7)),σ 44 (.len .slice (.t 43)),σ 45 (.bin .gtr (.t 44) (κ 0)),σ 46 (.mv (.t 45)),τ 47 (.mv (.t 1)) 46 true,τ 48 (.mv (.t 7)) 46 true,τ 49 (.iaddr 3 (.t 48) (κ 0)) 46 true,τ 50 (.faddr 0 (.t 49)) 46 true,τ 51 (.load 1 false (.t 50)) 46 true,τ 52 (.i2i .i32 (.t 51)) 46 true,τ 53 (.bin .geq (.t 47) (.t 52)) 46 true,σ 54 (.pick (.t 46) (.t 53) (.c (.bool false)))]
@[simp] def f165r7:Ω:=[σ 55 (.mv (.t 7)),σ 56 (.mv (.t 1)),σ 57 (.i2i .u32 (.t 56)),σ 58 (.call 167 [(.t 55),(.t 57)]),σ 4 (.mv (.t 58))]
@[simp] def f165r8:Ω:=[σ 4 (.mv (.c (.bool false)))]
def f165:RFunc:=⟨[.t 4],(.seq (.region f165r0 [0,1]) (.seq (.region f165r1 [0,1,5]) (.seq (.seq (.region f165r2 [0,1,5,6]) (.seq (.region f165r3 [0,1,5,6,32]) (.cond (.t 32) (.seq (.region f165r4 [4]) .ret) .skip))) (.seq (.region f165r5 [1,7]) (.seq (.seq (.region f165r6 [1,7,54]) (.cond (.t 54) (.seq (.region f165r7 [4]) .ret) .skip)) (.seq (.region f165r8 [4]) .ret)))))),false⟩
@[simp] def f166r0:Ω:=[σ 4 (.mv (.c (.bool false)))]
@[simp] def f166r1:Ω:=[σ 11 (.mv (.t 0)),σ 12 (.len .slice (.t 11)),σ 13 (.bin .leq (.t 12) (κ 18)),σ 14 (.mv (.t 13)),τ 15 (.mv (.t 1)) 14 false,τ 16 (.bin .leq (.t 15) (.c (.int .u16 (.ofNat 255)))) 14 false,σ 17 (.pick (.t 14) (.c (.bool true)) (.t 16))]
@[simp] def f166r2:Ω:=[σ 18 (.mv (.t 0)),σ 19 (.len .slice (.t 18)),σ 20 (.mv (κ 0))]
@[simp] def f166r3:Ω:=[σ 21 (.bin .lss (.t 20) (.t 19))]
@[simp] def f166r4:Ω:=[σ 22 (.mv (.t 20)),σ 5 (.mv (.t 22))]
@[simp] def f166r5:Ω:=[σ 23 (.mv (.t 0)),σ 24 (.mv (.t 5)),σ 25 (.iaddr 3 (.t 23) (.t 24)),σ 6 (.mv (.t 25))]
@[simp] def f166r6:Ω:=[σ 26 (.mv (.t 1)),σ 27 (.mv (.t 6)),σ 28 (.nilchk (.t 27)),σ 29 (.faddr 0 (.t 28)),σ 30 (.load 1 false (.t 29)),σ 31 (.bin .lss (.t 26) (.t 30))]
@[simp] def f166r7:Ω:=[σ 4 (.mv (.c (.bool false)))]
@[simp] def f166r8:Ω:=[σ 32 (.mv (.t 1)),σ 33 (.mv (.t 6)),σ 34 (.nilchk (.t 33)),σ 35 (.faddr 1 (.t 34)),σ 36 (.load 1 false (.t 35)),σ 37 (.bin .leq (.t 32) (.t 36))]
@[simp] def f166r9:Ω:=[σ 38 (.mv (.t 6)),σ 39 (.nilchk (.t 38)),σ 40 (.faddr 2 (.t 39)),σ 41 (.load 1 false (.t 40)),σ 42 (.bin .eql (.t 41) (.c (.int .u16 (.ofNat 1)))),σ 43 (.mv (.t 42)),τ 44 (.mv (.t 1)) 43 false,τ 45 (.mv (.t 6)) 43 false,τ 46 (.nilchk (.t 45)) 43 false,τ 47 (.faddr 0 (.t 46)) 43 false,τ 48 (.load 1 false (.t 47)) 43 false,τ 49 (.bin .sub (.t 44) (.t 48)) 43 false,τ 50 (.mv (.t 6)) 43 false,τ 51 (.nilchk (.t 50)) 43 false,τ 52 (.faddr 2 (.t 51)) 43 false,τ 53 (.load 1 false (.t 52)) 43 false,τ 54 (.bin .rem (.t 49) (.t 53)) 43 false,τ 55 (.bin .eql (.t 54) (.c (.int .u16 (.ofNat 0)))) 43 false,σ 56 (.pick (.t 43) (.c (.bool true)) (.t 55)),σ 4 (.mv (.t 56))]
@[simp] def f166r10:Ω:=[σ 57 (.bin .add (.t 20) (κ 1)),σ 20 (.mv (.t 57))]
def f166B0:RC:=(.seq (.region f166r3 [0,1,19,20,21]) (.seq (.cond (.t 21) .skip (.exit 0)) (.seq (.block 1 (.seq (.region f166r4 [0,1,5,19,20]) (.seq (.region f166r5 [0,1,6,19,20]) (.seq (.seq (.region f166r6 [0,1,6,19,20,31]) (.cond (.t 31) (.seq (.region f166r7 [4]) .ret) .skip)) (.seq (.region f166r8 [0,1,6,19,20,37]) (.cond (.t 37) (.seq (.dregion f166r9 [] [] [4]) .ret) .skip)))))) (.region f166r10 [0,1,19,20]))))
def f166L0:RC:=.loop [0,1,19,20] f166B0
@[simp] def f166r11:Ω:=[σ 4 (.mv (.c (.bool false)))]
@[simp] def f166r12:Ω:=[σ 7 (.mv (κ 0))]
@[simp] def f166r13:Ω:=[σ 58 (.mv (.t 0)),σ 59 (.len .slice (.t 58)),σ 8 (.mv (.t 59))]
@[simp] def f166r14:Ω:=[σ 60 (.mv (.t 7)),σ 61 (.mv (.t 8)),σ 62 (.bin .lss (.t 60) (.t 61))]
@[simp] def f166r15:Ω:=[σ 63 (.mv (.t 7)),σ 64 (.mv (.t 8)),σ 65 (.bin .add (.t 63) (.t 64)),σ 66 (.i2i .u64 (.t 65)),σ 67 (.bin .shr (.t 66) (.c (.int .u64 (.ofNat 1)))),σ 68 (.i2i .i64 (.t 67)),σ 9 (.mv (.t 68))]
@[simp] def f166r16:Ω:=[σ 69 (.mv (.t 0)),σ 70 (.mv (.t 9)),σ 71 (.iaddr 3 (.t 69) (.t 70)),σ 10 (.mv (.t 71))]
@[simp] def f166r17:Ω:=[σ 72 (.mv (.t 10)),σ 73 (.nilchk (.t 72)),σ 74 (.faddr 0 (.t 73)),σ 75 (.load 1 false (.t 74)),σ 76 (.mv (.t 1)),σ 77 (.bin .leq (.t 75) (.t 76)),σ 78 (.mv (.t 77)),τ 79 (.mv (.t 1)) 78 true,τ 80 (.mv (.t 10)) 78 true,τ 81 (.nilchk (.t 80)) 78 true,τ 82 (.faddr 1 (.t 81)) 78 true,τ 83 (.load 1 false (.t 82)) 78 true,τ 84 (.bin .leq (.t 79) (.t 83)) 78 true,σ 85 (.pick (.t 78) (.t 84) (.c (.bool false)))]
@[simp] def f166r18:Ω:=[σ 86 (.mv (.t 10)),σ 87 (.nilchk (.t 86)),σ 88 (.faddr 2 (.t 87)),σ 89 (.load 1 false (.t 88)),σ 90 (.bin .eql (.t 89) (.c (.int .u16 (.ofNat 1)))),σ 91 (.mv (.t 90)),τ 92 (.mv (.t 1)) 91 false,τ 93 (.mv (.t 10)) 91 false,τ 94 (.nilchk (.t 93)) 91 false,τ 95 (.faddr 0 (.t 94)) 91 false,τ 96 (.load 1 false (.t 95)) 91 false,τ 97 (.bin .sub (.t 92) (.t 96)) 91 false,τ 98 (.mv (.t 10)) 91 false,τ 99 (.nilchk (.t 98)) 91 false,τ 100 (.faddr 2 (.t 99)) 91 false,τ 101 (.load 1 false (.t 100)) 91 false,τ 102 (.bin .rem (.t 97) (.t 101)) 91 false,τ 103 (.bin .eql (.t 102) (.c (.int .u16 (.ofNat 0)))) 91 false,σ 104 (.pick (.t 91) (.c (.bool true)) (.t 103)),σ 4 (.mv (.t 104))]
@[simp] def f166r19:Ω:=[σ 105 (.mv (.t 1)),σ 106 (.mv (.t 10)),σ 107 (.nilchk (.t 106)),σ 108 (.faddr 0 (.t 107)),σ 109 (.load 1 false (.t 108)),σ 110 (.bin .lss (.t 105) (.t 109))]
@[simp] def f166r20:Ω:=[σ 111 (.mv (.t 9)),σ 8 (.mv (.t 111))]
@[simp] def f166r21:Ω:=[σ 112 (.mv (.t 9)),σ 113 (.bin .add (.t 112) (κ 1)),σ 7 (.mv (.t 113))]
def f166B1:RC:=(.seq (.seq (.region f166r14 [0,1,7,8,62]) (.cond (.t 62) .skip (.exit 2))) (.block 3 (.seq (.region f166r15 [0,1,7,8,9]) (.seq (.region f166r16 [0,1,7,8,9,10]) (.seq (.seq (.region f166r17 [0,1,7,8,9,10,85]) (.cond (.t 85) (.seq (.dregion f166r18 [] [] [4]) .ret) .skip)) (.seq (.region f166r19 [0,1,7,8,9,110]) (.cond (.t 110) (.region f166r20 [0,1,7,8]) (.region f166r21 [0,1,7,8]))))))))
def f166L1:RC:=.loop [0,1,7,8] f166B1
@[simp] def f166r22:Ω:=[σ 4 (.mv (.c (.bool false)))]
def f166:RFunc:=⟨[.t 4],(.seq (.region f166r0 [0,1]) (.seq (.seq (.region f166r1 [0,1,17]) (.cond (.t 17) (.seq (.seq (.region f166r2 [0,1,19,20]) (.block 0 f166L0)) (.seq (.region f166r11 [4]) .ret)) .skip)) (.seq (.region f166r12 [0,1,7]) (.seq (.region f166r13 [0,1,7,8]) (.seq (.block 2 f166L1) (.seq (.region f166r22 [4]) .ret)))))),true⟩
@[simp] def f167r0:Ω:=[σ 4 (.mv (.c (.bool false)))]
@[simp] def f167r1:Ω:=[σ 11 (.mv (.t 0)),σ 12 (.len .slice (.t 11)),σ 13 (.bin .leq (.t 12) (κ 18))]
@[simp] def f167r2:Ω:=[σ 14 (.mv (.t 0)),σ 15 (.len .slice (.t 14)),σ 16 (.mv (κ 0))]
@[simp] def f167r3:Ω:=[σ 17 (.bin .lss (.t 16) (.t 15))]
@[simp] def f167r4:Ω:=[σ 18 (.mv (.t 16)),σ 5 (.mv (.t 18))]
@[simp] def f167r5:Ω:=[σ 19 (.mv (.t 0)),σ 20 (.mv (.t 5)),σ 21 (.iaddr 3 (.t 19) (.t 20)),σ 6 (.mv (.t 21))]
@[simp] def f167r6:Ω:=[σ 22 (.mv (.t 1)),σ 23 (.mv (.t 6)),σ 24 (.nilchk (.t 23)),σ 25 (.faddr 0 (.t 24)),σ 26 (.load 1 false (.t 25)),σ 27 (.bin .lss (.t 22) (.t 26))]
@[simp] def f167r7:Ω:=[σ 4 (.mv (.c (.bool false)))]
@[simp] def f167r8:Ω:=[σ 28 (.mv (.t 1)),σ 29 (.mv (.t 6)),σ 30 (.nilchk (.t 29)),σ 31 (.faddr 1 (.t 30)),σ 32 (.load 1 false (.t 31)),σ 33 (.bin .leq (.t 28) (.t 32))]
@[simp] def f167r9:Ω:=[σ 34 (.mv (.t 6)),σ 35 (.nilchk (.t 34)),σ 36 (.faddr 2 (.t 35)),σ 37 (.load 1 false (.t 36)),σ 38 (.bin .eql (.t 37) (.c (.int .u32 (.ofNat 1)))),σ 39 (.mv (.t 38)),τ 40 (.mv (.t 1)) 39 false,τ 41 (.mv (.t 6)) 39 false,τ 42 (.nilchk (.t 41)) 39 false,τ 43 (.faddr 0 (.t 42)) 39 false,τ 44 (.load 1 false (.t 43)) 39 false,τ 45 (.bin .sub (.t 40) (.t 44)) 39 false,τ 46 (.mv (.t 6)) 39 false,τ 47 (.nilchk (.t 46)) 39 false,τ 48 (.faddr 2 (.t 47)) 39 false,τ 49 (.load 1 false (.t 48)) 39 false,τ 50 (.bin .rem (.t 45) (.t 49)) 39 false,τ 51 (.bin .eql (.t 50) (.c (.int .u32 (.ofNat 0)))) 39 false,σ 52 (.pick (.t 39) (.c (.bool true)) (.t 51)),σ 4 (.mv (.t 52))]
@[simp] def f167r10:Ω:=[σ 53 (.bin .add (.t 16) (κ 1)),σ 16 (.mv (.t 53))]
def f167B0:RC:=(.seq (.region f167r3 [0,1,15,16,17]) (.seq (.cond (.t 17) .skip (.exit 0)) (.seq (.block 1 (.seq (.region f167r4 [0,1,5,15,16]) (.seq (.region f167r5 [0,1,6,15,16]) (.seq (.seq (.region f167r6 [0,1,6,15,16,27]) (.cond (.t 27) (.seq (.region f167r7 [4]) .ret) .skip)) (.seq (.region f167r8 [0,1,6,15,16,33]) (.cond (.t 33) (.seq (.dregion f167r9 [] [] [4]) .ret) .skip)))))) (.region f167r10 [0,1,15,16]))))
def f167L0:RC:=.loop [0,1,15,16] f167B0
@[simp] def f167r11:Ω:=[σ 4 (.mv (.c (.bool false)))]
@[simp] def f167r12:Ω:=[σ 7 (.mv (κ 0))]
@[simp] def f167r13:Ω:=[σ 54 (.mv (.t 0)),σ 55 (.len .slice (.t 54)),σ 8 (.mv (.t 55))]
@[simp] def f167r14:Ω:=[σ 56 (.mv (.t 7)),σ 57 (.mv (.t 8)),σ 58 (.bin .lss (.t 56) (.t 57))]
@[simp] def f167r15:Ω:=[σ 59 (.mv (.t 7)),σ 60 (.mv (.t 8)),σ 61 (.bin .add (.t 59) (.t 60)),σ 62 (.i2i .u64 (.t 61)),σ 63 (.bin .shr (.t 62) (.c (.int .u64 (.ofNat 1)))),σ 64 (.i2i .i64 (.t 63)),σ 9 (.mv (.t 64))]
@[simp] def f167r16:Ω:=[σ 65 (.mv (.t 0)),σ 66 (.mv (.t 9)),σ 67 (.iaddr 3 (.t 65) (.t 66)),σ 68 (.load 3 true (.t 67)),σ 10 (.alloc [(.int .u32 (.ofNat 0)),(.int .u32 (.ofNat 0)),(.int .u32 (.ofNat 0))]),⟨none,.store 3 (.t 10) (.t 68),none⟩]
@[simp] def f167r17:Ω:=[σ 69 (.faddr 0 (.t 10)),σ 70 (.load 1 false (.t 69)),σ 71 (.mv (.t 1)),σ 72 (.bin .leq (.t 70) (.t 71)),σ 73 (.mv (.t 72)),τ 74 (.mv (.t 1)) 73 true,τ 75 (.faddr 1 (.t 10)) 73 true,τ 76 (.load 1 false (.t 75)) 73 true,τ 77 (.bin .leq (.t 74) (.t 76)) 73 true,σ 78 (.pick (.t 73) (.t 77) (.c (.bool false)))]
@[simp] def f167r18:Ω:=[σ 79 (.faddr 2 (.t 10)),σ 80 (.load 1 false (.t 79)),σ 81 (.bin .eql (.t 80) (.c (.int .u32 (.ofNat 1)))),σ 82 (.mv (.t 81)),τ 83 (.mv (.t 1)) 82 false,τ 84 (.faddr 0 (.t 10)) 82 false,τ 85 (.load 1 false (.t 84)) 82 false,τ 86 (.bin .sub (.t 83) (.t 85)) 82 false,τ 87 (.faddr 2 (.t 10)) 82 false,τ 88 (.load 1 false (.t 87)) 82 false,τ 89 (.bin .rem (.t 86) (.t 88)) 82 false,τ 90 (.bin .eql (.t 89) (.c (.int .u32 (.ofNat 0)))) 82 false,σ 91 (.pick (.t 82) (.c (.bool true)) (.t 90)),σ 4 (.mv (.t 91))]
@[simp] def f167r19:Ω:=[σ 92 (.mv (.t 1)),σ 93 (.faddr 0 (.t 10)),σ 94 (.load 1 false (.t 93)),σ 95 (.bin .lss (.t 92) (.t 94))]
@[simp] def f167r20:Ω:=[σ 96 (.mv (.t 9)),σ 8 (.mv (.t 96))]
@[simp] def f167r21:Ω:=[σ 97 (.mv (.t 9)),σ 98 (.bin .add (.t 97) (κ 1)),σ 7 (.mv (.t 98))]
def f167B1:RC:=(.seq (.seq (.region f167r14 [0,1,7,8,58]) (.cond (.t 58) .skip (.exit 2))) (.block 3 (.seq (.region f167r15 [0,1,7,8,9]) (.seq (.region f167r16 [0,1,7,8,9,10]) (.seq (.seq (.region f167r17 [0,1,7,8,9,10,78]) (.cond (.t 78) (.seq (.region f167r18 [4]) .ret) .skip)) (.seq (.region f167r19 [0,1,7,8,9,95]) (.cond (.t 95) (.region f167r20 [0,1,7,8]) (.region f167r21 [0,1,7,8]))))))))
def f167L1:RC:=.loop [0,1,7,8] f167B1
@[simp] def f167r22:Ω:=[σ 4 (.mv (.c (.bool false)))]
def f167:RFunc:=⟨[.t 4],(.seq (.region f167r0 [0,1]) (.seq (.seq (.region f167r1 [0,1,13]) (.cond (.t 13) (.seq (.seq (.region f167r2 [0,1,15,16]) (.block 0 f167L0)) (.seq (.region f167r11 [4]) .ret)) .skip)) (.seq (.region f167r12 [0,1,7]) (.seq (.region f167r13 [0,1,7,8]) (.seq (.block 2 f167L1) (.seq (.region f167r22 [4]) .ret)))))),true⟩
@[simp] def f202r0:Ω:=[σ 0 (.mv (.c (.bool false)))]
@[simp] def f202r1:Ω:=[σ 8 (.lit 1 false [(.int .i64 (.ofNat 0))] 10 [(0,(κ 0)),(1,(κ 5)),(2,(κ 5)),(3,(κ 3)),(4,(κ 8)),(5,(κ 5)),(6,(κ 13)),(7,(κ 3)),(8,(κ 16)),(9,(κ 5))]),σ 1 (.mv (.t 8))]
@[simp] def f202r2:Ω:=[σ 9 (.call 207 []),σ 10 (.mv (.t 9)),τ 11 (.call 209 [(κ 0)]) 10 true,τ 12 (.build [(.int .i64 (.ofNat 0)),(.int .i64 (.ofNat 0)),(.int .i64 (.ofNat 0)),(.int .i64 (.ofNat 0)),(.int .i64 (.ofNat 0)),(.bool false),(.int .i64 (.ofNat 0))] [(1,1,(κ 5)),(3,1,(κ 30))]) 10 true,τ 13 (.mv (.t 1)) 10 true,τ 14 (.call 208 [(.t 11),(.t 12),(.c (.bool false)),(.t 13)]) 10 true,σ 15 (.pick (.t 10) (.t 14) (.c (.bool false))),σ 16 (.mv (.t 15)),τ 17 (.call 209 [(κ 2)]) 16 true,τ 18 (.build [(.int .i64 (.ofNat 0)),(.int .i64 (.ofNat 0)),(.int .i64 (.ofNat 0)),(.int .i64 (.ofNat 0)),(.int .i64 (.ofNat 0)),(.bool false),(.int .i64 (.ofNat 0))] [(1,1,(κ 5)),(3,1,(κ 30))]) 16 true,τ 19 (.lit 1 false [(.int .i64 (.ofNat 0))] 10 [(0,(κ 9)),(1,(κ 5)),(2,(κ 14)),(3,(κ 3)),(4,(κ 17)),(5,(κ 5)),(6,(κ 22)),(7,(κ 3)),(8,(κ 25)),(9,(κ 5))]) 16 true,τ 20 (.call 208 [(.t 17),(.t 18),(.c (.bool false)),(.t 19)]) 16 true,σ 21 (.pick (.t 16) (.t 20) (.c (.bool false))),σ 22 (.mv (.t 21)),τ 23 (.call 209 [(κ 3)]) 22 true,τ 24 (.build [(.int .i64 (.ofNat 0)),(.int .i64 (.ofNat 0)),(.int .i64 (.ofNat 0)),(.int .i64 (.ofNat 0)),(.int .i64 (.ofNat 0)),(.bool false),(.int .i64 (.ofNat 0))] [(1,1,(κ 5)),(3,1,(κ 30))]) 22 true,τ 25 (.lit 1 false [(.int .i64 (.ofNat 0))] 10 [(0,(κ 4)),(1,(κ 5)),(2,(κ 9)),(3,(κ 3)),(4,(κ 12)),(5,(κ 5)),(6,(κ 17)),(7,(κ 3)),(8,(κ 20)),(9,(κ 5))]) 22 true,τ 26 (.call 208 [(.t 23),(.t 24),(.c (.bool false)),(.t 25)]) 22 true,σ 27 (.pick (.t 22) (.t 26) (.c (.bool false))),σ 2 (.mv (.t 27))]
@[simp] def f202r3:Ω:=[σ 28 (.call 209 [(κ 1)]),σ 29 (.build [(.int .i64 (.ofNat 0)),(.int .i64 (.ofNat 0)),(.int .i64 (.ofNat 0)),(.int .i64 (.ofNat 0)),(.int .i64 (.ofNat 0)),(.bool false),(.int .i64 (.ofNat 0))] [(1,1,(κ 5)),(3,1,(κ 20))]),σ 30 (.lit 1 false [(.int .i64 (.ofNat 0))] 10 [(0,(κ 0)),(1,(κ 5)),(2,(κ 5)),(3,(κ 3)),(4,(κ 8)),(5,(κ 5)),(6,(κ 13)),(7,(κ 2)),(8,(κ 15)),(9,(κ 5))]),σ 31 (.call 208 [(.t 28),(.t 29),(.c (.bool false)),(.t 30)]),σ 32 (.mv (.t 31)),τ 33 (.call 209 [(κ 1)]) 32 true,τ 34 (.build [(.int .i64 (.ofNat 0)),(.int .i64 (.ofNat 0)),(.int .i64 (.ofNat 0)),(.int .i64 (.ofNat 0)),(.int .i64 (.ofNat 0)),(.bool false),(.int .i64 (.ofNat 0))] [(1,1,(κ 5)),(3,1,(κ 24))]) 32 true,τ 35 (.mv (.t 1)) 32 true,τ 36 (.call 208 [(.t 33),(.t 34),(.c (.bool true)),(.t 35)]) 32 true,σ 37 (.pick (.t 32) (.t 36) (.c (.bool false))),σ 3 (.mv (.t 37))]
@[simp] def f202r4:Ω:=[σ 38 (.call 209 [(κ 0)]),σ 39 (.build [(.int .i64 (.ofNat 0)),(.int .i64 (.ofNat 0)),(.int .i64 (.ofNat 0)),(.int .i64 (.ofNat 0)),(.int .i64 (.ofNat 0)),(.bool false),(.int .i64 (.ofNat 0))] [(1,1,(κ 4)),(3,1,(κ 30)),(5,1,(.c (.bool true)))]),σ 40 (.lit 1 false [(.int .i64 (.ofNat 0))] 10 [(0,(κ 0)),(1,(κ 5)),(2,(κ 5)),(3,(κ 3)),(4,(κ 8)),(5,(κ 5)),(6,(κ 13)),(7,(κ 0)),(8,(κ 13)),(9,(κ 3))]),σ 41 (.call 208 [(.t 38),(.t 39),(.c (.bool false)),(.t 40)]),σ 4 (.mv (.t 41))]
@[simp] def f202r5:Ω:=[σ 42 (.call 105 [(.c (.str [32,97,98]))]),σ 5 (.alloc [(.str []),(.list 0 0 .no false []),(.int .i64 (.ofNat 0)),(.int .i64 (.ofNat 0)),(.int .i64 (.ofNat 0)),(.int .i64 (.ofNat 0)),(.int .i64 (.ofNat 0)),(.int .i64 (.ofNat 0)),(.int .i64 (.ofNat 0)),(.int .i64 (.ofNat 0)),(.int .i64 (.ofNat 0)),(.int .i64 (.ofNat 0)),(.int .i64 (.ofNat 0)),(.int .i64 (.ofNat 0)),(.int .i64 (.ofNat 0)),(.int .i64 (.ofNat 0)),(.int .i64 (.ofNat 0)),(.int .i64 (.ofNat 0)),(.int .i64 (.ofNat 0)),(.str []),(.list 0 0 .no false [])]),⟨none,.store 21 (.t 5) (.t 42),none⟩]
@[simp] def f202r6:Ω:=[σ 43 (.faddr 2 (.t 5)),σ 44 (.faddr 2 (.t 43)),⟨none,.store 1 (.t 44) (κ 2),none⟩]
@[simp] def f202r7:Ω:=[σ 45 (.mv (.t 4)),σ 46 (.mv (.t 45)),τ 47 (.load 21 true (.t 5)) 46 true,τ 48 (.build [(.int .i64 (.ofNat 0)),(.int .i64 (.ofNat 0)),(.int .i64 (.ofNat 0)),(.int .i64 (.ofNat 0)),(.int .i64 (.ofNat 0)),(.bool false),(.int .i64 (.ofNat 0))] [(1,1,(κ 3)),(3,1,(κ 30))]) 46 true,τ 49 (.lit 1 false [(.int .i64 (.ofNat 0))] 6 [(0,(κ 20)),(1,(κ 0)),(2,(κ 20)),(3,(κ 5)),(4,(κ 25)),(5,(κ 5))]) 46 true,τ 50 (.call 208 [(.t 47),(.t 48),(.c (.bool false)),(.t 49)]) 46 true,σ 51 (.pick (.t 46) (.t 50) (.c (.bool false))),σ 4 (.mv (.t 51))]
@[simp] def f202r8:Ω:=[σ 53 (.call 209 [(κ 0)]),σ 54 (.build [(.int .i64 (.ofNat 0)),(.int .i64 (.ofNat 0)),(.int .i64 (.ofNat 0)),(.int .i64 (.ofNat 0)),(.int .i64 (.ofNat 0)),(.bool false),(.int .i64 (.ofNat 0))] [(0,1,(κ 2)),(1,1,(κ 1))]),σ 55 (.call 210 [(.t 53),(.t 54),(.c (.bool false))]),σ 52 (.mv (.t 55)),σ 56 (.extract (.t 52) 0),σ 57 (.extract (.t 52) 1),σ 6 (.mv (.t 56)),σ 7 (.mv (.t 57))]
@[simp] def f202r9:Ω:=[σ 58 (.mv (.t 2)),σ 59 (.mv (.t 58)),τ 60 (.mv (.t 3)) 59 true,σ 61 (.pick (.t 59) (.t 60) (.c (.bool false))),σ 62 (.mv (.t 61)),τ 63 (.mv (.t 4)) 62 true,σ 64 (.pick (.t 62) (.t 63) (.c (.bool false))),σ 65 (.mv (.t 64)),τ 66 (.mv (.t 7)) 65 true,τ 67 (.bin .eql (.t 66) (κ 5)) 65 true,σ 68 (.pick (.t 65) (.t 67) (.c (.bool false))),σ 0 (.mv (.t 68))]
def f202:RFunc:=⟨[.t 0],(.seq (.region f202r0 []) (.seq (.region f202r1 [1]) (.seq (.region f202r2 [1,2]) (.seq (.region f202r3 [2,3]) (.seq (.region f202r4 [2,3,4]) (.seq (.region f202r5 [2,3,4,5]) (.seq (.region f202r6 [2,3,4,5]) (.seq (.region f202r7 [2,3,4]) (.seq (.region f202r8 [2,3,4,7]) (.seq (.region f202r9 [0]) .ret)))))))))),true⟩
@[simp] def f205r0:Ω:=[σ 3 (.box 21 (.t 0)),σ 4 (.box 7 (.t 1)),σ 6 (.mv (.c (.bool false)))]
@[simp] def f205r1:Ω:=[σ 22 (.call 202 []),σ 7 (.mv (.t 22))]
@[simp] def f205r2:Ω:=[σ 24 (.load 21 true (.t 3)),σ 25 (.load 7 true (.t 4)),σ 26 (.mv (.t 2)),σ 27 (.call 214 [(.t 24),(.t 25),(.t 26)]),σ 23 (.mv (.t 27)),σ 28 (.extract (.t 23) 0),σ 29 (.extract (.t 23) 1),σ 8 (.mv (.t 28)),σ 9 (.mv (.t 29))]
@[simp] def f205r3:Ω:=[σ 31 (.load 21 true (.t 3)),σ 32 (.call 211 [(.t 31)]),σ 30 (.mv (.t 32)),σ 33 (.extract (.t 30) 0),σ 34 (.extract (.t 30) 1),σ 10 (.mv (.t 33)),σ 11 (.mv (.t 34))]
@[simp] def f205r4:Ω:=[σ 35 (.mv (.t 9)),σ 36 (.bin .neq (.t 35) (κ 0)),σ 37 (.mv (.t 36)),τ 38 (.mv (.t 11)) 37 false,τ 39 (.bin .neq (.t 38) (κ 0)) 37 false,σ 40 (.pick (.t 37) (.c (.bool true)) (.t 39)),σ 41 (.mv (.t 40)),τ 42 (.mv (.t 10)) 41 false,τ 43 (.bin .gtr (.t 42) (κ 0)) 41 false,σ 44 (.pick (.t 41) (.c (.bool true)) (.t 43)),σ 45 (.mv (.t 44)),τ 46 (.faddr 0 (.t 3)) 45 false,τ 47 (.load 1 false (.t 46)) 45 false,τ 48 (.len .str (.t 47)) 45 false,τ 49 (.bin .gtr (.t 48) (κ 400)) 45 false,σ 50 (.pick (.t 45) (.c (.bool true)) (.t 49)),σ 51 (.mv (.t 50)),τ 52 (.faddr 0 (.t 4)) 51 false,τ 53 (.load 1 false (.t 52)) 51 false,τ 54 (.faddr 1 (.t 4)) 51 false,τ 55 (.load 1 false (.t 54)) 51 false,τ 56 (.bin .eql (.t 53) (.t 55)) 51 false,τ 57 (.mv (.t 56)) 51 false,τ 58 (.faddr 5 (.t 4)) 57 true,τ 59 (.load 1 false (.t 58)) 57 true,τ 60 (.un .not (.t 59)) 57 true,τ 61 (.pick (.t 57) (.t 60) (.c (.bool false))) 51 false,σ 62 (.pick (.t 51) (.c (.bool true)) (.t 61))]
@[simp] def f205r5:Ω:=[σ 63 (.mv (.t 7)),σ 6 (.mv (.t 63))]
@[simp] def f205r6:Ω:=[σ 64 (.load 21 true (.t 3)),σ 65 (.call 9 [(.t 64)]),σ 12 (.alloc [(.str []),(.list 0 0 .no false []),(.int .i64 (.ofNat 0)),(.int .i64 (.ofNat 0)),(.int .i64 (.ofNat 0)),(.int .i64 (.ofNat 0)),(.int .i64 (.ofNat 0)),(.int .i64 (.ofNat 0)),(.int .i64 (.ofNat 0)),(.int .i64 (.ofNat 0)),(.int .i64 (.ofNat 0)),(.int .i64 (.ofNat 0)),(.int .i64 (.ofNat 0)),(.int .i64 (.ofNat 0)),(.int .i64 (.ofNat 0)),(.int .i64 (.ofNat 0)),(.int .i64 (.ofNat 0)),(.int .i64 (.ofNat 0)),(.int .i64 (.ofNat 0)),(.str []),(.list 0 0 .no false [])]),⟨none,.store 21 (.t 12) (.t 65),none⟩]
@[simp] def f205r7:Ω:=[σ 66 (.faddr 2 (.t 12)),σ 67 (.faddr 2 (.t 66)),⟨none,.store 1 (.t 67) (κ 0),none⟩]
@[simp] def f205r8:Ω:=[σ 69 (.load 21 true (.t 12)),σ 70 (.load 7 true (.t 4)),σ 71 (.mv (.t 2)),σ 72 (.call 214 [(.t 69),(.t 70),(.t 71)]),σ 68 (.mv (.t 72)),σ 73 (.extract (.t 68) 0),σ 74 (.extract (.t 68) 1),σ 13 (.mv (.t 73)),σ 14 (.mv (.t 74))]
@[simp] def f205r9:Ω:=[σ 75 (.mv (.t 14)),σ 76 (.bin .neq (.t 75) (κ 0))]
@[simp] def f205r10:Ω:=[σ 6 (.mv (.c (.bool false)))]
@[simp] def f205r11:Ω:=[σ 77 (.faddr 2 (.t 4)),σ 78 (.load 1 false (.t 77)),σ 79 (.faddr 3 (.t 4)),σ 80 (.load 1 false (.t 79)),σ 81 (.bin .add (.t 78) (.t 80)),σ 82 (.mv (.t 13)),σ 83 (.bin .sub (.t 81) (.t 82)),σ 15 (.mv (.t 83))]
@[simp] def f205r12:Ω:=[σ 84 (.mv (.t 15)),σ 85 (.bin .geq (.t 84) (κ 0)),σ 86 (.mv (.t 85)),τ 87 (.mv (.t 8)) 86 true,τ 88 (.faddr 2 (.t 4)) 86 true,τ 89 (.load 1 false (.t 88)) 86 true,τ 90 (.faddr 3 (.t 4)) 86 true,τ 91 (.load 1 false (.t 90)) 86 true,τ 92 (.bin .add (.t 89) (.t 91)) 86 true,τ 93 (.bin .gtr (.t 87) (.t 92)) 86 true,σ 94 (.pick (.t 86) (.t 93) (.c (.bool false)))]
@[simp] def f205r13:Ω:=[σ 6 (.mv (.c (.bool false)))]
@[simp] def f205r14:Ω:=[σ 16 (.mv (κ 0)),σ 17 (.mv (κ 0))]
@[simp] def f205r15:Ω:=[σ 18 (.mv (.c (.bool false)))]
@[simp] def f205r16:Ω:=[σ 95 (.faddr 0 (.t 4)),σ 96 (.load 1 false (.t 95)),σ 19 (.mv (.t 96))]
@[simp] def f205r17:Ω:=[σ 97 (.mv (.t 19)),σ 98 (.faddr 1 (.t 4)),σ 99 (.load 1 false (.t 98)),σ 100 (.bin .lss (.t 97) (.t 99)),σ 101 (.mv (.t 100)),τ 102 (.faddr 0 (.t 4)) 101 true,τ 103 (.load 1 false (.t 102)) 101 true,τ 104 (.bin .eql (.t 103) (κ 0)) 101 true,σ 105 (.pick (.t 101) (.t 104) (.c (.bool false))),σ 106 (.mv (.t 105)),τ 107 (.faddr 0 (.t 3)) 106 true,τ 108 (.load 1 false (.t 107)) 106 true,τ 109 (.mv (.t 19)) 106 true,τ 110 (.index (.t 108) (.t 109)) 106 true,τ 111 (.bin .eql (.t 110) (.c (.int .u8 (.ofNat 32)))) 106 true,σ 112 (.pick (.t 106) (.t 111) (.c (.bool false)))]
@[simp] def f205r18:Ω:=[σ 113 (.mv (.t 19)),σ 114 (.bin .add (.t 113) (κ 1)),σ 19 (.mv (.t 114))]
def f205B0:RC:=(.seq (.seq (.region f205r17 [2,3,4,7,8,13,15,16,17,18,19,112]) (.cond (.t 112) .skip (.exit 0))) (.block 1 (.region f205r18 [2,3,4,7,8,13,15,16,17,18,19])))
def f205L0:RC:=.loop [2,3,4,7,8,13,15,16,17,18,19] f205B0
@[simp] def f205r19:Ω:=[σ 115 (.faddr 1 (.t 4)),σ 116 (.load 1 false (.t 115)),σ 117 (.bin .sub (.t 116) (κ 1)),σ 20 (.mv (.t 117))]
@[simp] def f205r20:Ω:=[σ 118 (.mv (.t 20)),σ 119 (.mv (.t 19)),σ 120 (.bin .geq (.t 118) (.t 119))]
@[simp] def f205r21:Ω:=[σ 123 (.faddr 0 (.t 3)),σ 124 (.load 1 false (.t 123)),σ 125 (.mv (.t 20)),σ 126 (.index (.t 124) (.t 125)),σ 21 (.mv (.t 126))]
@[simp] def f205r22:Ω:=[σ 127 (.mv (.t 21)),σ 128 (.bin .eql (.t 127) (.c (.int .u8 (.ofNat 9))))]
@[simp] def f205r23:Ω:=[σ 129 (.mv (.t 17)),σ 130 (.bin .add (.t 129) (κ 1)),σ 17 (.mv (.t 130))]
@[simp] def f205r24:Ω:=[σ 131 (.mv (.t 21)),σ 132 (.bin .neq (.t 131) (.c (.int .u8 (.ofNat 32)))),σ 133 (.mv (.t 132)),τ 134 (.mv (.t 21)) 133 true,τ 135 (.bin .neq (.t 134) (.c (.int .u8 (.ofNat 31)))) 133 true,σ 136 (.pick (.t 133) (.t 135) (.c (.bool false)))]
@[simp] def f205r25:Ω:=[σ 18 (.mv (.c (.bool true)))]
@[simp] def f205r26:Ω:=[σ 137 (.mv (.t 21)),σ 138 (.bin .eql (.t 137) (.c (.int .u8 (.ofNat 32)))),σ 139 (.mv (.t 138)),τ 140 (.mv (.t 18)) 139 true,σ 141 (.pick (.t 139) (.t 140) (.c (.bool false)))]
@[simp] def f205r27:Ω:=[σ 142 (.mv (.t 16)),σ 143 (.bin .add (.t 142) (κ 1)),σ 16 (.mv (.t 143))]
@[simp] def f205r28:Ω:=[σ 121 (.mv (.t 20)),σ 122 (.bin .sub (.t 121) (κ 1)),σ 20 (.mv (.t 122))]
def f205B1:RC:=(.seq (.seq (.region f205r20 [2,3,4,7,8,13,15,16,17,18,19,20,120]) (.cond (.t 120) .skip (.exit 2))) (.seq (.block 3 (.seq (.region f205r21 [2,3,4,7,8,13,15,16,17,18,19,20,21]) (.seq (.seq (.region f205r22 [2,3,4,7,8,13,15,16,17,18,19,20,21,128]) (.cond (.t 128) (.region f205r23 [2,3,4,7,8,13,15,16,17,18,19,20,21]) .skip)) (.seq (.seq (.region f205r24 [2,3,4,7,8,13,15,16,17,18,19,20,21,136]) (.cond (.t 136) (.region f205r25 [2,3,4,7,8,13,15,16,17,18,19,20,21]) .skip)) (.seq (.region f205r26 [2,3,4,7,8,13,15,16,17,18,19,20,141]) (.cond (.t 141) (.region f205r27 [2,3,4,7,8,13,15,16,17,18,19,20]) .skip)))))) (.region f205r28 [2,3,4,7,8,13,15,16,17,18,19,20])))
def f205L1:RC:=.loop [2,3,4,7,8,13,15,16,17,18,19,20] f205B1
@[simp] def f205r29:Ω:=[σ 144 (.faddr 2 (.t 3)),σ 145 (.faddr 2 (.t 144)),σ 146 (.load 1 false (.t 145))]
@[simp] def f205r30:Ω:=[σ 148 (.bin .eql (.t 146) (κ 2)),σ 147 (.mv (.t 148))]
@[simp] def f205r31:Ω:=[σ 149 (.mv (.t 7)),σ 150 (.mv (.t 149)),τ 151 (.mv (.t 15)) 150 true,τ 152 (.bin .lss (.t 151) (κ 0)) 150 true,τ 153 (.mv (.t 152)) 150 true,τ 154 (.mv (.t 8)) 153 true,τ 155 (.mv (.t 13)) 153 true,τ 156 (.bin .eql (.t 154) (.t 155)) 153 true,τ 157 (.pick (.t 153) (.t 156) (.c (.bool false))) 150 true,τ 158 (.mv (.t 157)) 150 true,τ 159 (.mv (.t 15)) 158 false,τ 160 (.bin .geq (.t 159) (κ 0)) 158 false,τ 161 (.mv (.t 160)) 158 false,τ 162 (.mv (.t 8)) 161 true,τ 163 (.faddr 2 (.t 4)) 161 true,τ 164 (.load 1 false (.t 163)) 161 true,τ 165 (.faddr 3 (.t 4)) 161 true,τ 166 (.load 1 false (.t 165)) 161 true,τ 167 (.bin .add (.t 164) (.t 166)) 161 true,τ 168 (.bin .eql (.t 162) (.t 167)) 161 true,τ 169 (.pick (.t 161) (.t 168) (.c (.bool false))) 158 false,τ 170 (.pick (.t 158) (.c (.bool true)) (.t 169)) 150 true,σ 171 (.pick (.t 150) (.t 170) (.c (.bool false))),σ 6 (.mv (.t 171))]
@[simp] def f205r32:Ω:=[σ 173 (.bin .eql (.t 146) (κ 3)),σ 172 (.mv (.t 173))]
@[simp] def f205r33:Ω:=[σ 174 (.mv (.t 7)),σ 175 (.mv (.t 174)),τ 176 (.mv (.t 15)) 175 true,τ 177 (.bin .lss (.t 176) (κ 0)) 175 true,τ 178 (.mv (.t 177)) 175 true,τ 179 (.mv (.t 8)) 178 true,τ 180 (.mv (.t 13)) 178 true,τ 181 (.bin .eql (.t 179) (.t 180)) 178 true,τ 182 (.pick (.t 178) (.t 181) (.c (.bool false))) 175 true,τ 183 (.mv (.t 182)) 175 true,τ 184 (.mv (.t 15)) 183 false,τ 185 (.bin .geq (.t 184) (κ 0)) 183 false,τ 186 (.mv (.t 185)) 183 false,τ 187 (.mv (.t 8)) 186 true,τ 188 (.mv (.t 13)) 186 true,τ 189 (.mv (.t 15)) 186 true,τ 190 (.bin .quo (.t 189) (κ 2)) 186 true,τ 191 (.bin .add (.t 188) (.t 190)) 186 true,τ 192 (.bin .eql (.t 187) (.t 191)) 186 true,τ 193 (.pick (.t 186) (.t 192) (.c (.bool false))) 183 false,τ 194 (.pick (.t 183) (.c (.bool true)) (.t 193)) 175 true,σ 195 (.pick (.t 175) (.t 194) (.c (.bool false))),σ 6 (.mv (.t 195))]
@[simp] def f205r34:Ω:=[σ 197 (.bin .eql (.t 146) (κ 1)),σ 196 (.mv (.t 197))]
@[simp] def f205r35:Ω:=[σ 198 (.mv (.t 2)),σ 199 (.un .not (.t 198)),σ 200 (.mv (.t 199)),τ 201 (.mv (.t 17)) 200 true,τ 202 (.bin .eql (.t 201) (κ 0)) 200 true,σ 203 (.pick (.t 200) (.t 202) (.c (.bool false))),σ 204 (.mv (.t 203)),τ 205 (.mv (.t 16)) 204 true,τ 206 (.bin .gtr (.t 205) (κ 0)) 204 true,σ 207 (.pick (.t 204) (.t 206) (.c (.bool false))),σ 208 (.mv (.t 207)),τ 209 (.mv (.t 15)) 208 true,τ 210 (.bin .geq (.t 209) (κ 0)) 208 true,σ 211 (.pick (.t 208) (.t 210) (.c (.bool false)))]
@[simp] def f205r36:Ω:=[σ 212 (.mv (.t 7)),σ 213 (.mv (.t 212)),τ 214 (.mv (.t 8)) 213 true,τ 215 (.faddr 2 (.t 4)) 213 true,τ 216 (.load 1 false (.t 215)) 213 true,τ 217 (.faddr 3 (.t 4)) 213 true,τ 218 (.load 1 false (.t 217)) 213 true,τ 219 (.bin .add (.t 216) (.t 218)) 213 true,τ 220 (.bin .eql (.t 214) (.t 219)) 213 true,σ 221 (.pick (.t 213) (.t 220) (.c (.bool false))),σ 6 (.mv (.t 221))]
@[simp] def f205r37:Ω:=[σ 222 (.mv (.t 7)),σ 223 (.mv (.t 222)),τ 224 (.mv (.t 8)) 223 true,τ 225 (.mv (.t 13)) 223 true,τ 226 (.bin .leq (.t 224) (.t 225)) 223 true,σ 227 (.pick (.t 223) (.t 226) (.c (.bool false))),σ 6 (.mv (.t 227))]
@[simp] def f205r38:Ω:=[σ 228 (.mv (.t 7)),σ 229 (.mv (.t 228)),τ 230 (.mv (.t 8)) 229 true,τ 231 (.mv (.t 13)) 229 true,τ 232 (.bin .eql (.t 230) (.t 231)) 229 true,σ 233 (.pick (.t 229) (.t 232) (.c (.bool false))),σ 6 (.mv (.t 233))]
def f205:RFunc:=⟨[.t 6],(.seq (.region f205r0 [2,3,4]) (.seq (.region f205r1 [2,3,4,7]) (.seq (.region f205r2 [2,3,4,7,8,9]) (.seq (.region f205r3 [2,3,4,7,8,9,10,11]) (.seq (.seq (.region f205r4 [2,3,4,7,8,62]) (.cond (.t 62) (.seq (.region f205r5 [6]) .ret) .skip)) (.seq (.region f205r6 [2,3,4,7,8,12]) (.seq (.region f205r7 [2,3,4,7,8,12]) (.seq (.region f205r8 [2,3,4,7,8,13,14]) (.seq (.seq (.region f205r9 [2,3,4,7,8,13,76]) (.cond (.t 76) (.seq (.region f205r10 [6]) .ret) .skip)) (.seq (.region f205r11 [2,3,4,7,8,13,15]) (.seq (.seq (.region f205r12 [2,3,4,7,8,13,15,94]) (.cond (.t 94) (.seq (.region f205r13 [6]) .ret) .skip)) (.seq (.region f205r14 [2,3,4,7,8,13,15,16,17]) (.seq (.region f205r15 [2,3,4,7,8,13,15,16,17,18]) (.seq (.region f205r16 [2,3,4,7,8,13,15,16,17,18,19]) (.seq (.block 0 f205L0) (.seq (.seq (.region f205r19 [2,3,4,7,8,13,15,16,17,18,19,20]) (.block 2 f205L1)) (.seq (.seq (.region f205r29 [2,4,7,8,13,15,16,17,146]) (.block 4 (.seq (.region f205r30 [2,4,7,8,13,15,16,17,146,147]) (.cond (.t 147) (.seq (.region f205r31 [6]) .ret) (.seq (.region f205r32 [2,4,7,8,13,15,16,17,146,172]) (.cond (.t 172) (.seq (.region f205r33 [6]) .ret) (.seq (.region f205r34 [2,4,7,8,13,15,16,17,196]) (.cond (.t 196) (.seq (.seq (.region f205r35 [4,7,8,13,211]) (.cond (.t 211) (.seq (.region f205r36 [6]) .ret) .skip)) (.seq (.region f205r37 [6]) .ret)) .skip)))))))) (.seq (.region f205r38 [6]) .ret)))))))))))))))))),true⟩
end Go.D.Tab
end
section
namespace Go.D.Tab
@[simp] def f207r0:Ω:=[σ 0 (.mv (.c (.bool false)))]
@[simp] def f207r1:Ω:=[σ 1 (.call 209 [(κ 1)]),σ 2 (.build [(.int .i64 (.ofNat 0)),(.int .i64 (.ofNat 0)),(.int .i64 (.ofNat 0)),(.int .i64 (.ofNat 0)),(.int .i64 (.ofNat 0)),(.bool false),(.int .i64 (.ofNat 0))] [(1,1,(κ 5)),(3,1,(κ 24))]),σ 3 (.lit 1 false [(.int .i64 (.ofNat 0))] 10 [(0,(κ 0)),(1,(κ 5)),(2,(κ 5)),(3,(κ 4)),(4,(κ 9)),(5,(κ 5)),(6,(κ 14)),(7,(κ 5)),(8,(κ 19)),(9,(κ 5))]),σ 4 (.call 208 [(.t 1),(.t 2),(.c (.bool false)),(.t 3)]),σ 0 (.mv (.t 4))]
def f207:RFunc:=⟨[.t 0],(.seq (.region f207r0 []) (.seq (.region f207r1 [0]) .ret)),true⟩
@[simp] def f208r0:Ω:=[σ 4 (.box 21 (.t 0)),σ 5 (.box 7 (.t 1)),σ 8 (.mv (.c (.bool false)))]
@[simp] def f208r1:Ω:=[σ 13 (.load 21 true (.t 4)),σ 14 (.load 7 true (.t 5)),σ 15 (.mv (.t 2)),σ 16 (.call 210 [(.t 13),(.t 14),(.t 15)]),σ 12 (.mv (.t 16)),σ 17 (.extract (.t 12) 0),σ 18 (.extract (.t 12) 1),σ 9 (.mv (.t 17)),σ 10 (.mv (.t 18))]
@[simp] def f208r2:Ω:=[σ 19 (.mv (.t 10)),σ 20 (.bin .neq (.t 19) (κ 0)),σ 21 (.mv (.t 20)),τ 22 (.mv (.t 9)) 21 false,τ 23 (.len .slice (.t 22)) 21 false,τ 24 (.bin .mul (κ 2) (.t 23)) 21 false,τ 25 (.mv (.t 3)) 21 false,τ 26 (.len .slice (.t 25)) 21 false,τ 27 (.bin .neq (.t 24) (.t 26)) 21 false,σ 28 (.pick (.t 21) (.c (.bool true)) (.t 27))]
@[simp] def f208r3:Ω:=[σ 8 (.mv (.c (.bool false)))]
@[simp] def f208r4:Ω:=[σ 11 (.mv (κ 0))]
@[simp] def f208r5:Ω:=[σ 29 (.mv (.t 11)),σ 30 (.mv (.t 9)),σ 31 (.len .slice (.t 30)),σ 32 (.bin .lss (.t 29) (.t 31))]
@[simp] def f208r6:Ω:=[σ 35 (.mv (.t 9)),σ 36 (.mv (.t 11)),σ 37 (.iaddr 4 (.t 35) (.t 36)),σ 38 (.faddr 2 (.t 37)),σ 39 (.load 1 false (.t 38)),σ 40 (.mv (.t 3)),σ 41 (.mv (.t 11)),σ 42 (.bin .mul (κ 2) (.t 41)),σ 43 (.iaddr 1 (.t 40) (.t 42)),σ 44 (.load 1 false (.t 43)),σ 45 (.bin .neq (.t 39) (.t 44)),σ 46 (.mv (.t 45)),τ 47 (.mv (.t 9)) 46 false,τ 48 (.mv (.t 11)) 46 false,τ 49 (.iaddr 4 (.t 47) (.t 48)) 46 false,τ 50 (.faddr 3 (.t 49)) 46 false,τ 51 (.load 1 false (.t 50)) 46 false,τ 52 (.mv (.t 3)) 46 false,τ 53 (.mv (.t 11)) 46 false,τ 54 (.bin .mul (κ 2) (.t 53)) 46 false,τ 55 (.bin .add (.t 54) (κ 1)) 46 false,τ 56 (.iaddr 1 (.t 52) (.t 55)) 46 false,τ 57 (.load 1 false (.t 56)) 46 false,τ 58 (.bin .neq (.t 51) (.t 57)) 46 false,σ 59 (.pick (.t 46) (.c (.bool true)) (.t 58))]
@[simp] def f208r7:Ω:=[σ 8 (.mv (.c (.bool false)))]
@[simp] def f208r8:Ω:=[σ 33 (.mv (.t 11)),σ 34 (.bin .add (.t 33) (κ 1)),σ 11 (.mv (.t 34))]
def f208B0:RC:=(.seq (.seq (.region f208r5 [3,9,11,32]) (.cond (.t 32) .skip (.exit 0))) (.seq (.block 1 (.seq (.dregion f208r6 [] [] [3,9,11,59]) (.cond (.t 59) (.seq (.region f208r7 [8]) .ret) .skip))) (.region f208r8 [3,9,11])))
def f208L0:RC:=.loop [3,9,11] f208B0
@[simp] def f208r9:Ω:=[σ 8 (.mv (.c (.bool true)))]
def f208:RFunc:=⟨[.t 8],(.seq (.region f208r0 [2,3,4,5]) (.seq (.region f208r1 [3,9,10]) (.seq (.seq (.region f208r2 [3,9,28]) (.cond (.t 28) (.seq (.region f208r3 [8]) .ret) .skip)) (.seq (.seq (.region f208r4 [3,9,11]) (.block 0 f208L0)) (.seq (.region f208r9 [8]) .ret))))),true⟩
@[simp] def f209r0:Ω:=[σ 2 (.alloc [(.str []),(.list 0 0 .no false []),(.int .i64 (.ofNat 0)),(.int .i64 (.ofNat 0)),(.int .i64 (.ofNat 0)),(.int .i64 (.ofNat 0)),(.int .i64 (.ofNat 0)),(.int .i64 (.ofNat 0)),(.int .i64 (.ofNat 0)),(.int .i64 (.ofNat 0)),(.int .i64 (.ofNat 0)),(.int .i64 (.ofNat 0)),(.int .i64 (.ofNat 0)),(.int .i64 (.ofNat 0)),(.int .i64 (.ofNat 0)),(.int .i64 (.ofNat 0)),(.int .i64 (.ofNat 0)),(.int .i64 (.ofNat 0)),(.int .i64 (.ofNat 0)),(.str []),(.list 0 0 .no false [])])]
@[simp] def f209r1:Ω:=[σ 4 (.call 105 [(.c (.str [97,32,98,32,99]))]),σ 3 (.alloc [(.str []),(.list 0 0 .no false []),(.int .i64 (.ofNat 0)),(.int .i64 (.ofNat 0)),(.int .i64 (.ofNat 0)),(.int .i64 (.ofNat 0)),(.int .i64 (.ofNat 0)),(.int .i64 (.ofNat 0)),(.int .i64 (.ofNat 0)),(.int .i64 (.ofNat 0)),(.int .i64 (.ofNat 0)),(.int .i64 (.ofNat 0)),(.int .i64 (.ofNat 0)),(.int .i64 (.ofNat 0)),(.int .i64 (.ofNat 0)),(.int .i64 (.ofNat 0)),(.int .i64 (.ofNat 0)),(.int .i64 (.ofNat 0)),(.int .i64 (.ofNat 0)),(.str []),(.list 0 0 .no false [])]),⟨none,.store 21 (.t 3) (.t 4),none⟩]
@[simp] def f209r2:Ω:=[σ 5 (.mv (.t 0)),σ 6 (.faddr 2 (.t 3)),σ 7 (.faddr 2 (.t 6)),⟨none,.store 1 (.t 7) (.t 5),none⟩]
@[simp] def f209r3:Ω:=[σ 8 (.load 21 true (.t 3)),⟨none,.store 21 (.t 2) (.t 8),none⟩]
def f209:RFunc:=⟨[.cell 2 21 true],(.seq (.region f209r0 [0,2]) (.seq (.region f209r1 [0,2,3]) (.seq (.region f209r2 [2,3]) (.seq (.region f209r3 [2]) .ret)))),true⟩
@[simp] def f210r0:Ω:=[σ 3 (.box 21 (.t 0)),σ 4 (.box 7 (.t 1)),σ 6 (.mv (.c (.list 0 0 .no false []))),σ 7 (.mv (κ 0))]
@[simp] def f210r1:Ω:=[σ 23 (.load 21 true (.t 3)),σ 24 (.call 13 [(.t 23)]),σ 8 (.mv (.t 24))]
@[simp] def f210r2:Ω:=[σ 25 (.mv (.t 8)),σ 26 (.bin .neq (.t 25) (κ 0))]
@[simp] def f210r3:Ω:=[σ 27 (.mv (.t 8)),σ 6 (.mv (.c (.list 0 0 .no false []))),σ 7 (.mv (.t 27))]
@[simp] def f210r4:Ω:=[σ 28 (.load 21 true (.t 3)),σ 29 (.load 7 true (.t 4)),σ 30 (.call 222 [(.t 28),(.t 29)]),σ 31 (.un .not (.t 30))]
@[simp] def f210r5:Ω:=[σ 6 (.mv (.c (.list 0 0 .no false []))),σ 7 (.mv (κ 5))]
@[simp] def f210r6:Ω:=[σ 32 (.load 21 true (.t 3)),σ 33 (.load 7 true (.t 4)),σ 34 (.call 223 [(.t 32),(.t 33)]),σ 9 (.alloc [(.list 0 0 .no false []),(.list 0 0 .no false []),(.int .i64 (.ofNat 0)),(.int .i64 (.ofNat 0)),(.int .i64 (.ofNat 0)),(.int .i64 (.ofNat 0))]),⟨none,.store 6 (.t 9) (.t 34),none⟩]
@[simp] def f210r7:Ω:=[σ 35 (.faddr 3 (.t 4)),σ 36 (.load 1 false (.t 35)),σ 37 (.load 6 true (.t 9)),σ 38 (.faddr 2 (.t 4)),σ 39 (.load 1 false (.t 38)),σ 40 (.call 224 [(.t 37),(.t 39),(.f 225)]),σ 41 (.faddr 5 (.t 9)),σ 42 (.load 1 false (.t 41)),σ 43 (.bin .add (.t 40) (.t 42)),σ 44 (.faddr 2 (.t 4)),σ 45 (.load 1 false (.t 44)),σ 46 (.bin .sub (.t 43) (.t 45)),σ 47 (.bin .sub (.t 36) (.t 46)),σ 10 (.alloc [(.int .i64 (.ofNat 0))]),⟨none,.store 1 (.t 10) (.t 47),none⟩]
@[simp] def f210r8:Ω:=[σ 49 (.load 6 true (.t 9)),σ 50 (.call 226 [(.t 49)]),σ 48 (.mv (.t 50)),σ 51 (.extract (.t 48) 0),σ 52 (.extract (.t 48) 1),σ 11 (.mv (.t 51)),σ 12 (.mv (.t 52))]
@[simp] def f210r9:Ω:=[σ 53 (.faddr 2 (.t 3)),σ 54 (.faddr 2 (.t 53)),σ 55 (.load 1 false (.t 54)),σ 56 (.bin .eql (.t 55) (κ 1)),σ 57 (.mv (.t 56)),τ 58 (.mv (.t 2)) 57 true,τ 59 (.un .not (.t 58)) 57 true,σ 60 (.pick (.t 57) (.t 59) (.c (.bool false))),σ 61 (.mv (.t 60)),τ 62 (.load 6 true (.t 9)) 61 true,τ 63 (.call 227 [(.t 62)]) 61 true,τ 64 (.un .not (.t 63)) 61 true,σ 65 (.pick (.t 61) (.t 64) (.c (.bool false))),σ 66 (.mv (.t 65)),τ 67 (.mv (.t 11)) 66 true,τ 68 (.bin .gtr (.t 67) (κ 0)) 66 true,σ 69 (.pick (.t 66) (.t 68) (.c (.bool false))),σ 70 (.mv (.t 69)),τ 71 (.load 1 false (.t 10)) 70 true,τ 72 (.bin .gtr (.t 71) (κ 0)) 70 true,τ 73 (.mv (.t 72)) 70 true,τ 74 (.load 1 false (.t 10)) 73 false,τ 75 (.bin .lss (.t 74) (κ 0)) 73 false,τ 76 (.mv (.t 75)) 73 false,τ 77 (.load 1 false (.t 10)) 76 true,τ 78 (.un .neg (.t 77)) 76 true,τ 79 (.mv (.t 12)) 76 true,τ 80 (.bin .leq (.t 78) (.t 79)) 76 true,τ 81 (.pick (.t 76) (.t 80) (.c (.bool false))) 73 false,τ 82 (.pick (.t 73) (.c (.bool true)) (.t 81)) 70 true,σ 83 (.pick (.t 70) (.t 82) (.c (.bool false))),σ 13 (.alloc [(.bool false)]),⟨none,.store 1 (.t 13) (.t 83),none⟩]
@[simp] def f210r10:Ω:=[σ 14 (.alloc [(.list 0 0 .no false [])])]
@[simp] def f210r11:Ω:=[σ 84 (.faddr 4 (.t 9)),σ 85 (.load 1 false (.t 84)),σ 86 (.bin .gtr (.t 85) (κ 0))]
@[simp] def f210r12:Ω:=[σ 87 (.load 1 false (.t 14)),σ 88 (.load 6 true (.t 9)),σ 89 (.load 21 true (.t 3)),σ 90 (.call 228 [(.t 88),(.t 89)]),σ 91 (.faddr 2 (.t 4)),σ 92 (.load 1 false (.t 91)),σ 93 (.faddr 4 (.t 9)),σ 94 (.load 1 false (.t 93)),σ 95 (.bin .sub (.t 92) (.t 94)),σ 96 (.faddr 4 (.t 9)),σ 97 (.load 1 false (.t 96)),σ 98 (.bin .sub (.t 97) (κ 4)),σ 99 (.build [(.int .i64 (.ofNat 0)),(.int .i64 (.ofNat 0)),(.int .i64 (.ofNat 0)),(.int .i64 (.ofNat 0))] [(0,1,(κ 0)),(1,1,(.t 90)),(2,1,(.t 95)),(3,1,(.t 98))]),σ 100 (.lit 4 true [(.int .i64 (.ofNat 0)),(.int .i64 (.ofNat 0)),(.int .i64 (.ofNat 0)),(.int .i64 (.ofNat 0))] 1 [(0,(.t 99))]),σ 101 (.append 4 true 32 (.t 87) (.t 100)),⟨none,.store 1 (.t 14) (.t 101),none⟩]
@[simp] def f210r13:Ω:=[σ 102 (.faddr 2 (.t 3)),σ 103 (.faddr 2 (.t 102)),σ 104 (.load 1 false (.t 103)),σ 105 (.load 1 false (.t 10)),σ 106 (.call 229 [(.t 104),(.t 105)]),σ 107 (.mv (.t 11)),σ 15 (.alloc [(.int .i64 (.ofNat 0))]),σ 16 (.alloc [(.int .i64 (.ofNat 0))]),σ 17 (.alloc [(.int .i64 (.ofNat 0))]),⟨none,.store 1 (.t 15) (.t 106),none⟩,⟨none,.store 1 (.t 16) (κ 0),none⟩,⟨none,.store 1 (.t 17) (.t 107),none⟩]
@[simp] def f210r14:Ω:=[σ 18 (.alloc [.nilfn]),⟨none,.store 1 (.t 18) (.f 230),none⟩]
@[simp] def f210r15:Ω:=[σ 108 (.load 1 false (.t 10)),σ 109 (.bin .lss (.t 108) (κ 0))]
@[simp] def f210r16:Ω:=[σ 110 (.mv (.t 12)),⟨none,.store 1 (.t 17) (.t 110),none⟩,⟨none,.store 1 (.t 18) (.f 231),none⟩]
@[simp] def f210r17:Ω:=[σ 111 (.mkfn 232 [] [(.t 13),(.t 10),(.t 16),(.t 17)]),σ 19 (.alloc [.nilfn]),⟨none,.store 1 (.t 19) (.t 111),none⟩]
@[simp] def f210r18:Ω:=[σ 112 (.faddr 2 (.t 4)),σ 113 (.load 1 false (.t 112)),σ 114 (.load 1 false (.t 15)),σ 115 (.bin .add (.t 113) (.t 114)),σ 20 (.alloc [(.int .i64 (.ofNat 0))]),⟨none,.store 1 (.t 20) (.t 115),none⟩]
@[simp] def f210r19:Ω:=[σ 116 (.load 6 true (.t 9)),σ 117 (.faddr 2 (.t 4)),σ 118 (.load 1 false (.t 117)),σ 119 (.mkfn 233 [] [(.t 9),(.t 15),(.t 19),(.t 16),(.t 18),(.t 14),(.t 20)]),σ 120 (.call 224 [(.t 116),(.t 118),(.t 119)])]
@[simp] def f210r20:Ω:=[σ 121 (.faddr 0 (.t 9)),σ 122 (.load 1 false (.t 121)),σ 123 (.faddr 3 (.t 9)),σ 124 (.load 1 false (.t 123)),σ 125 (.slice false 6 (.t 122) (some (.t 124)) none none),σ 126 (.len .slice (.t 125)),σ 127 (.mv (κ 0))]
@[simp] def f210r21:Ω:=[σ 128 (.bin .lss (.t 127) (.t 126))]
@[simp] def f210r22:Ω:=[σ 129 (.iaddr 6 (.t 125) (.t 127)),σ 130 (.load 6 true (.t 129)),σ 22 (.alloc [(.int .i64 (.ofNat 0)),(.int .i64 (.ofNat 0)),(.int .i64 (.ofNat 0)),(.int .i64 (.ofNat 0)),(.int .i64 (.ofNat 0)),(.int .i64 (.ofNat 0))]),⟨none,.store 6 (.t 22) (.t 130),none⟩]
@[simp] def f210r23:Ω:=[σ 131 (.load 1 false (.t 14)),σ 132 (.faddr 0 (.t 22)),σ 133 (.load 1 false (.t 132)),σ 134 (.faddr 1 (.t 22)),σ 135 (.load 1 false (.t 134)),σ 136 (.load 1 false (.t 20)),σ 137 (.build [(.int .i64 (.ofNat 0)),(.int .i64 (.ofNat 0)),(.int .i64 (.ofNat 0)),(.int .i64 (.ofNat 0))] [(0,1,(.t 133)),(1,1,(.t 135)),(2,1,(.t 136))]),σ 138 (.lit 4 true [(.int .i64 (.ofNat 0)),(.int .i64 (.ofNat 0)),(.int .i64 (.ofNat 0)),(.int .i64 (.ofNat 0))] 1 [(0,(.t 137))]),σ 139 (.append 4 true 32 (.t 131) (.t 138)),⟨none,.store 1 (.t 14) (.t 139),none⟩]
@[simp] def f210r24:Ω:=[σ 140 (.bin .add (.t 127) (κ 1)),σ 127 (.mv (.t 140))]
def f210B0:RC:=(.seq (.region f210r21 [4,9,14,20,125,126,127,128]) (.seq (.cond (.t 128) .skip (.exit 0)) (.seq (.block 1 (.seq (.region f210r22 [4,9,14,20,22,125,126,127]) (.region f210r23 [4,9,14,20,125,126,127]))) (.region f210r24 [4,9,14,20,125,126,127]))))
def f210L0:RC:=.loop [4,9,14,20,125,126,127] f210B0
@[simp] def f210r25:Ω:=[σ 141 (.faddr 5 (.t 4)),σ 142 (.load 1 false (.t 141))]
@[simp] def f210r26:Ω:=[σ 143 (.load 1 false (.t 14)),σ 144 (.faddr 1 (.t 4)),σ 145 (.load 1 false (.t 144)),σ 146 (.faddr 1 (.t 4)),σ 147 (.load 1 false (.t 146)),σ 148 (.load 1 false (.t 20)),σ 149 (.faddr 5 (.t 9)),σ 150 (.load 1 false (.t 149)),σ 151 (.build [(.int .i64 (.ofNat 0)),(.int .i64 (.ofNat 0)),(.int .i64 (.ofNat 0)),(.int .i64 (.ofNat 0))] [(0,1,(.t 145)),(1,1,(.t 147)),(2,1,(.t 148)),(3,1,(.t 150))]),σ 152 (.lit 4 true [(.int .i64 (.ofNat 0)),(.int .i64 (.ofNat 0)),(.int .i64 (.ofNat 0)),(.int .i64 (.ofNat 0))] 1 [(0,(.t 151))]),σ 153 (.append 4 true 32 (.t 143) (.t 152)),⟨none,.store 1 (.t 14) (.t 153),none⟩]
@[simp] def f210r27:Ω:=[σ 154 (.load 1 false (.t 14)),σ 6 (.mv (.t 154)),σ 7 (.mv (κ 0))]
def f210:RFunc:=⟨[.t 6,.t 7],(.seq (.region f210r0 [2,3,4]) (.seq (.seq (.region f210r1 [2,3,4,8]) (.seq (.region f210r2 [2,3,4,8,26]) (.cond (.t 26) (.seq (.region f210r3 [6,7]) .ret) .skip))) (.seq (.seq (.region f210r4 [2,3,4,31]) (.cond (.t 31) (.seq (.region f210r5 [6,7]) .ret) .skip)) (.seq (.region f210r6 [2,3,4,9]) (.seq (.dregion f210r7 [13] [(1,[1]),(7,[0]),(10,[0])] [2,3,4,9,10]) (.seq (.region f210r8 [2,3,4,9,10,11,12]) (.seq (.region f210r9 [3,4,9,10,11,12,13]) (.seq (.region f210r10 [3,4,9,10,11,12,13,14]) (.seq (.seq (.region f210r11 [3,4,9,10,11,12,13,14,86]) (.cond (.t 86) (.dregion f210r12 [] [] [3,4,9,10,11,12,13,14]) .skip)) (.seq (.region f210r13 [4,9,10,12,13,14,15,16,17]) (.seq (.region f210r14 [4,9,10,12,13,14,15,16,17,18]) (.seq (.seq (.region f210r15 [4,9,10,12,13,14,15,16,17,18,109]) (.cond (.t 109) (.region f210r16 [4,9,10,13,14,15,16,17,18]) .skip)) (.seq (.region f210r17 [4,9,14,15,16,18,19]) (.seq (.region f210r18 [4,9,14,15,16,18,19,20]) (.seq (.region f210r19 [4,9,14,20]) (.seq (.seq (.region f210r20 [4,9,14,20,125,126,127]) (.block 0 f210L0)) (.seq (.seq (.region f210r25 [4,9,14,20,142]) (.cond (.t 142) (.region f210r26 [14]) .skip)) (.seq (.region f210r27 [6,7]) .ret)))))))))))))))))),true⟩
@[simp] def f211r0:Ω:=[σ 1 (.box 21 (.t 0)),σ 2 (.mv (κ 0)),σ 3 (.mv (κ 0))]
@[simp] def f211r1:Ω:=[σ 7 (.load 21 true (.t 1)),σ 8 (.call 10 [(.t 7)]),σ 6 (.mv (.t 8)),σ 9 (.extract (.t 6) 0),σ 10 (.extract (.t 6) 1),σ 4 (.mv (.t 9)),σ 5 (.mv (.t 10))]
@[simp] def f211r2:Ω:=[σ 11 (.mv (.t 5)),σ 12 (.bin .neq (.t 11) (κ 0))]
@[simp] def f211r3:Ω:=[σ 13 (.mv (.t 5)),σ 2 (.mv (κ 0)),σ 3 (.mv (.t 13))]
@[simp] def f211r4:Ω:=[σ 14 (.load 21 true (.t 1)),σ 15 (.mv (.t 4)),σ 16 (.call 234 [(.t 14),(.t 15)]),σ 2 (.mv (.t 16)),σ 3 (.mv (κ 0))]
def f211:RFunc:=⟨[.t 2,.t 3],(.seq (.region f211r0 [1]) (.seq (.region f211r1 [1,4,5]) (.seq (.seq (.region f211r2 [1,4,5,12]) (.cond (.t 12) (.seq (.region f211r3 [2,3]) .ret) .skip)) (.seq (.region f211r4 [2,3]) .ret)))),true⟩
@[simp] def f212r0:Ω:=[σ 3 (.box 1 (.t 1)),σ 4 (.alloc [(.int .i64 (.ofNat 0))]),σ 5 (.alloc [(.int .i64 (.ofNat 0))])]
@[simp] def f212r1:Ω:=[σ 8 (.mv (.t 0)),σ 9 (.load 1 false (.t 3)),σ 10 (.call 235 [(.t 8),(.t 9)]),σ 6 (.mv (.t 10))]
@[simp] def f212r2:Ω:=[σ 11 (.mv (.t 6)),σ 12 (.bin .neq (.t 11) (κ 0))]
@[simp] def f212r3:Ω:=[σ 13 (.mv (.t 6)),⟨none,.store 1 (.t 4) (κ 0),none⟩,⟨none,.store 1 (.t 5) (.t 13),none⟩]
@[simp] def f212r4:Ω:=[σ 14 (.mv (.t 0)),σ 15 (.call 55 [(.t 14)])]
@[simp] def f212r5:Ω:=[σ 7 (.alloc [(.int .i64 (.ofNat 0)),(.int .i64 (.ofNat 0)),(.int .i64 (.ofNat 0))]),⟨none,.store 3 (.t 7) (.t 16),none⟩]
@[simp] def f212r6:Ω:=[σ 17 (.faddr 1 (.t 7)),σ 18 (.load 1 false (.t 17)),σ 19 (.load 1 false (.t 3)),σ 20 (.bin .gtr (.t 18) (.t 19))]
@[simp] def f212r7:Ω:=[σ 21 (.faddr 1 (.t 7)),σ 22 (.load 1 false (.t 21)),⟨none,.store 1 (.t 4) (.t 22),none⟩,⟨none,.store 1 (.t 5) (κ 0),none⟩]
@[simp] def f212r8:Ω:=[σ 23 (.mv (.t 0)),σ 24 (.len .str (.t 23)),⟨none,.store 1 (.t 4) (.t 24),none⟩,⟨none,.store 1 (.t 5) (κ 0),none⟩]
def f212:RFunc:=⟨[.cell 4 1 false,.cell 5 1 false],(.seq (.region f212r0 [0,3,4,5]) (.seq (.seq (.region f212r1 [0,3,4,5,6]) (.seq (.region f212r2 [0,3,4,5,6,12]) (.cond (.t 12) (.seq (.region f212r3 [4,5]) .ret) .skip))) (.seq (.seq (.region f212r4 [0,3,4,5,15]) (.block 0 (.rfunc (.t 15) [16] (.region f212r5 [3,4,5,7]) (.block 1 (.seq (.region f212r6 [4,5,7,20]) (.cond (.t 20) (.seq (.region f212r7 [4,5]) .ret) .skip))) [0,3,4,5,15]))) (.seq (.region f212r8 [4,5]) .ret)))),true⟩
@[simp] def f214r0:Ω:=[σ 3 (.box 21 (.t 0)),σ 4 (.box 7 (.t 1)),σ 6 (.mv (κ 0)),σ 7 (.mv (κ 0))]
@[simp] def f214r1:Ω:=[σ 12 (.load 21 true (.t 3)),σ 13 (.load 7 true (.t 4)),σ 14 (.mv (.t 2)),σ 15 (.call 210 [(.t 12),(.t 13),(.t 14)]),σ 11 (.mv (.t 15)),σ 16 (.extract (.t 11) 0),σ 17 (.extract (.t 11) 1),σ 8 (.mv (.t 16)),σ 9 (.mv (.t 17))]
@[simp] def f214r2:Ω:=[σ 18 (.mv (.t 9)),σ 19 (.bin .neq (.t 18) (κ 0))]
@[simp] def f214r3:Ω:=[σ 20 (.mv (.t 9)),σ 6 (.mv (κ 0)),σ 7 (.mv (.t 20))]
@[simp] def f214r4:Ω:=[σ 21 (.mv (.t 8)),σ 22 (.len .slice (.t 21)),σ 23 (.bin .eql (.t 22) (κ 0))]
@[simp] def f214r5:Ω:=[σ 24 (.faddr 2 (.t 4)),σ 25 (.load 1 false (.t 24)),σ 6 (.mv (.t 25)),σ 7 (.mv (κ 0))]
@[simp] def f214r6:Ω:=[σ 26 (.mv (.t 8)),σ 27 (.mv (.t 8)),σ 28 (.len .slice (.t 27)),σ 29 (.bin .sub (.t 28) (κ 1)),σ 30 (.iaddr 4 (.t 26) (.t 29)),σ 31 (.load 4 true (.t 30)),σ 10 (.alloc [(.int .i64 (.ofNat 0)),(.int .i64 (.ofNat 0)),(.int .i64 (.ofNat 0)),(.int .i64 (.ofNat 0))]),⟨none,.store 4 (.t 10) (.t 31),none⟩]
@[simp] def f214r7:Ω:=[σ 32 (.faddr 2 (.t 10)),σ 33 (.load 1 false (.t 32)),σ 34 (.faddr 3 (.t 10)),σ 35 (.load 1 false (.t 34)),σ 36 (.bin .add (.t 33) (.t 35)),σ 6 (.mv (.t 36)),σ 7 (.mv (κ 0))]
def f214:RFunc:=⟨[.t 6,.t 7],(.seq (.region f214r0 [2,3,4]) (.seq (.region f214r1 [4,8,9]) (.seq (.seq (.region f214r2 [4,8,9,19]) (.cond (.t 19) (.seq (.region f214r3 [6,7]) .ret) .skip)) (.seq (.seq (.region f214r4 [4,8,23]) (.cond (.t 23) (.seq (.region f214r5 [6,7]) .ret) .skip)) (.seq (.region f214r6 [10]) (.seq (.region f214r7 [6,7]) .ret)))))),true⟩
@[simp] def f222r0:Ω:=[σ 2 (.box 21 (.t 0)),σ 3 (.box 7 (.t 1)),σ 4 (.mv (.c (.bool false)))]
@[simp] def f222r1:Ω:=[σ 5 (.faddr 0 (.t 3)),σ 6 (.load 1 false (.t 5)),σ 7 (.faddr 1 (.t 3)),σ 8 (.load 1 false (.t 7)),σ 9 (.bin .leq (.t 6) (.t 8)),σ 10 (.mv (.t 9)),τ 11 (.faddr 0 (.t 2)) 10 true,τ 12 (.load 1 false (.t 11)) 10 true,τ 13 (.faddr 0 (.t 3)) 10 true,τ 14 (.load 1 false (.t 13)) 10 true,τ 15 (.call 251 [(.t 12),(.t 14)]) 10 true,σ 16 (.pick (.t 10) (.t 15) (.c (.bool false))),σ 17 (.mv (.t 16)),τ 18 (.faddr 0 (.t 2)) 17 true,τ 19 (.load 1 false (.t 18)) 17 true,τ 20 (.faddr 1 (.t 3)) 17 true,τ 21 (.load 1 false (.t 20)) 17 true,τ 22 (.call 251 [(.t 19),(.t 21)]) 17 true,σ 23 (.pick (.t 17) (.t 22) (.c (.bool false))),σ 24 (.mv (.t 23)),τ 25 (.faddr 2 (.t 3)) 24 true,τ 26 (.load 1 false (.t 25)) 24 true,τ 27 (.bin .geq (.t 26) (κ 0)) 24 true,σ 28 (.pick (.t 24) (.t 27) (.c (.bool false))),σ 29 (.mv (.t 28)),τ 30 (.faddr 2 (.t 3)) 29 true,τ 31 (.load 1 false (.t 30)) 29 true,τ 32 (.bin .leq (.t 31) (κ 4095)) 29 true,σ 33 (.pick (.t 29) (.t 32) (.c (.bool false))),σ 34 (.mv (.t 33)),τ 35 (.faddr 3 (.t 3)) 34 true,τ 36 (.load 1 false (.t 35)) 34 true,τ 37 (.bin .geq (.t 36) (κ 0)) 34 true,σ 38 (.pick (.t 34) (.t 37) (.c (.bool false))),σ 39 (.mv (.t 38)),τ 40 (.faddr 3 (.t 3)) 39 true,τ 41 (.load 1 false (.t 40)) 39 true,τ 42 (.bin .leq (.t 41) (κ 4095)) 39 true,σ 43 (.pick (.t 39) (.t 42) (.c (.bool false))),σ 4 (.mv (.t 43))]
def f222:RFunc:=⟨[.t 4],(.seq (.region f222r0 [2,3]) (.seq (.region f222r1 [4]) .ret)),true⟩
@[simp] def f223r0:Ω:=[σ 2 (.box 21 (.t 0)),σ 3 (.box 7 (.t 1)),σ 4 (.alloc [(.list 0 0 .no false []),(.list 0 0 .no false []),(.int .i64 (.ofNat 0)),(.int .i64 (.ofNat 0)),(.int .i64 (.ofNat 0)),(.int .i64 (.ofNat 0))])]
@[simp] def f223r1:Ω:=[σ 19 (.load 21 true (.t 2)),σ 20 (.call 10 [(.t 19)]),σ 18 (.mv (.t 20)),σ 21 (.extract (.t 18) 0),σ 22 (.extract (.t 18) 1),σ 5 (.mv (.t 21)),σ 6 (.mv (.t 22))]
@[simp] def f223r2:Ω:=[σ 24 (.load 21 true (.t 2)),σ 25 (.call 106 [(.t 24)]),σ 23 (.mv (.t 25)),σ 26 (.extract (.t 23) 0),σ 27 (.extract (.t 23) 1),σ 7 (.mv (.t 26)),σ 8 (.mv (.t 27))]
@[simp] def f223r3:Ω:=[σ 28 .mkmap,σ 9 (.mv (.t 28))]
@[simp] def f223r4:Ω:=[σ 29 (.mv (.t 7)),σ 30 (.len .slice (.t 29)),σ 31 (.mv (κ 0))]
@[simp] def f223r5:Ω:=[σ 32 (.bin .lss (.t 31) (.t 30))]
@[simp] def f223r6:Ω:=[σ 33 (.iaddr 8 (.t 29) (.t 31)),σ 34 (.load 8 true (.t 33)),σ 11 (.alloc [(.int .i64 (.ofNat 0)),(.int .i64 (.ofNat 0)),(.int .i64 (.ofNat 0)),(.int .i64 (.ofNat 0)),(.int .i64 (.ofNat 0)),(.int .i64 (.ofNat 0)),(.int .i64 (.ofNat 0)),(.bool false)]),⟨none,.store 8 (.t 11) (.t 34),none⟩]
@[simp] def f223r7:Ω:=[σ 35 (.faddr 0 (.t 11)),σ 36 (.load 1 false (.t 35)),σ 37 (.bin .eql (.t 36) (κ 3))]
@[simp] def f223r8:Ω:=[σ 38 (.mv (.t 9)),σ 39 (.faddr 1 (.t 11)),σ 40 (.load 1 false (.t 39)),⟨none,.mapset [.int] (.t 38) (.t 40) (.c (.bool true)),none⟩]
@[simp] def f223r9:Ω:=[σ 41 (.bin .add (.t 31) (κ 1)),σ 31 (.mv (.t 41))]
def f223B0:RC:=(.seq (.region f223r5 [2,3,4,5,9,29,30,31,32]) (.seq (.cond (.t 32) .skip (.exit 0)) (.seq (.block 1 (.seq (.region f223r6 [2,3,4,5,9,11,29,30,31]) (.seq (.region f223r7 [2,3,4,5,9,11,29,30,31,37]) (.cond (.t 37) (.region f223r8 [2,3,4,5,9,29,30,31]) .skip)))) (.region f223r9 [2,3,4,5,9,29,30,31]))))
def f223L0:RC:=.loop [2,3,4,5,9,29,30,31] f223B0
@[simp] def f223r10:Ω:=[σ 12 (.alloc [(.list 0 0 .no false []),(.list 0 0 .no false []),(.int .i64 (.ofNat 0)),(.int .i64 (.ofNat 0)),(.int .i64 (.ofNat 0)),(.int .i64 (.ofNat 0))])]
@[simp] def f223r11:Ω:=[σ 42 (.mv (.t 5)),σ 43 (.len .slice (.t 42)),σ 44 (.mv (κ 0))]
@[simp] def f223r12:Ω:=[σ 45 (.bin .lss (.t 44) (.t 43))]
@[simp] def f223r13:Ω:=[σ 46 (.iaddr 6 (.t 42) (.t 44)),σ 47 (.load 6 true (.t 46)),σ 14 (.alloc [(.int .i64 (.ofNat 0)),(.int .i64 (.ofNat 0)),(.int .i64 (.ofNat 0)),(.int .i64 (.ofNat 0)),(.int .i64 (.ofNat 0)),(.int .i64 (.ofNat 0))]),⟨none,.store 6 (.t 14) (.t 47),none⟩]
@[simp] def f223r14:Ω:=[σ 48 (.faddr 0 (.t 14)),σ 49 (.load 1 false (.t 48)),σ 50 (.faddr 0 (.t 3)),σ 51 (.load 1 false (.t 50)),σ 52 (.bin .lss (.t 49) (.t 51)),σ 53 (.mv (.t 52)),τ 54 (.faddr 0 (.t 14)) 53 false,τ 55 (.load 1 false (.t 54)) 53 false,τ 56 (.faddr 1 (.t 3)) 53 false,τ 57 (.load 1 false (.t 56)) 53 false,τ 58 (.bin .geq (.t 55) (.t 57)) 53 false,σ 59 (.pick (.t 53) (.c (.bool true)) (.t 58))]
@[simp] def f223r15:Ω:=[σ 60 (.faddr 0 (.t 14)),σ 61 (.load 1 false (.t 60)),σ 62 (.bin .eql (.t 61) (κ 0)),σ 63 (.mv (.t 62)),τ 64 (.load 21 true (.t 2)) 63 true,τ 65 (.mv (.t 5)) 63 true,τ 66 (.call 234 [(.t 64),(.t 65)]) 63 true,τ 67 (.bin .gtr (.t 66) (κ 0)) 63 true,σ 68 (.pick (.t 63) (.t 67) (.c (.bool false)))]
@[simp] def f223r16:Ω:=[σ 69 (.load 21 true (.t 2)),σ 70 (.mv (.t 5)),σ 71 (.call 234 [(.t 69),(.t 70)]),σ 72 (.faddr 4 (.t 12)),⟨none,.store 1 (.t 72) (.t 71),none⟩]
@[simp] def f223r17:Ω:=[σ 73 (.faddr 1 (.t 12)),σ 74 (.load 1 false (.t 73)),σ 75 (.faddr 0 (.t 12)),σ 76 (.load 1 false (.t 75)),σ 77 (.len .slice (.t 76)),σ 78 (.bin .gtr (.t 77) (κ 0)),σ 79 (.mv (.t 78)),τ 80 (.mv (.t 9)) 79 true,τ 81 (.faddr 0 (.t 14)) 79 true,τ 82 (.load 1 false (.t 81)) 79 true,τ 83 (.lookup [.int] (.bool false) (.t 80) (.t 82) false) 79 true,τ 84 (.un .not (.t 83)) 79 true,σ 85 (.pick (.t 79) (.t 84) (.c (.bool false))),σ 86 (.lit 1 false [(.bool false)] 1 [(0,(.t 85))]),σ 87 (.append 1 false 1 (.t 74) (.t 86)),σ 88 (.faddr 1 (.t 12)),⟨none,.store 1 (.t 88) (.t 87),none⟩]
@[simp] def f223r18:Ω:=[σ 89 (.faddr 0 (.t 12)),σ 90 (.load 1 false (.t 89)),σ 91 (.load 6 true (.t 14)),σ 92 (.lit 6 true [(.int .i64 (.ofNat 0)),(.int .i64 (.ofNat 0)),(.int .i64 (.ofNat 0)),(.int .i64 (.ofNat 0)),(.int .i64 (.ofNat 0)),(.int .i64 (.ofNat 0))] 1 [(0,(.t 91))]),σ 93 (.append 6 true 48 (.t 90) (.t 92)),σ 94 (.faddr 0 (.t 12)),⟨none,.store 1 (.t 94) (.t 93),none⟩]
@[simp] def f223r19:Ω:=[σ 95 (.bin .add (.t 44) (κ 1)),σ 44 (.mv (.t 95))]
def f223B1:RC:=(.seq (.region f223r12 [2,3,4,5,9,12,42,43,44,45]) (.seq (.cond (.t 45) .skip (.exit 2)) (.seq (.block 3 (.seq (.region f223r13 [2,3,4,5,9,12,14,42,43,44]) (.seq (.seq (.region f223r14 [2,3,4,5,9,12,14,42,43,44,59]) (.cond (.t 59) (.exit 3) .skip)) (.seq (.seq (.region f223r15 [2,3,4,5,9,12,14,42,43,44,68]) (.cond (.t 68) (.seq (.region f223r16 [2,3,4,5,9,12,42,43,44]) (.exit 3)) .skip)) (.seq (.region f223r17 [2,3,4,5,9,12,14,42,43,44]) (.region f223r18 [2,3,4,5,9,12,42,43,44])))))) (.region f223r19 [2,3,4,5,9,12,42,43,44]))))
def f223L1:RC:=.loop [2,3,4,5,9,12,42,43,44] f223B1
@[simp] def f223r20:Ω:=[σ 96 (.faddr 0 (.t 12)),σ 97 (.load 1 false (.t 96)),σ 98 (.len .slice (.t 97)),σ 99 (.faddr 3 (.t 12)),⟨none,.store 1 (.t 99) (.t 98),none⟩]
@[simp] def f223r21:Ω:=[σ 100 (.faddr 3 (.t 12)),σ 101 (.load 1 false (.t 100)),σ 102 (.bin .gtr (.t 101) (κ 0)),σ 103 (.mv (.t 102)),τ 104 (.faddr 0 (.t 12)) 103 true,τ 105 (.load 1 false (.t 104)) 103 true,τ 106 (.faddr 3 (.t 12)) 103 true,τ 107 (.load 1 false (.t 106)) 103 true,τ 108 (.bin .sub (.t 107) (κ 1)) 103 true,τ 109 (.iaddr 6 (.t 105) (.t 108)) 103 true,τ 110 (.load 6 true (.t 109)) 103 true,τ 111 (.call 252 [(.t 110)]) 103 true,σ 112 (.pick (.t 103) (.t 111) (.c (.bool false)))]
@[simp] def f223r22:Ω:=[σ 113 (.faddr 3 (.t 12)),σ 114 (.load 1 false (.t 113)),σ 115 (.bin .sub (.t 114) (κ 1)),σ 116 (.faddr 3 (.t 12)),⟨none,.store 1 (.t 116) (.t 115),none⟩]
def f223B2:RC:=(.seq (.seq (.region f223r21 [2,3,4,12,112]) (.cond (.t 112) .skip (.exit 4))) (.block 5 (.region f223r22 [2,3,4,12])))
def f223L2:RC:=.loop [2,3,4,12] f223B2
@[simp] def f223r23:Ω:=[σ 117 (.faddr 0 (.t 3)),σ 118 (.load 1 false (.t 117)),σ 119 (.bin .eql (.t 118) (κ 0)),σ 120 (.mv (.t 119)),τ 121 (.faddr 2 (.t 12)) 120 true,τ 122 (.load 1 false (.t 121)) 120 true,τ 123 (.faddr 3 (.t 12)) 120 true,τ 124 (.load 1 false (.t 123)) 120 true,τ 125 (.bin .lss (.t 122) (.t 124)) 120 true,σ 126 (.pick (.t 120) (.t 125) (.c (.bool false))),σ 127 (.mv (.t 126)),τ 128 (.faddr 0 (.t 12)) 127 true,τ 129 (.load 1 false (.t 128)) 127 true,τ 130 (.faddr 2 (.t 12)) 127 true,τ 131 (.load 1 false (.t 130)) 127 true,τ 132 (.iaddr 6 (.t 129) (.t 131)) 127 true,τ 133 (.faddr 2 (.t 132)) 127 true,τ 134 (.load 1 false (.t 133)) 127 true,τ 135 (.bin .eql (.t 134) (κ 3)) 127 true,σ 136 (.pick (.t 127) (.t 135) (.c (.bool false)))]
@[simp] def f223r24:Ω:=[σ 137 (.faddr 2 (.t 12)),σ 138 (.load 1 false (.t 137)),σ 139 (.bin .add (.t 138) (κ 1)),σ 140 (.faddr 2 (.t 12)),⟨none,.store 1 (.t 140) (.t 139),none⟩]
def f223B3:RC:=(.seq (.seq (.region f223r23 [2,3,4,12,136]) (.cond (.t 136) .skip (.exit 6))) (.block 7 (.region f223r24 [2,3,4,12])))
def f223L3:RC:=.loop [2,3,4,12] f223B3
@[simp] def f223r25:Ω:=[σ 141 (.faddr 5 (.t 3)),σ 142 (.load 1 false (.t 141))]
@[simp] def f223r26:Ω:=[σ 143 (.faddr 2 (.t 2)),σ 144 (.faddr 0 (.t 143)),σ 145 (.load 1 false (.t 144)),σ 15 (.mv (.t 145))]
@[simp] def f223r27:Ω:=[σ 146 (.faddr 3 (.t 12)),σ 147 (.load 1 false (.t 146)),σ 148 (.bin .gtr (.t 147) (κ 0))]
@[simp] def f223r28:Ω:=[σ 149 (.faddr 0 (.t 12)),σ 150 (.load 1 false (.t 149)),σ 151 (.faddr 3 (.t 12)),σ 152 (.load 1 false (.t 151)),σ 153 (.bin .sub (.t 152) (κ 1)),σ 154 (.iaddr 6 (.t 150) (.t 153)),σ 155 (.faddr 3 (.t 154)),σ 156 (.load 1 false (.t 155)),σ 15 (.mv (.t 156))]
@[simp] def f223r29:Ω:=[σ 157 (.faddr 0 (.t 12)),σ 158 (.load 1 false (.t 157)),σ 159 (.faddr 3 (.t 12)),σ 160 (.load 1 false (.t 159)),σ 161 (.slice false 6 (.t 158) (some (.t 160)) none none),σ 162 (.len .slice (.t 161)),σ 163 (.mv (κ 0))]
@[simp] def f223r30:Ω:=[σ 164 (.bin .lss (.t 163) (.t 162))]
@[simp] def f223r31:Ω:=[σ 165 (.iaddr 6 (.t 161) (.t 163)),σ 166 (.load 6 true (.t 165)),σ 17 (.alloc [(.int .i64 (.ofNat 0)),(.int .i64 (.ofNat 0)),(.int .i64 (.ofNat 0)),(.int .i64 (.ofNat 0)),(.int .i64 (.ofNat 0)),(.int .i64 (.ofNat 0))]),⟨none,.store 6 (.t 17) (.t 166),none⟩]
@[simp] def f223r32:Ω:=[σ 167 (.faddr 2 (.t 17)),σ 168 (.load 1 false (.t 167)),σ 169 (.bin .eql (.t 168) (κ 5))]
@[simp] def f223r33:Ω:=[σ 170 (.faddr 3 (.t 17)),σ 171 (.load 1 false (.t 170)),σ 15 (.mv (.t 171))]
@[simp] def f223r34:Ω:=[σ 172 (.bin .add (.t 163) (κ 1)),σ 163 (.mv (.t 172))]
def f223B4:RC:=(.seq (.region f223r30 [4,12,15,161,162,163,164]) (.seq (.cond (.t 164) .skip (.exit 8)) (.seq (.block 9 (.seq (.region f223r31 [4,12,15,17,161,162,163]) (.seq (.region f223r32 [4,12,15,17,161,162,163,169]) (.cond (.t 169) (.region f223r33 [4,12,15,161,162,163]) .skip)))) (.region f223r34 [4,12,15,161,162,163]))))
def f223L4:RC:=.loop [4,12,15,161,162,163] f223B4
@[simp] def f223r35:Ω:=[σ 174 (.mv (.t 15)),σ 175 (.call 17 [(.c (.str [45])),(.t 174)]),σ 173 (.mv (.t 175)),σ 176 (.extract (.t 173) 0),σ 177 (.extract (.t 173) 1),σ 178 (.faddr 5 (.t 12)),⟨none,.store 1 (.t 178) (.t 176),none⟩]
@[simp] def f223r36:Ω:=[σ 179 (.load 6 true (.t 12)),⟨none,.store 6 (.t 4) (.t 179),none⟩]
def f223:RFunc:=⟨[.cell 4 6 true],(.seq (.region f223r0 [2,3,4]) (.seq (.region f223r1 [2,3,4,5]) (.seq (.region f223r2 [2,3,4,5,7]) (.seq (.region f223r3 [2,3,4,5,7,9]) (.seq (.seq (.region f223r4 [2,3,4,5,9,29,30,31]) (.block 0 f223L0)) (.seq (.region f223r10 [2,3,4,5,9,12]) (.seq (.seq (.region f223r11 [2,3,4,5,9,12,42,43,44]) (.block 2 f223L1)) (.seq (.region f223r20 [2,3,4,12]) (.seq (.block 4 f223L2) (.seq (.block 6 f223L3) (.seq (.seq (.region f223r25 [2,4,12,142]) (.cond (.t 142) (.seq (.region f223r26 [4,12,15]) (.seq (.seq (.region f223r27 [4,12,15,148]) (.cond (.t 148) (.region f223r28 [4,12,15]) .skip)) (.seq (.seq (.region f223r29 [4,12,15,161,162,163]) (.block 8 f223L4)) (.region f223r35 [4,12])))) .skip)) (.seq (.region f223r36 [4]) .ret)))))))))))),true⟩
@[simp] def f224r0:Ω:=[σ 3 (.box 6 (.t 0)),σ 6 (.mv (κ 0))]
@[simp] def f224r1:Ω:=[σ 11 (.mv (.t 1)),σ 7 (.mv (.t 11))]
@[simp] def f224r2:Ω:=[σ 12 (.faddr 0 (.t 3)),σ 13 (.load 1 false (.t 12)),σ 14 (.faddr 3 (.t 3)),σ 15 (.load 1 false (.t 14)),σ 16 (.slice false 6 (.t 13) none (some (.t 15)) none),σ 17 (.len .slice (.t 16)),σ 18 (.mv (κ 0))]
@[simp] def f224r3:Ω:=[σ 19 (.bin .lss (.t 18) (.t 17))]
@[simp] def f224r4:Ω:=[σ 20 (.mv (.t 18)),σ 21 (.iaddr 6 (.t 16) (.t 18)),σ 22 (.load 6 true (.t 21)),σ 9 (.alloc [(.int .i64 (.ofNat 0)),(.int .i64 (.ofNat 0)),(.int .i64 (.ofNat 0)),(.int .i64 (.ofNat 0)),(.int .i64 (.ofNat 0)),(.int .i64 (.ofNat 0))]),σ 8 (.mv (.t 20)),⟨none,.store 6 (.t 9) (.t 22),none⟩]
@[simp] def f224r5:Ω:=[σ 23 (.faddr 1 (.t 3)),σ 24 (.load 1 false (.t 23)),σ 25 (.mv (.t 8)),σ 26 (.iaddr 1 (.t 24) (.t 25)),σ 27 (.load 1 false (.t 26))]
@[simp] def f224r6:Ω:=[σ 28 (.mv (.t 7)),σ 29 (.faddr 5 (.t 9)),σ 30 (.load 1 false (.t 29)),σ 31 (.bin .add (.t 28) (.t 30)),σ 7 (.mv (.t 31))]
@[simp] def f224r7:Ω:=[σ 32 (.faddr 4 (.t 9)),σ 33 (.load 1 false (.t 32)),σ 10 (.mv (.t 33))]
@[simp] def f224r8:Ω:=[σ 35 (.mv (.t 8)),σ 36 (.faddr 2 (.t 3)),σ 37 (.load 1 false (.t 36)),σ 38 (.bin .lss (.t 35) (.t 37)),σ 34 (.mv (.t 38))]
@[simp] def f224r9:Ω:=[σ 10 (.mv (κ 0))]
@[simp] def f224r10:Ω:=[σ 40 (.faddr 2 (.t 9)),σ 41 (.load 1 false (.t 40)),σ 42 (.bin .eql (.t 41) (κ 4)),σ 39 (.mv (.t 42))]
@[simp] def f224r11:Ω:=[σ 43 (.mv (.t 7)),σ 44 (.call 253 [(.t 43)]),σ 45 (.mv (.t 7)),σ 46 (.bin .sub (.t 44) (.t 45)),σ 10 (.mv (.t 46))]
@[simp] def f224r12:Ω:=[σ 47 (.mv (.t 2)),σ 48 (.mv (.t 8)),σ 49 (.mv (.t 7)),σ 50 (.mv (.t 10)),σ 51 (.callv (.t 47) [(.t 48),(.t 49),(.t 50)])]
@[simp] def f224r13:Ω:=[σ 52 (.mv (.t 7)),σ 53 (.mv (.t 10)),σ 54 (.bin .add (.t 52) (.t 53)),σ 7 (.mv (.t 54))]
@[simp] def f224r14:Ω:=[σ 55 (.bin .add (.t 18) (κ 1)),σ 18 (.mv (.t 55))]
def f224B0:RC:=(.seq (.region f224r3 [2,3,7,16,17,18,19]) (.seq (.cond (.t 19) .skip (.exit 0)) (.seq (.block 1 (.seq (.region f224r4 [2,3,7,8,9,16,17,18]) (.seq (.seq (.region f224r5 [2,3,7,8,9,16,17,18,27]) (.cond (.t 27) (.region f224r6 [2,3,7,8,9,16,17,18]) .skip)) (.seq (.region f224r7 [2,3,7,8,9,10,16,17,18]) (.seq (.block 2 (.seq (.region f224r8 [2,3,7,8,9,10,16,17,18,34]) (.cond (.t 34) (.region f224r9 [2,3,7,8,10,16,17,18]) (.seq (.region f224r10 [2,3,7,8,10,16,17,18,39]) (.cond (.t 39) (.region f224r11 [2,3,7,8,10,16,17,18]) .skip))))) (.seq (.region f224r12 [2,3,7,10,16,17,18]) (.region f224r13 [2,3,7,16,17,18]))))))) (.region f224r14 [2,3,7,16,17,18]))))
def f224L0:RC:=.loop [2,3,7,16,17,18] f224B0
@[simp] def f224r15:Ω:=[σ 56 (.mv (.t 7)),σ 6 (.mv (.t 56))]
def f224:RFunc:=⟨[.t 6],(.seq (.region f224r0 [1,2,3]) (.seq (.region f224r1 [2,3,7]) (.seq (.seq (.region f224r2 [2,3,7,16,17,18]) (.block 0 f224L0)) (.seq (.region f224r15 [6]) .ret)))),false⟩
def f225:RFunc:=⟨[],.skip,true⟩
@[simp] def f226r0:Ω:=[σ 1 (.box 6 (.t 0)),σ 2 (.mv (κ 0)),σ 3 (.mv (κ 0))]
@[simp] def f226r1:Ω:=[σ 4 (.mv (κ 0)),σ 5 (.mv (κ 0))]
@[simp] def f226r2:Ω:=[σ 8 (.faddr 0 (.t 1)),σ 9 (.load 1 false (.t 8)),σ 10 (.faddr 2 (.t 1)),σ 11 (.load 1 false (.t 10)),σ 12 (.faddr 3 (.t 1)),σ 13 (.load 1 false (.t 12)),σ 14 (.slice false 6 (.t 9) (some (.t 11)) (some (.t 13)) none),σ 15 (.len .slice (.t 14)),σ 16 (.mv (κ 0))]
@[simp] def f226r3:Ω:=[σ 17 (.bin .lss (.t 16) (.t 15))]
@[simp] def f226r4:Ω:=[σ 18 (.iaddr 6 (.t 14) (.t 16)),σ 19 (.load 6 true (.t 18)),σ 7 (.alloc [(.int .i64 (.ofNat 0)),(.int .i64 (.ofNat 0)),(.int .i64 (.ofNat 0)),(.int .i64 (.ofNat 0)),(.int .i64 (.ofNat 0)),(.int .i64 (.ofNat 0))]),⟨none,.store 6 (.t 7) (.t 19),none⟩]
@[simp] def f226r5:Ω:=[σ 20 (.faddr 2 (.t 7)),σ 21 (.load 1 false (.t 20)),σ 22 (.bin .eql (.t 21) (κ 3))]
@[simp] def f226r6:Ω:=[σ 23 (.mv (.t 4)),σ 24 (.bin .add (.t 23) (κ 1)),σ 4 (.mv (.t 24))]
@[simp] def f226r7:Ω:=[σ 25 (.mv (.t 5)),σ 26 (.faddr 4 (.t 7)),σ 27 (.load 1 false (.t 26)),σ 28 (.bin .quo (.t 27) (κ 3)),σ 29 (.bin .add (.t 25) (.t 28)),σ 5 (.mv (.t 29))]
@[simp] def f226r8:Ω:=[σ 30 (.bin .add (.t 16) (κ 1)),σ 16 (.mv (.t 30))]
def f226B0:RC:=(.seq (.region f226r3 [4,5,14,15,16,17]) (.seq (.cond (.t 17) .skip (.exit 0)) (.seq (.block 1 (.seq (.region f226r4 [4,5,7,14,15,16]) (.seq (.region f226r5 [4,5,7,14,15,16,22]) (.cond (.t 22) (.seq (.region f226r6 [4,5,7,14,15,16]) (.region f226r7 [4,5,14,15,16])) .skip)))) (.region f226r8 [4,5,14,15,16]))))
def f226L0:RC:=.loop [4,5,14,15,16] f226B0
@[simp] def f226r9:Ω:=[σ 31 (.mv (.t 4)),σ 32 (.mv (.t 5)),σ 2 (.mv (.t 31)),σ 3 (.mv (.t 32))]
def f226:RFunc:=⟨[.t 2,.t 3],(.seq (.region f226r0 [1]) (.seq (.region f226r1 [1,4,5]) (.seq (.seq (.region f226r2 [4,5,14,15,16]) (.block 0 f226L0)) (.seq (.region f226r9 [2,3]) .ret)))),true⟩
@[simp] def f227r0:Ω:=[σ 1 (.box 6 (.t 0)),σ 2 (.mv (.c (.bool false)))]
@[simp] def f227r1:Ω:=[σ 5 (.faddr 0 (.t 1)),σ 6 (.load 1 false (.t 5)),σ 7 (.len .slice (.t 6)),σ 8 (.mv (κ 0))]
@[simp] def f227r2:Ω:=[σ 9 (.bin .lss (.t 8) (.t 7))]
@[simp] def f227r3:Ω:=[σ 10 (.iaddr 6 (.t 6) (.t 8)),σ 11 (.load 6 true (.t 10)),σ 4 (.alloc [(.int .i64 (.ofNat 0)),(.int .i64 (.ofNat 0)),(.int .i64 (.ofNat 0)),(.int .i64 (.ofNat 0)),(.int .i64 (.ofNat 0)),(.int .i64 (.ofNat 0))]),⟨none,.store 6 (.t 4) (.t 11),none⟩]
@[simp] def f227r4:Ω:=[σ 12 (.faddr 2 (.t 4)),σ 13 (.load 1 false (.t 12)),σ 14 (.bin .eql (.t 13) (κ 4))]
@[simp] def f227r5:Ω:=[σ 2 (.mv (.c (.bool true)))]
@[simp] def f227r6:Ω:=[σ 15 (.bin .add (.t 8) (κ 1)),σ 8 (.mv (.t 15))]
def f227B0:RC:=(.seq (.region f227r2 [6,7,8,9]) (.seq (.cond (.t 9) .skip (.exit 0)) (.seq (.block 1 (.seq (.region f227r3 [4,6,7,8]) (.seq (.region f227r4 [6,7,8,14]) (.cond (.t 14) (.seq (.region f227r5 [2]) .ret) .skip)))) (.region f227r6 [6,7,8]))))
def f227L0:RC:=.loop [6,7,8] f227B0
@[simp] def f227r7:Ω:=[σ 2 (.mv (.c (.bool false)))]
def f227:RFunc:=⟨[.t 2],(.seq (.region f227r0 [1]) (.seq (.seq (.region f227r1 [6,7,8]) (.block 0 f227L0)) (.seq (.region f227r7 [2]) .ret))),true⟩
@[simp] def f228r0:Ω:=[σ 2 (.box 6 (.t 0)),σ 3 (.box 21 (.t 1)),σ 4 (.mv (κ 0))]
@[simp] def f228r1:Ω:=[σ 8 (.faddr 0 (.t 3)),σ 9 (.load 1 false (.t 8)),σ 10 (.call 212 [(.t 9),(κ 0)]),σ 7 (.mv (.t 10)),σ 11 (.extract (.t 7) 0),σ 12 (.extract (.t 7) 1),σ 5 (.mv (.t 11)),σ 6 (.mv (.t 12))]
@[simp] def f228r2:Ω:=[σ 13 (.mv (.t 5)),σ 4 (.mv (.t 13))]
def f228:RFunc:=⟨[.t 4],(.seq (.region f228r0 [3]) (.seq (.region f228r1 [5]) (.seq (.region f228r2 [4]) .ret))),true⟩
@[simp] def f229r0:Ω:=[σ 4 (.mv (κ 0))]
@[simp] def f229r1:Ω:=[σ 6 (.build [.nilfn,.nilfn,.nilfn,.nilfn] [(0,1,(.f 254)),(1,1,(.f 254)),(2,1,(.f 255)),(3,1,(.f 256))]),σ 5 (.alloc [.nilfn,.nilfn,.nilfn,.nilfn]),⟨none,.store 4 (.t 5) (.t 6),none⟩]
@[simp] def f229r2:Ω:=[σ 7 (.mv (.t 0)),σ 8 (.iaddrA 1 4 (.t 5) (.t 7)),σ 9 (.load 1 false (.t 8)),σ 10 (.mv (.t 1)),σ 11 (.build [(.int .i64 (.ofNat 0))] [(0,1,(.t 10))]),σ 12 (.callv (.t 9) [(.t 11)]),σ 4 (.mv (.t 12))]
def f229:RFunc:=⟨[.t 4],(.seq (.region f229r0 [0,1]) (.seq (.region f229r1 [0,1,5]) (.seq (.region f229r2 [4]) .ret))),true⟩
@[simp] def f230r0:Ω:=[σ 1 (.box 6 (.t 0)),σ 2 (.mv (κ 0))]
@[simp] def f230r1:Ω:=[σ 2 (.mv (κ 1))]
def f230:RFunc:=⟨[.t 2],(.seq (.region f230r0 []) (.seq (.region f230r1 [2]) .ret)),true⟩
@[simp] def f231r0:Ω:=[σ 1 (.box 6 (.t 0)),σ 2 (.mv (κ 0))]
@[simp] def f231r1:Ω:=[σ 3 (.faddr 4 (.t 1)),σ 4 (.load 1 false (.t 3)),σ 5 (.bin .quo (.t 4) (κ 3)),σ 2 (.mv (.t 5))]
def f231:RFunc:=⟨[.t 2],(.seq (.region f231r0 [1]) (.seq (.region f231r1 [2]) .ret)),true⟩
@[simp] def f232r0:Ω:=[σ 4 (.mv (κ 0))]
@[simp] def f232r1:Ω:=[σ 5 (.load 1 false (.t 0)),σ 6 (.un .not (.t 5))]
@[simp] def f232r2:Ω:=[σ 4 (.mv (κ 0))]
@[simp] def f232r3:Ω:=[σ 7 (.load 1 false (.t 1)),σ 8 (.load 1 false (.t 2)),σ 9 (.bin .mul (.t 7) (.t 8)),σ 10 (.load 1 false (.t 3)),σ 11 (.bin .quo (.t 9) (.t 10)),σ 4 (.mv (.t 11))]
def f232:RFunc:=⟨[.t 4],(.seq (.region f232r0 [0,1,2,3]) (.seq (.seq (.region f232r1 [1,2,3,6]) (.cond (.t 6) (.seq (.region f232r2 [4]) .ret) .skip)) (.seq (.region f232r3 [4]) .ret))),false⟩
@[simp] def f233r0:Ω:=[σ 16 (.faddr 0 (.t 3)),σ 17 (.load 1 false (.t 16)),σ 18 (.mv (.t 0)),σ 19 (.iaddr 6 (.t 17) (.t 18)),σ 20 (.load 6 true (.t 19)),σ 13 (.alloc [(.int .i64 (.ofNat 0)),(.int .i64 (.ofNat 0)),(.int .i64 (.ofNat 0)),(.int .i64 (.ofNat 0)),(.int .i64 (.ofNat 0)),(.int .i64 (.ofNat 0))]),⟨none,.store 6 (.t 13) (.t 20),none⟩]
@[simp] def f233r1:Ω:=[σ 21 (.faddr 0 (.t 13)),σ 22 (.load 1 false (.t 21)),σ 23 (.faddr 1 (.t 13)),σ 24 (.load 1 false (.t 23)),σ 25 (.mv (.t 1)),σ 26 (.load 1 false (.t 4)),σ 27 (.bin .add (.t 25) (.t 26)),σ 28 (.load 1 false (.t 5)),σ 29 (.callv (.t 28) []),σ 30 (.bin .add (.t 27) (.t 29)),σ 31 (.mv (.t 2)),σ 32 (.build [(.int .i64 (.ofNat 0)),(.int .i64 (.ofNat 0)),(.int .i64 (.ofNat 0)),(.int .i64 (.ofNat 0))] [(0,1,(.t 22)),(1,1,(.t 24)),(2,1,(.t 30)),(3,1,(.t 31))]),σ 14 (.alloc [(.int .i64 (.ofNat 0)),(.int .i64 (.ofNat 0)),(.int .i64 (.ofNat 0)),(.int .i64 (.ofNat 0))]),⟨none,.store 4 (.t 14) (.t 32),none⟩]
@[simp] def f233r2:Ω:=[σ 33 (.faddr 2 (.t 13)),σ 34 (.load 1 false (.t 33)),σ 35 (.bin .eql (.t 34) (κ 3)),σ 36 (.mv (.t 35)),τ 37 (.mv (.t 0)) 36 true,τ 38 (.faddr 2 (.t 3)) 36 true,τ 39 (.load 1 false (.t 38)) 36 true,τ 40 (.bin .geq (.t 37) (.t 39)) 36 true,σ 41 (.pick (.t 36) (.t 40) (.c (.bool false)))]
@[simp] def f233r3:Ω:=[σ 42 (.load 1 false (.t 5)),σ 43 (.callv (.t 42) []),σ 15 (.mv (.t 43))]
@[simp] def f233r4:Ω:=[σ 44 (.load 1 false (.t 6)),σ 45 (.load 1 false (.t 7)),σ 46 (.load 6 true (.t 13)),σ 47 (.callv (.t 45) [(.t 46)]),σ 48 (.bin .add (.t 44) (.t 47)),⟨none,.store 1 (.t 6) (.t 48),none⟩]
@[simp] def f233r5:Ω:=[σ 49 (.faddr 3 (.t 14)),σ 50 (.load 1 false (.t 49)),σ 51 (.load 1 false (.t 5)),σ 52 (.callv (.t 51) []),σ 53 (.mv (.t 15)),σ 54 (.bin .sub (.t 52) (.t 53)),σ 55 (.bin .add (.t 50) (.t 54)),σ 56 (.faddr 3 (.t 14)),⟨none,.store 1 (.t 56) (.t 55),none⟩]
@[simp] def f233r6:Ω:=[σ 57 (.load 1 false (.t 8)),σ 58 (.load 4 true (.t 14)),σ 59 (.lit 4 true [(.int .i64 (.ofNat 0)),(.int .i64 (.ofNat 0)),(.int .i64 (.ofNat 0)),(.int .i64 (.ofNat 0))] 1 [(0,(.t 58))]),σ 60 (.append 4 true 32 (.t 57) (.t 59)),⟨none,.store 1 (.t 8) (.t 60),none⟩]
@[simp] def f233r7:Ω:=[σ 61 (.faddr 2 (.t 14)),σ 62 (.load 1 false (.t 61)),σ 63 (.faddr 3 (.t 14)),σ 64 (.load 1 false (.t 63)),σ 65 (.bin .add (.t 62) (.t 64)),⟨none,.store 1 (.t 9) (.t 65),none⟩]
def f233:RFunc:=⟨[],(.seq (.region f233r0 [0,1,2,3,4,5,6,7,8,9,13]) (.seq (.dregion f233r1 [12] [(1,[1]),(3,[1]),(5,[1])] [0,3,5,6,7,8,9,13,14]) (.seq (.seq (.region f233r2 [5,6,7,8,9,13,14,41]) (.cond (.t 41) (.seq (.region f233r3 [5,6,7,8,9,13,14,15]) (.seq (.dregion f233r4 [] [(0,[1])] [5,8,9,14,15]) (.dregion f233r5 [] [(1,[1])] [8,9,14]))) .skip)) (.seq (.region f233r6 [9,14]) (.region f233r7 []))))),false⟩
@[simp] def f234r0:Ω:=[σ 2 (.box 21 (.t 0)),σ 4 (.mv (κ 0))]
@[simp] def f234r1:Ω:=[σ 7 (.faddr 2 (.t 2)),σ 8 (.faddr 14 (.t 7)),σ 9 (.load 1 false (.t 8)),σ 10 (.bin .lss (.t 9) (κ 2)),σ 11 (.mv (.t 10)),τ 12 (.mv (.t 1)) 11 false,τ 13 (.len .slice (.t 12)) 11 false,τ 14 (.bin .eql (.t 13) (κ 0)) 11 false,σ 15 (.pick (.t 11) (.c (.bool true)) (.t 14)),σ 16 (.mv (.t 15)),τ 17 (.mv (.t 1)) 16 false,τ 18 (.iaddr 6 (.t 17) (κ 0)) 16 false,τ 19 (.faddr 2 (.t 18)) 16 false,τ 20 (.load 1 false (.t 19)) 16 false,τ 21 (.bin .neq (.t 20) (κ 1)) 16 false,σ 22 (.pick (.t 16) (.c (.bool true)) (.t 21))]
@[simp] def f234r2:Ω:=[σ 4 (.mv (κ 0))]
@[simp] def f234r3:Ω:=[σ 24 (.faddr 0 (.t 2)),σ 25 (.load 1 false (.t 24)),σ 26 (.slice true 1 (.t 25) none (some (κ 1)) none),σ 27 (.faddr 2 (.t 2)),σ 28 (.faddr 0 (.t 27)),σ 29 (.load 1 false (.t 28)),σ 30 (.faddr 2 (.t 2)),σ 31 (.faddr 14 (.t 30)),σ 32 (.load 1 false (.t 31)),σ 33 (.bin .mul (.t 29) (.t 32)),σ 34 (.min [(.t 33),(κ 64)]),σ 35 (.call 17 [(.t 26),(.t 34)]),σ 23 (.mv (.t 35)),σ 36 (.extract (.t 23) 0),σ 37 (.extract (.t 23) 1),σ 5 (.mv (.t 36)),σ 6 (.mv (.t 37))]
@[simp] def f234r4:Ω:=[σ 38 (.mv (.t 5)),σ 39 (.bin .add (.t 38) (κ 4)),σ 4 (.mv (.t 39))]
def f234:RFunc:=⟨[.t 4],(.seq (.region f234r0 [1,2]) (.seq (.seq (.region f234r1 [2,22]) (.cond (.t 22) (.seq (.region f234r2 [4]) .ret) .skip)) (.seq (.dregion f234r3 [] [] [5]) (.seq (.region f234r4 [4]) .ret)))),true⟩
@[simp] def f235r0:Ω:=[σ 4 (.mv (κ 0))]
@[simp] def f235r1:Ω:=[σ 6 (.mv (.t 0)),σ 7 (.call 54 [(.t 6)]),σ 5 (.mv (.t 7))]
@[simp] def f235r2:Ω:=[σ 8 (.mv (.t 5)),σ 9 (.bin .eql (.t 8) (κ 0)),σ 10 (.mv (.t 9)),τ 11 (.mv (.t 1)) 10 true,τ 12 (.bin .lss (.t 11) (κ 0)) 10 true,τ 13 (.mv (.t 12)) 10 true,τ 14 (.mv (.t 1)) 13 false,τ 15 (.mv (.t 0)) 13 false,τ 16 (.len .str (.t 15)) 13 false,τ 17 (.bin .gtr (.t 14) (.t 16)) 13 false,τ 18 (.pick (.t 13) (.c (.bool true)) (.t 17)) 10 true,σ 19 (.pick (.t 10) (.t 18) (.c (.bool false)))]
@[simp] def f235r3:Ω:=[σ 5 (.mv (κ 5))]
@[simp] def f235r4:Ω:=[σ 20 (.mv (.t 5)),σ 4 (.mv (.t 20))]
def f235:RFunc:=⟨[.t 4],(.seq (.region f235r0 [0,1]) (.seq (.region f235r1 [0,1,5]) (.seq (.seq (.region f235r2 [5,19]) (.cond (.t 19) (.region f235r3 [5]) .skip)) (.seq (.region f235r4 [4]) .ret)))),true⟩
@[simp] def f251r0:Ω:=[σ 3 (.box 1 (.t 1)),σ 4 (.alloc [(.bool false)])]
@[simp] def f251r1:Ω:=[σ 6 (.mv (.t 0)),σ 7 (.call 54 [(.t 6)]),σ 8 (.bin .neq (.t 7) (κ 0)),σ 9 (.mv (.t 8)),τ 10 (.load 1 false (.t 3)) 9 false,τ 11 (.bin .lss (.t 10) (κ 0)) 9 false,σ 12 (.pick (.t 9) (.c (.bool true)) (.t 11)),σ 13 (.mv (.t 12)),τ 14 (.load 1 false (.t 3)) 13 false,τ 15 (.mv (.t 0)) 13 false,τ 16 (.len .str (.t 15)) 13 false,τ 17 (.bin .gtr (.t 14) (.t 16)) 13 false,σ 18 (.pick (.t 13) (.c (.bool true)) (.t 17))]
@[simp] def f251r2:Ω:=[⟨none,.store 1 (.t 4) (.c (.bool false)),none⟩]
@[simp] def f251r3:Ω:=[σ 19 (.mv (.t 0)),σ 20 (.call 55 [(.t 19)])]
@[simp] def f251r4:Ω:=[σ 5 (.alloc [(.int .i64 (.ofNat 0)),(.int .i64 (.ofNat 0)),(.int .i64 (.ofNat 0))]),⟨none,.store 3 (.t 5) (.t 21),none⟩]
@[simp] def f251r5:Ω:=[σ 22 (.faddr 0 (.t 5)),σ 23 (.load 1 false (.t 22)),σ 24 (.load 1 false (.t 3)),σ 25 (.bin .eql (.t 23) (.t 24))]
@[simp] def f251r6:Ω:=[⟨none,.store 1 (.t 4) (.c (.bool true)),none⟩]
@[simp] def f251r7:Ω:=[σ 26 (.load 1 false (.t 3)),σ 27 (.mv (.t 0)),σ 28 (.len .str (.t 27)),σ 29 (.bin .eql (.t 26) (.t 28)),⟨none,.store 1 (.t 4) (.t 29),none⟩]
def f251:RFunc:=⟨[.cell 4 1 false],(.seq (.region f251r0 [0,3,4]) (.seq (.seq (.region f251r1 [0,3,4,18]) (.cond (.t 18) (.seq (.region f251r2 [4]) .ret) .skip)) (.seq (.seq (.region f251r3 [0,3,4,20]) (.block 0 (.rfunc (.t 20) [21] (.region f251r4 [3,4,5]) (.block 1 (.seq (.region f251r5 [4,25]) (.cond (.t 25) (.seq (.region f251r6 [4]) .ret) .skip))) [0,3,4,20]))) (.seq (.region f251r7 [4]) .ret)))),true⟩
@[simp] def f252r0:Ω:=[σ 1 (.box 6 (.t 0)),σ 2 (.mv (.c (.bool false)))]
@[simp] def f252r1:Ω:=[σ 3 (.faddr 2 (.t 1)),σ 4 (.load 1 false (.t 3)),σ 5 (.bin .eql (.t 4) (κ 3)),σ 6 (.mv (.t 5)),τ 7 (.faddr 2 (.t 1)) 6 false,τ 8 (.load 1 false (.t 7)) 6 false,τ 9 (.bin .eql (.t 8) (κ 5)) 6 false,σ 10 (.pick (.t 6) (.c (.bool true)) (.t 9)),σ 2 (.mv (.t 10))]
def f252:RFunc:=⟨[.t 2],(.seq (.region f252r0 [1]) (.seq (.region f252r1 [2]) .ret)),true⟩
@[simp] def f253r0:Ω:=[σ 2 (.mv (κ 0))]
@[simp] def f253r1:Ω:=[σ 6 (.mv (.t 0)),σ 7 (.call 139 [(.c (.list 0 0 .no false [])),(.t 6)]),σ 5 (.mv (.t 7)),σ 8 (.extract (.t 5) 0),σ 9 (.extract (.t 5) 1),σ 3 (.alloc [(.int .i64 (.ofNat 0)),(.int .i64 (.ofNat 0))]),⟨none,.store 2 (.t 3) (.t 8),none⟩,σ 4 (.mv (.t 9))]
@[simp] def f253r2:Ω:=[σ 10 (.mv (.t 4)),σ 11 (.bin .eql (.t 10) (κ 0))]
@[simp] def f253r3:Ω:=[σ 12 (.faddr 0 (.t 3)),σ 13 (.load 1 false (.t 12)),σ 2 (.mv (.t 13))]
@[simp] def f253r4:Ω:=[σ 14 (.mv (.t 0)),σ 15 (.bin .quo (.t 14) (κ 48)),σ 16 (.bin .add (.t 15) (κ 1)),σ 17 (.bin .mul (.t 16) (κ 48)),σ 2 (.mv (.t 17))]
def f253:RFunc:=⟨[.t 2],(.seq (.region f253r0 [0]) (.seq (.seq (.region f253r1 [0,3,4]) (.seq (.region f253r2 [0,3,11]) (.cond (.t 11) (.seq (.region f253r3 [2]) .ret) .skip))) (.seq (.region f253r4 [2]) .ret))),true⟩
@[simp] def f254r0:Ω:=[σ 1 (.box 1 (.t 0)),σ 2 (.mv (κ 0))]
@[simp] def f254r1:Ω:=[σ 2 (.mv (κ 0))]
def f254:RFunc:=⟨[.t 2],(.seq (.region f254r0 []) (.seq (.region f254r1 [2]) .ret)),true⟩
@[simp] def f255r0:Ω:=[σ 1 (.box 1 (.t 0)),σ 2 (.mv (κ 0))]
@[simp] def f255r1:Ω:=[σ 3 (.faddr 0 (.t 1)),σ 4 (.load 1 false (.t 3)),σ 5 (.max [(.t 4),(κ 0)]),σ 2 (.mv (.t 5))]
def f255:RFunc:=⟨[.t 2],(.seq (.region f255r0 [1]) (.seq (.region f255r1 [2]) .ret)),true⟩
@[simp] def f256r0:Ω:=[σ 1 (.box 1 (.t 0)),σ 2 (.mv (κ 0))]
@[simp] def f256r1:Ω:=[σ 3 (.faddr 0 (.t 1)),σ 4 (.load 1 false (.t 3)),σ 5 (.max [(.t 4),(κ 0)]),σ 6 (.bin .quo (.t 5) (κ 2)),σ 2 (.mv (.t 6))]
def f256:RFunc:=⟨[.t 2],(.seq (.region f256r0 [1]) (.seq (.region f256r1 [2]) .ret)),true⟩
def tree:TT:=(.node 145 (.node 64 (.node 40 (.node 26 (.node 17 (.node 10 (.leaf 9 (.code f9)) (.node 13 (.leaf 10 (.code f10)) (.leaf 13 (.code f13)))) (.node 21 (.leaf 17 (.code f17)) (.node 23 (.leaf 21 (.code f21)) (.leaf 23 (.code f23))))) (.node 30 (.node 27 (.leaf 26 (.code f26)) (.node 29 (.leaf 27 (.code f27)) (.leaf 29 (.code f29)))) (.node 31 (.leaf 30 (.code f30)) (.node 32 (.leaf 31 (.code f31)) (.leaf 32 (.code f32)))))) (.node 54 (.node 43 (.node 41 (.leaf 40 (.code f40)) (.node 42 (.leaf 41 (.code f41)) (.leaf 42 (.code f42)))) (.node 44 (.leaf 43 (.code f43)) (.node 51 (.leaf 44 (.code f44)) (.leaf 51 (.code f51))))) (.node 57 (.node 55 (.leaf 54 (.code f54)) (.node 56 (.leaf 55 (.code f55)) (.leaf 56 (.code f56)))) (.node 62 (.node 61 (.leaf 57 (.code f57)) (.leaf 61 (.code f61))) (.node 63 (.leaf 62 (.code f62)) (.leaf 63 (.code f63))))))) (.node 117 (.node 73 (.node 69 (.node 65 (.leaf 64 (.prim countByteD)) (.node 68 (.leaf 65 (.code f65)) (.leaf 68 (.code f68)))) (.node 70 (.leaf 69 (.code f69)) (.node 72 (.leaf 70 (.code f70)) (.leaf 72 (.prim indexByteD))))) (.node 77 (.node 74 (.leaf 73 (.code f73)) (.node 76 (.leaf 74 (.code f74)) (.leaf 76 (.code f76)))) (.node 105 (.node 78 (.leaf 77 (.code f77)) (.leaf 78 (.code f78))) (.node 106 (.leaf 105 (.code f105)) (.leaf 106 (.code f106)))))) (.node 135 (.node 132 (.node 118 (.leaf 117 (.code f117)) (.node 131 (.leaf 118 (.code f118)) (.leaf 131 (.code f131)))) (.node 133 (.leaf 132 (.code f132)) (.node 134 (.leaf 133 (.code f133)) (.leaf 134 (.code f134))))) (.node 138 (.node 136 (.leaf 135 (.code f135)) (.node 137 (.leaf 136 (.code f136)) (.leaf 137 (.code f137)))) (.node 143 (.node 139 (.leaf 138 (.code f138)) (.leaf 139 (.code f139))) (.node 144 (.leaf 143 (.code f143)) (.leaf 144 (.code f144)))))))) (.node 208 (.node 158 (.node 151 (.node 148 (.node 146 (.leaf 145 (.code f145)) (.node 147 (.leaf 146 (.code f146)) (.leaf 147 (.code f147)))) (.node 149 (.leaf 148 (.code f148)) (.node 150 (.leaf 149 (.code f149)) (.leaf 150 (.code f150))))) (.node 154 (.node 152 (.leaf 151 (.code f151)) (.node 153 (.leaf 152 (.code f152)) (.leaf 153 (.code f153)))) (.node 156 (.node 155 (.leaf 154 (.code f154)) (.leaf 155 (.code f155))) (.node 157 (.leaf 156 (.code f156)) (.leaf 157 (.code f157)))))) (.node 164 (.node 161 (.node 159 (.leaf 158 (.code f158)) (.node 160 (.leaf 159 (.code f159)) (.leaf 160 (.code f160)))) (.node 162 (.leaf 161 (.code f161)) (.node 163 (.leaf 162 (.code f162)) (.leaf 163 (.code f163))))) (.node 167 (.node 165 (.leaf 164 (.code f164)) (.node 166 (.leaf 165 (.code f165)) (.leaf 166 (.code f166)))) (.node 205 (.node 202 (.leaf 167 (.code f167)) (.leaf 202 (.code f202))) (.node 207 (.leaf 205 (.code f205)) (.leaf 207 (.code f207))))))) (.node 229 (.node 222 (.node 211 (.node 209 (.leaf 208 (.code f208)) (.node 210 (.leaf 209 (.code f209)) (.leaf 210 (.code f210)))) (.node 212 (.leaf 211 (.code f211)) (.node 214 (.leaf 212 (.code f212)) (.leaf 214 (.code f214))))) (.node 225 (.node 223 (.leaf 222 (.code f222)) (.node 224 (.leaf 223 (.code f223)) (.leaf 224 (.code f224)))) (.node 227 (.node 226 (.leaf 225 (.code f225)) (.leaf 226 (.code f226))) (.node 228 (.leaf 227 (.code f227)) (.leaf 228 (.code f228)))))) (.node 235 (.node 232 (.node 230 (.leaf 229 (.code f229)) (.node 231 (.leaf 230 (.code f230)) (.leaf 231 (.code f231)))) (.node 233 (.leaf 232 (.code f232)) (.node 234 (.leaf 233 (.code f233)) (.leaf 234 (.code f234))))) (.node 253 (.node 251 (.leaf 235 (.code f235)) (.node 252 (.leaf 251 (.code f251)) (.leaf 252 (.code f252)))) (.node 255 (.node 254 (.leaf 253 (.code f253)) (.leaf 254 (.code f254))) (.node 256 (.leaf 255 (.code f255)) (.leaf 256 (.code f256)))))))))
def fms:List (Nat×FuncId):=[(256,84),(9,16),(10,14),(13,29),(17,80),(21,87),(23,161),(26,28),(27,43),(29,44),(30,45),(31,46),(32,47),(40,73),(41,74),(42,75),(43,76),(44,77),(51,131),(54,85),(55,49),(56,86),(57,88),(61,126),(62,127),(63,128),(64,129),(65,130),(68,90),(69,89),(70,91),(72,162),(73,163),(74,133),(75,192),(76,193),(77,194),(78,213),(105,11),(106,25),(117,69),(118,70),(131,118),(132,119),(133,120),(134,121),(135,122),(136,123),(137,124),(138,125),(139,132),(143,159),(144,160),(145,164),(146,165),(147,186),(148,187),(149,188),(150,189),(151,190),(152,191),(153,195),(154,196),(155,114),(156,207),(157,208),(158,209),(159,210),(160,211),(161,212),(162,155),(163,215),(164,216),(165,217),(166,218),(167,219),(202,3),(205,6),(207,8),(208,9),(209,10),(210,12),(211,13),(212,15),(214,18),(222,30),(223,31),(224,32),(225,33),(226,34),(227,35),(228,36),(229,37),(230,38),(231,39),(232,40),(233,41),(234,42),(235,48),(251,78),(252,79),(253,81),(254,82),(255,83)]
def env:List (Nat×List Nat):=[(1,asciiSpaceL)]
end Go.D.Tab
end
section
namespace Go.D.Tab
open Go.Proofs
theorem chk9:funcB Tryz.prog (fmOf fms env) (isPure tree.get) f9 Tryz.f16=true:=by kernel_rfl
theorem ok9 (f:FuncId) (hf:fmOf fms env 9=some f):DefRel Tryz.prog (fmOf fms env) tree.get (.code f9) f:=by
 have h:fmOf fms env 9=some 16:=by kernel_rfl
 rw [h] at hf
 cases hf
 exact funcB_ok Tryz.func16 chk9
theorem chk10:funcB Tryz.prog (fmOf fms env) (isPure tree.get) f10 Tryz.f14=true:=by kernel_rfl
theorem ok10 (f:FuncId) (hf:fmOf fms env 10=some f):DefRel Tryz.prog (fmOf fms env) tree.get (.code f10) f:=by
 have h:fmOf fms env 10=some 14:=by kernel_rfl
 rw [h] at hf
 cases hf
 exact funcB_ok Tryz.func14 chk10
theorem chk13:funcB Tryz.prog (fmOf fms env) (isPure tree.get) f13 Tryz.f29=true:=by kernel_rfl
theorem ok13 (f:FuncId) (hf:fmOf fms env 13=some f):DefRel Tryz.prog (fmOf fms env) tree.get (.code f13) f:=by
 have h:fmOf fms env 13=some 29:=by kernel_rfl
 rw [h] at hf
 cases hf
 exact funcB_ok Tryz.func29 chk13
theorem chk17:funcB Tryz.prog (fmOf fms env) (isPure tree.get) f17 Tryz.f80=true:=by kernel_rfl
theorem ok17 (f:FuncId) (hf:fmOf fms env 17=some f):DefRel Tryz.prog (fmOf fms env) tree.get (.code f17) f:=by
 have h:fmOf fms env 17=some 80:=by kernel_rfl
 rw [h] at hf
 cases hf
 exact funcB_ok Tryz.func80 chk17
theorem chk21:funcB Tryz.prog (fmOf fms env) (isPure tree.get) f21 Tryz.f87=true:=by kernel_rfl
theorem ok21 (f:FuncId) (hf:fmOf fms env 21=some f):DefRel Tryz.prog (fmOf fms env) tree.get (.code f21) f:=by
 have h:fmOf fms env 21=some 87:=by kernel_rfl
 rw [h] at hf
 cases hf
 exact funcB_ok Tryz.func87 chk21
theorem chk23:funcB Tryz.prog (fmOf fms env) (isPure tree.get) f23 Tryz.f161=true:=by kernel_rfl
theorem ok23 (f:FuncId) (hf:fmOf fms env 23=some f):DefRel Tryz.prog (fmOf fms env) tree.get (.code f23) f:=by
 have h:fmOf fms env 23=some 161:=by kernel_rfl
 rw [h] at hf
 cases hf
 exact funcB_ok Tryz.func161 chk23
theorem chk26:funcB Tryz.prog (fmOf fms env) (isPure tree.get) f26 Tryz.f28=true:=by kernel_rfl
theorem ok26 (f:FuncId) (hf:fmOf fms env 26=some f):DefRel Tryz.prog (fmOf fms env) tree.get (.code f26) f:=by
 have h:fmOf fms env 26=some 28:=by kernel_rfl
 rw [h] at hf
 cases hf
 exact funcB_ok Tryz.func28 chk26
theorem chk27:funcB Tryz.prog (fmOf fms env) (isPure tree.get) f27 Tryz.f43=true:=by kernel_rfl
theorem ok27 (f:FuncId) (hf:fmOf fms env 27=some f):DefRel Tryz.prog (fmOf fms env) tree.get (.code f27) f:=by
 have h:fmOf fms env 27=some 43:=by kernel_rfl
 rw [h] at hf
 cases hf
 exact funcB_ok Tryz.func43 chk27
theorem chk29:funcB Tryz.prog (fmOf fms env) (isPure tree.get) f29 Tryz.f44=true:=by kernel_rfl
theorem ok29 (f:FuncId) (hf:fmOf fms env 29=some f):DefRel Tryz.prog (fmOf fms env) tree.get (.code f29) f:=by
 have h:fmOf fms env 29=some 44:=by kernel_rfl
 rw [h] at hf
 cases hf
 exact funcB_ok Tryz.func44 chk29
theorem chk30:funcB Tryz.prog (fmOf fms env) (isPure tree.get) f30 Tryz.f45=true:=by kernel_rfl
theorem ok30 (f:FuncId) (hf:fmOf fms env 30=some f):DefRel Tryz.prog (fmOf fms env) tree.get (.code f30) f:=by
 have h:fmOf fms env 30=some 45:=by kernel_rfl
 rw [h] at hf
 cases hf
 exact funcB_ok Tryz.func45 chk30
theorem chk31:funcB Tryz.prog (fmOf fms env) (isPure tree.get) f31 Tryz.f46=true:=by kernel_rfl
theorem ok31 (f:FuncId) (hf:fmOf fms env 31=some f):DefRel Tryz.prog (fmOf fms env) tree.get (.code f31) f:=by
 have h:fmOf fms env 31=some 46:=by kernel_rfl
 rw [h] at hf
 cases hf
 exact funcB_ok Tryz.func46 chk31
theorem chk32:funcB Tryz.prog (fmOf fms env) (isPure tree.get) f32 Tryz.f47=true:=by kernel_rfl
theorem ok32 (f:FuncId) (hf:fmOf fms env 32=some f):DefRel Tryz.prog (fmOf fms env) tree.get (.code f32) f:=by
 have h:fmOf fms env 32=some 47:=by kernel_rfl
 rw [h] at hf
 cases hf
 exact funcB_ok Tryz.func47 chk32
theorem chk40:funcB Tryz.prog (fmOf fms env) (isPure tree.get) f40 Tryz.f73=true:=by kernel_rfl
theorem ok40 (f:FuncId) (hf:fmOf fms env 40=some f):DefRel Tryz.prog (fmOf fms env) tree.get (.code f40) f:=by
 have h:fmOf fms env 40=some 73:=by kernel_rfl
 rw [h] at hf
 cases hf
 exact funcB_ok Tryz.func73 chk40
theorem chk41:funcB Tryz.prog (fmOf fms env) (isPure tree.get) f41 Tryz.f74=true:=by kernel_rfl
theorem ok41 (f:FuncId) (hf:fmOf fms env 41=some f):DefRel Tryz.prog (fmOf fms env) tree.get (.code f41) f:=by
 have h:fmOf fms env 41=some 74:=by kernel_rfl
 rw [h] at hf
 cases hf
 exact funcB_ok Tryz.func74 chk41
theorem chk42:funcB Tryz.prog (fmOf fms env) (isPure tree.get) f42 Tryz.f75=true:=by kernel_rfl
theorem ok42 (f:FuncId) (hf:fmOf fms env 42=some f):DefRel Tryz.prog (fmOf fms env) tree.get (.code f42) f:=by
 have h:fmOf fms env 42=some 75:=by kernel_rfl
 rw [h] at hf
 cases hf
 exact funcB_ok Tryz.func75 chk42
theorem chk43:funcB Tryz.prog (fmOf fms env) (isPure tree.get) f43 Tryz.f76=true:=by kernel_rfl
theorem ok43 (f:FuncId) (hf:fmOf fms env 43=some f):DefRel Tryz.prog (fmOf fms env) tree.get (.code f43) f:=by
 have h:fmOf fms env 43=some 76:=by kernel_rfl
 rw [h] at hf
 cases hf
 exact funcB_ok Tryz.func76 chk43
theorem chk44:funcB Tryz.prog (fmOf fms env) (isPure tree.get) f44 Tryz.f77=true:=by kernel_rfl
theorem ok44 (f:FuncId) (hf:fmOf fms env 44=some f):DefRel Tryz.prog (fmOf fms env) tree.get (.code f44) f:=by
 have h:fmOf fms env 44=some 77:=by kernel_rfl
 rw [h] at hf
 cases hf
 exact funcB_ok Tryz.func77 chk44
theorem chk51:funcB Tryz.prog (fmOf fms env) (isPure tree.get) f51 Tryz.f131=true:=by kernel_rfl
theorem ok51 (f:FuncId) (hf:fmOf fms env 51=some f):DefRel Tryz.prog (fmOf fms env) tree.get (.code f51) f:=by
 have h:fmOf fms env 51=some 131:=by kernel_rfl
 rw [h] at hf
 cases hf
 exact funcB_ok Tryz.func131 chk51
theorem chk54:funcB Tryz.prog (fmOf fms env) (isPure tree.get) f54 Tryz.f85=true:=by kernel_rfl
theorem ok54 (f:FuncId) (hf:fmOf fms env 54=some f):DefRel Tryz.prog (fmOf fms env) tree.get (.code f54) f:=by
 have h:fmOf fms env 54=some 85:=by kernel_rfl
 rw [h] at hf
 cases hf
 exact funcB_ok Tryz.func85 chk54
theorem chk55:funcB Tryz.prog (fmOf fms env) (isPure tree.get) f55 Tryz.f49=true:=by kernel_rfl
theorem ok55 (f:FuncId) (hf:fmOf fms env 55=some f):DefRel Tryz.prog (fmOf fms env) tree.get (.code f55) f:=by
 have h:fmOf fms env 55=some 49:=by kernel_rfl
 rw [h] at hf
 cases hf
 exact funcB_ok Tryz.func49 chk55
theorem chk56:funcB Tryz.prog (fmOf fms env) (isPure tree.get) f56 Tryz.f86=true:=by kernel_rfl
theorem ok56 (f:FuncId) (hf:fmOf fms env 56=some f):DefRel Tryz.prog (fmOf fms env) tree.get (.code f56) f:=by
 have h:fmOf fms env 56=some 86:=by kernel_rfl
 rw [h] at hf
 cases hf
 exact funcB_ok Tryz.func86 chk56
theorem chk57:funcB Tryz.prog (fmOf fms env) (isPure tree.get) f57 Tryz.f88=true:=by kernel_rfl
theorem ok57 (f:FuncId) (hf:fmOf fms env 57=some f):DefRel Tryz.prog (fmOf fms env) tree.get (.code f57) f:=by
 have h:fmOf fms env 57=some 88:=by kernel_rfl
 rw [h] at hf
 cases hf
 exact funcB_ok Tryz.func88 chk57
theorem chk61:funcB Tryz.prog (fmOf fms env) (isPure tree.get) f61 Tryz.f126=true:=by kernel_rfl
theorem ok61 (f:FuncId) (hf:fmOf fms env 61=some f):DefRel Tryz.prog (fmOf fms env) tree.get (.code f61) f:=by
 have h:fmOf fms env 61=some 126:=by kernel_rfl
 rw [h] at hf
 cases hf
 exact funcB_ok Tryz.func126 chk61
theorem chk62:funcB Tryz.prog (fmOf fms env) (isPure tree.get) f62 Tryz.f127=true:=by kernel_rfl
theorem ok62 (f:FuncId) (hf:fmOf fms env 62=some f):DefRel Tryz.prog (fmOf fms env) tree.get (.code f62) f:=by
 have h:fmOf fms env 62=some 127:=by kernel_rfl
 rw [h] at hf
 cases hf
 exact funcB_ok Tryz.func127 chk62
theorem chk63:funcB Tryz.prog (fmOf fms env) (isPure tree.get) f63 Tryz.f128=true:=by kernel_rfl
theorem ok63 (f:FuncId) (hf:fmOf fms env 63=some f):DefRel Tryz.prog (fmOf fms env) tree.get (.code f63) f:=by
 have h:fmOf fms env 63=some 128:=by kernel_rfl
 rw [h] at hf
 cases hf
 exact funcB_ok Tryz.func128 chk63
theorem chk65:funcB Tryz.prog (fmOf fms env) (isPure tree.get) f65 Tryz.f130=true:=by kernel_rfl
theorem ok65 (f:FuncId) (hf:fmOf fms env 65=some f):DefRel Tryz.prog (fmOf fms env) tree.get (.code f65) f:=by
 have h:fmOf fms env 65=some 130:=by kernel_rfl
 rw [h] at hf
 cases hf
 exact funcB_ok Tryz.func130 chk65
theorem chk68:funcB Tryz.prog (fmOf fms env) (isPure tree.get) f68 Tryz.f90=true:=by kernel_rfl
theorem ok68 (f:FuncId) (hf:fmOf fms env 68=some f):DefRel Tryz.prog (fmOf fms env) tree.get (.code f68) f:=by
 have h:fmOf fms env 68=some 90:=by kernel_rfl
 rw [h] at hf
 cases hf
 exact funcB_ok Tryz.func90 chk68
theorem chk69:funcB Tryz.prog (fmOf fms env) (isPure tree.get) f69 Tryz.f89=true:=by kernel_rfl
theorem ok69 (f:FuncId) (hf:fmOf fms env 69=some f):DefRel Tryz.prog (fmOf fms env) tree.get (.code f69) f:=by
 have h:fmOf fms env 69=some 89:=by kernel_rfl
 rw [h] at hf
 cases hf
 exact funcB_ok Tryz.func89 chk69
theorem chk70:funcB Tryz.prog (fmOf fms env) (isPure tree.get) f70 Tryz.f91=true:=by kernel_rfl
theorem ok70 (f:FuncId) (hf:fmOf fms env 70=some f):DefRel Tryz.prog (fmOf fms env) tree.get (.code f70) f:=by
 have h:fmOf fms env 70=some 91:=by kernel_rfl
 rw [h] at hf
 cases hf
 exact funcB_ok Tryz.func91 chk70
theorem chk73:funcB Tryz.prog (fmOf fms env) (isPure tree.get) f73 Tryz.f163=true:=by kernel_rfl
theorem ok73 (f:FuncId) (hf:fmOf fms env 73=some f):DefRel Tryz.prog (fmOf fms env) tree.get (.code f73) f:=by
 have h:fmOf fms env 73=some 163:=by kernel_rfl
 rw [h] at hf
 cases hf
 exact funcB_ok Tryz.func163 chk73
theorem chk74:funcB Tryz.prog (fmOf fms env) (isPure tree.get) f74 Tryz.f133=true:=by kernel_rfl
theorem ok74 (f:FuncId) (hf:fmOf fms env 74=some f):DefRel Tryz.prog (fmOf fms env) tree.get (.code f74) f:=by
 have h:fmOf fms env 74=some 133:=by kernel_rfl
 rw [h] at hf
 cases hf
 exact funcB_ok Tryz.func133 chk74
theorem chk76:funcB Tryz.prog (fmOf fms env) (isPure tree.get) f76 Tryz.f193=true:=by kernel_rfl
theorem ok76 (f:FuncId) (hf:fmOf fms env 76=some f):DefRel Tryz.prog (fmOf fms env) tree.get (.code f76) f:=by
 have h:fmOf fms env 76=some 193:=by kernel_rfl
 rw [h] at hf
 cases hf
 exact funcB_ok Tryz.func193 chk76
theorem chk77:funcB Tryz.prog (fmOf fms env) (isPure tree.get) f77 Tryz.f194=true:=by kernel_rfl
theorem ok77 (f:FuncId) (hf:fmOf fms env 77=some f):DefRel Tryz.prog (fmOf fms env) tree.get (.code f77) f:=by
 have h:fmOf fms env 77=some 194:=by kernel_rfl
 rw [h] at hf
 cases hf
 exact funcB_ok Tryz.func194 chk77
theorem chk78:funcB Tryz.prog (fmOf fms env) (isPure tree.get) f78 Tryz.f213=true:=by kernel_rfl
theorem ok78 (f:FuncId) (hf:fmOf fms env 78=some f):DefRel Tryz.prog (fmOf fms env) tree.get (.code f78) f:=by
 have h:fmOf fms env 78=some 213:=by kernel_rfl
 rw [h] at hf
 cases hf
 exact funcB_ok Tryz.func213 chk78
theorem chk105:funcB Tryz.prog (fmOf fms env) (isPure tree.get) f105 Tryz.f11=true:=by kernel_rfl
theorem ok105 (f:FuncId) (hf:fmOf fms env 105=some f):DefRel Tryz.prog (fmOf fms env) tree.get (.code f105) f:=by
 have h:fmOf fms env 105=some 11:=by kernel_rfl
 rw [h] at hf
 cases hf
 exact funcB_ok Tryz.func11 chk105
theorem chk106:funcB Tryz.prog (fmOf fms env) (isPure tree.get) f106 Tryz.f25=true:=by kernel_rfl
theorem ok106 (f:FuncId) (hf:fmOf fms env 106=some f):DefRel Tryz.prog (fmOf fms env) tree.get (.code f106) f:=by
 have h:fmOf fms env 106=some 25:=by kernel_rfl
 rw [h] at hf
 cases hf
 exact funcB_ok Tryz.func25 chk106
theorem chk117:funcB Tryz.prog (fmOf fms env) (isPure tree.get) f117 Tryz.f69=true:=by kernel_rfl
theorem ok117 (f:FuncId) (hf:fmOf fms env 117=some f):DefRel Tryz.prog (fmOf fms env) tree.get (.code f117) f:=by
 have h:fmOf fms env 117=some 69:=by kernel_rfl
 rw [h] at hf
 cases hf
 exact funcB_ok Tryz.func69 chk117
theorem chk118:funcB Tryz.prog (fmOf fms env) (isPure tree.get) f118 Tryz.f70=true:=by kernel_rfl
theorem ok118 (f:FuncId) (hf:fmOf fms env 118=some f):DefRel Tryz.prog (fmOf fms env) tree.get (.code f118) f:=by
 have h:fmOf fms env 118=some 70:=by kernel_rfl
 rw [h] at hf
 cases hf
 exact funcB_ok Tryz.func70 chk118
theorem chk131:funcB Tryz.prog (fmOf fms env) (isPure tree.get) f131 Tryz.f118=true:=by kernel_rfl
theorem ok131 (f:FuncId) (hf:fmOf fms env 131=some f):DefRel Tryz.prog (fmOf fms env) tree.get (.code f131) f:=by
 have h:fmOf fms env 131=some 118:=by kernel_rfl
 rw [h] at hf
 cases hf
 exact funcB_ok Tryz.func118 chk131
theorem chk132:funcB Tryz.prog (fmOf fms env) (isPure tree.get) f132 Tryz.f119=true:=by kernel_rfl
theorem ok132 (f:FuncId) (hf:fmOf fms env 132=some f):DefRel Tryz.prog (fmOf fms env) tree.get (.code f132) f:=by
 have h:fmOf fms env 132=some 119:=by kernel_rfl
 rw [h] at hf
 cases hf
 exact funcB_ok Tryz.func119 chk132
theorem chk133:funcB Tryz.prog (fmOf fms env) (isPure tree.get) f133 Tryz.f120=true:=by kernel_rfl
theorem ok133 (f:FuncId) (hf:fmOf fms env 133=some f):DefRel Tryz.prog (fmOf fms env) tree.get (.code f133) f:=by
 have h:fmOf fms env 133=some 120:=by kernel_rfl
 rw [h] at hf
 cases hf
 exact funcB_ok Tryz.func120 chk133
theorem chk134:funcB Tryz.prog (fmOf fms env) (isPure tree.get) f134 Tryz.f121=true:=by kernel_rfl
theorem ok134 (f:FuncId) (hf:fmOf fms env 134=some f):DefRel Tryz.prog (fmOf fms env) tree.get (.code f134) f:=by
 have h:fmOf fms env 134=some 121:=by kernel_rfl
 rw [h] at hf
 cases hf
 exact funcB_ok Tryz.func121 chk134
theorem chk135:funcB Tryz.prog (fmOf fms env) (isPure tree.get) f135 Tryz.f122=true:=by kernel_rfl
theorem ok135 (f:FuncId) (hf:fmOf fms env 135=some f):DefRel Tryz.prog (fmOf fms env) tree.get (.code f135) f:=by
 have h:fmOf fms env 135=some 122:=by kernel_rfl
 rw [h] at hf
 cases hf
 exact funcB_ok Tryz.func122 chk135
theorem chk136:funcB Tryz.prog (fmOf fms env) (isPure tree.get) f136 Tryz.f123=true:=by kernel_rfl
theorem ok136 (f:FuncId) (hf:fmOf fms env 136=some f):DefRel Tryz.prog (fmOf fms env) tree.get (.code f136) f:=by
 have h:fmOf fms env 136=some 123:=by kernel_rfl
 rw [h] at hf
 cases hf
 exact funcB_ok Tryz.func123 chk136
theorem chk137:funcB Tryz.prog (fmOf fms env) (isPure tree.get) f137 Tryz.f124=true:=by kernel_rfl
theorem ok137 (f:FuncId) (hf:fmOf fms env 137=some f):DefRel Tryz.prog (fmOf fms env) tree.get (.code f137) f:=by
 have h:fmOf fms env 137=some 124:=by kernel_rfl
 rw [h] at hf
 cases hf
 exact funcB_ok Tryz.func124 chk137
theorem chk138:funcB Tryz.prog (fmOf fms env) (isPure tree.get) f138 Tryz.f125=true:=by kernel_rfl
theorem ok138 (f:FuncId) (hf:fmOf fms env 138=some f):DefRel Tryz.prog (fmOf fms env) tree.get (.code f138) f:=by
 have h:fmOf fms env 138=some 125:=by kernel_rfl
 rw [h] at hf
 cases hf
 exact funcB_ok Tryz.func125 chk138
theorem chk139:funcB Tryz.prog (fmOf fms env) (isPure tree.get) f139 Tryz.f132=true:=by kernel_rfl
theorem ok139 (f:FuncId) (hf:fmOf fms env 139=some f):DefRel Tryz.prog (fmOf fms env) tree.get (.code f139) f:=by
 have h:fmOf fms env 139=some 132:=by kernel_rfl
 rw [h] at hf
 cases hf
 exact funcB_ok Tryz.func132 chk139
theorem chk143:funcB Tryz.prog (fmOf fms env) (isPure tree.get) f143 Tryz.f159=true:=by kernel_rfl
theorem ok143 (f:FuncId) (hf:fmOf fms env 143=some f):DefRel Tryz.prog (fmOf fms env) tree.get (.code f143) f:=by
 have h:fmOf fms env 143=some 159:=by kernel_rfl
 rw [h] at hf
 cases hf
 exact funcB_ok Tryz.func159 chk143
theorem chk144:funcB Tryz.prog (fmOf fms env) (isPure tree.get) f144 Tryz.f160=true:=by kernel_rfl
theorem ok144 (f:FuncId) (hf:fmOf fms env 144=some f):DefRel Tryz.prog (fmOf fms env) tree.get (.code f144) f:=by
 have h:fmOf fms env 144=some 160:=by kernel_rfl
 rw [h] at hf
 cases hf
 exact funcB_ok Tryz.func160 chk144
theorem chk145:funcB Tryz.prog (fmOf fms env) (isPure tree.get) f145 Tryz.f164=true:=by kernel_rfl
theorem ok145 (f:FuncId) (hf:fmOf fms env 145=some f):DefRel Tryz.prog (fmOf fms env) tree.get (.code f145) f:=by
 have h:fmOf fms env 145=some 164:=by kernel_rfl
 rw [h] at hf
 cases hf
 exact funcB_ok Tryz.func164 chk145
theorem chk146:funcB Tryz.prog (fmOf fms env) (isPure tree.get) f146 Tryz.f165=true:=by kernel_rfl
theorem ok146 (f:FuncId) (hf:fmOf fms env 146=some f):DefRel Tryz.prog (fmOf fms env) tree.get (.code f146) f:=by
 have h:fmOf fms env 146=some 165:=by kernel_rfl
 rw [h] at hf
 cases hf
 exact funcB_ok Tryz.func165 chk146
theorem chk147:funcB Tryz.prog (fmOf fms env) (isPure tree.get) f147 Tryz.f186=true:=by kernel_rfl
theorem ok147 (f:FuncId) (hf:fmOf fms env 147=some f):DefRel Tryz.prog (fmOf fms env) tree.get (.code f147) f:=by
 have h:fmOf fms env 147=some 186:=by kernel_rfl
 rw [h] at hf
 cases hf
 exact funcB_ok Tryz.func186 chk147
theorem chk148:funcB Tryz.prog (fmOf fms env) (isPure tree.get) f148 Tryz.f187=true:=by kernel_rfl
theorem ok148 (f:FuncId) (hf:fmOf fms env 148=some f):DefRel Tryz.prog (fmOf fms env) tree.get (.code f148) f:=by
 have h:fmOf fms env 148=some 187:=by kernel_rfl
 rw [h] at hf
 cases hf
 exact funcB_ok Tryz.func187 chk148
theorem chk149:funcB Tryz.prog (fmOf fms env) (isPure tree.get) f149 Tryz.f188=true:=by kernel_rfl
theorem ok149 (f:FuncId) (hf:fmOf fms env 149=some f):DefRel Tryz.prog (fmOf fms env) tree.get (.code f149) f:=by
 have h:fmOf fms env 149=some 188:=by kernel_rfl
 rw [h] at hf
 cases hf
 exact funcB_ok Tryz.func188 chk149
theorem chk150:funcB Tryz.prog (fmOf fms env) (isPure tree.get) f150 Tryz.f189=true:=by kernel_rfl
theorem ok150 (f:FuncId) (hf:fmOf fms env 150=some f):DefRel Tryz.prog (fmOf fms env) tree.get (.code f150) f:=by
 have h:fmOf fms env 150=some 189:=by kernel_rfl
 rw [h] at hf
 cases hf
 exact funcB_ok Tryz.func189 chk150
theorem chk151:funcB Tryz.prog (fmOf fms env) (isPure tree.get) f151 Tryz.f190=true:=by kernel_rfl
theorem ok151 (f:FuncId) (hf:fmOf fms env 151=some f):DefRel Tryz.prog (fmOf fms env) tree.get (.code f151) f:=by
 have h:fmOf fms env 151=some 190:=by kernel_rfl
 rw [h] at hf
 cases hf
 exact funcB_ok Tryz.func190 chk151
theorem chk152:funcB Tryz.prog (fmOf fms env) (isPure tree.get) f152 Tryz.f191=true:=by kernel_rfl
theorem ok152 (f:FuncId) (hf:fmOf fms env 152=some f):DefRel Tryz.prog (fmOf fms env) tree.get (.code f152) f:=by
 have h:fmOf fms env 152=some 191:=by kernel_rfl
 rw [h] at hf
 cases hf
 exact funcB_ok Tryz.func191 chk152
theorem chk153:funcB Tryz.prog (fmOf fms env) (isPure tree.get) f153 Tryz.f195=true:=by kernel_rfl
theorem ok153 (f:FuncId) (hf:fmOf fms env 153=some f):DefRel Tryz.prog (fmOf fms env) tree.get (.code f153) f:=by
 have h:fmOf fms env 153=some 195:=by kernel_rfl
 rw [h] at hf
 cases hf
 exact funcB_ok Tryz.func195 chk153
theorem chk154:funcB Tryz.prog (fmOf fms env) (isPure tree.get) f154 Tryz.f196=true:=by kernel_rfl
theorem ok154 (f:FuncId) (hf:fmOf fms env 154=some f):DefRel Tryz.prog (fmOf fms env) tree.get (.code f154) f:=by
 have h:fmOf fms env 154=some 196:=by kernel_rfl
 rw [h] at hf
 cases hf
 exact funcB_ok Tryz.func196 chk154
theorem chk155:funcB Tryz.prog (fmOf fms env) (isPure tree.get) f155 Tryz.f114=true:=by kernel_rfl
theorem ok155 (f:FuncId) (hf:fmOf fms env 155=some f):DefRel Tryz.prog (fmOf fms env) tree.get (.code f155) f:=by
 have h:fmOf fms env 155=some 114:=by kernel_rfl
 rw [h] at hf
 cases hf
 exact funcB_ok Tryz.func114 chk155
theorem chk156:funcB Tryz.prog (fmOf fms env) (isPure tree.get) f156 Tryz.f207=true:=by kernel_rfl
theorem ok156 (f:FuncId) (hf:fmOf fms env 156=some f):DefRel Tryz.prog (fmOf fms env) tree.get (.code f156) f:=by
 have h:fmOf fms env 156=some 207:=by kernel_rfl
 rw [h] at hf
 cases hf
 exact funcB_ok Tryz.func207 chk156
theorem chk157:funcB Tryz.prog (fmOf fms env) (isPure tree.get) f157 Tryz.f208=true:=by kernel_rfl
theorem ok157 (f:FuncId) (hf:fmOf fms env 157=some f):DefRel Tryz.prog (fmOf fms env) tree.get (.code f157) f:=by
 have h:fmOf fms env 157=some 208:=by kernel_rfl
 rw [h] at hf
 cases hf
 exact funcB_ok Tryz.func208 chk157
theorem chk158:funcB Tryz.prog (fmOf fms env) (isPure tree.get) f158 Tryz.f209=true:=by kernel_rfl
theorem ok158 (f:FuncId) (hf:fmOf fms env 158=some f):DefRel Tryz.prog (fmOf fms env) tree.get (.code f158) f:=by
 have h:fmOf fms env 158=some 209:=by kernel_rfl
 rw [h] at hf
 cases hf
 exact funcB_ok Tryz.func209 chk158
theorem chk159:funcB Tryz.prog (fmOf fms env) (isPure tree.get) f159 Tryz.f210=true:=by kernel_rfl
theorem ok159 (f:FuncId) (hf:fmOf fms env 159=some f):DefRel Tryz.prog (fmOf fms env) tree.get (.code f159) f:=by
 have h:fmOf fms env 159=some 210:=by kernel_rfl
 rw [h] at hf
 cases hf
 exact funcB_ok Tryz.func210 chk159
theorem chk160:funcB Tryz.prog (fmOf fms env) (isPure tree.get) f160 Tryz.f211=true:=by kernel_rfl
theorem ok160 (f:FuncId) (hf:fmOf fms env 160=some f):DefRel Tryz.prog (fmOf fms env) tree.get (.code f160) f:=by
 have h:fmOf fms env 160=some 211:=by kernel_rfl
 rw [h] at hf
 cases hf
 exact funcB_ok Tryz.func211 chk160
theorem chk161:funcB Tryz.prog (fmOf fms env) (isPure tree.get) f161 Tryz.f212=true:=by kernel_rfl
theorem ok161 (f:FuncId) (hf:fmOf fms env 161=some f):DefRel Tryz.prog (fmOf fms env) tree.get (.code f161) f:=by
 have h:fmOf fms env 161=some 212:=by kernel_rfl
 rw [h] at hf
 cases hf
 exact funcB_ok Tryz.func212 chk161
theorem chk162:funcB Tryz.prog (fmOf fms env) (isPure tree.get) f162 Tryz.f155=true:=by kernel_rfl
theorem ok162 (f:FuncId) (hf:fmOf fms env 162=some f):DefRel Tryz.prog (fmOf fms env) tree.get (.code f162) f:=by
 have h:fmOf fms env 162=some 155:=by kernel_rfl
 rw [h] at hf
 cases hf
 exact funcB_ok Tryz.func155 chk162
theorem chk163:funcB Tryz.prog (fmOf fms env) (isPure tree.get) f163 Tryz.f215=true:=by kernel_rfl
theorem ok163 (f:FuncId) (hf:fmOf fms env 163=some f):DefRel Tryz.prog (fmOf fms env) tree.get (.code f163) f:=by
 have h:fmOf fms env 163=some 215:=by kernel_rfl
 rw [h] at hf
 cases hf
 exact funcB_ok Tryz.func215 chk163
theorem chk164:funcB Tryz.prog (fmOf fms env) (isPure tree.get) f164 Tryz.f216=true:=by kernel_rfl
theorem ok164 (f:FuncId) (hf:fmOf fms env 164=some f):DefRel Tryz.prog (fmOf fms env) tree.get (.code f164) f:=by
 have h:fmOf fms env 164=some 216:=by kernel_rfl
 rw [h] at hf
 cases hf
 exact funcB_ok Tryz.func216 chk164
theorem chk165:funcB Tryz.prog (fmOf fms env) (isPure tree.get) f165 Tryz.f217=true:=by kernel_rfl
theorem ok165 (f:FuncId) (hf:fmOf fms env 165=some f):DefRel Tryz.prog (fmOf fms env) tree.get (.code f165) f:=by
 have h:fmOf fms env 165=some 217:=by kernel_rfl
 rw [h] at hf
 cases hf
 exact funcB_ok Tryz.func217 chk165
theorem chk166:funcB Tryz.prog (fmOf fms env) (isPure tree.get) f166 Tryz.f218=true:=by kernel_rfl
theorem ok166 (f:FuncId) (hf:fmOf fms env 166=some f):DefRel Tryz.prog (fmOf fms env) tree.get (.code f166) f:=by
 have h:fmOf fms env 166=some 218:=by kernel_rfl
 rw [h] at hf
 cases hf
 exact funcB_ok Tryz.func218 chk166
theorem chk167:funcB Tryz.prog (fmOf fms env) (isPure tree.get) f167 Tryz.f219=true:=by kernel_rfl
theorem ok167 (f:FuncId) (hf:fmOf fms env 167=some f):DefRel Tryz.prog (fmOf fms env) tree.get (.code f167) f:=by
 have h:fmOf fms env 167=some 219:=by kernel_rfl
 rw [h] at hf
 cases hf
 exact funcB_ok Tryz.func219 chk167
theorem chk202:funcB Tryz.prog (fmOf fms env) (isPure tree.get) f202 Tryz.f3=true:=by kernel_rfl
theorem ok202 (f:FuncId) (hf:fmOf fms env 202=some f):DefRel Tryz.prog (fmOf fms env) tree.get (.code f202) f:=by
 have h:fmOf fms env 202=some 3:=by kernel_rfl
 rw [h] at hf
 cases hf
 exact funcB_ok Tryz.func3 chk202
theorem chk205:funcB Tryz.prog (fmOf fms env) (isPure tree.get) f205 Tryz.f6=true:=by kernel_rfl
theorem ok205 (f:FuncId) (hf:fmOf fms env 205=some f):DefRel Tryz.prog (fmOf fms env) tree.get (.code f205) f:=by
 have h:fmOf fms env 205=some 6:=by kernel_rfl
 rw [h] at hf
 cases hf
 exact funcB_ok Tryz.func6 chk205
theorem chk207:funcB Tryz.prog (fmOf fms env) (isPure tree.get) f207 Tryz.f8=true:=by kernel_rfl
theorem ok207 (f:FuncId) (hf:fmOf fms env 207=some f):DefRel Tryz.prog (fmOf fms env) tree.get (.code f207) f:=by
 have h:fmOf fms env 207=some 8:=by kernel_rfl
 rw [h] at hf
 cases hf
 exact funcB_ok Tryz.func8 chk207
theorem chk208:funcB Tryz.prog (fmOf fms env) (isPure tree.get) f208 Tryz.f9=true:=by kernel_rfl
theorem ok208 (f:FuncId) (hf:fmOf fms env 208=some f):DefRel Tryz.prog (fmOf fms env) tree.get (.code f208) f:=by
 have h:fmOf fms env 208=some 9:=by kernel_rfl
 rw [h] at hf
 cases hf
 exact funcB_ok Tryz.func9 chk208
theorem chk209:funcB Tryz.prog (fmOf fms env) (isPure tree.get) f209 Tryz.f10=true:=by kernel_rfl
theorem ok209 (f:FuncId) (hf:fmOf fms env 209=some f):DefRel Tryz.prog (fmOf fms env) tree.get (.code f209) f:=by
 have h:fmOf fms env 209=some 10:=by kernel_rfl
 rw [h] at hf
 cases hf
 exact funcB_ok Tryz.func10 chk209
theorem chk210:funcB Tryz.prog (fmOf fms env) (isPure tree.get) f210 Tryz.f12=true:=by kernel_rfl
theorem ok210 (f:FuncId) (hf:fmOf fms env 210=some f):DefRel Tryz.prog (fmOf fms env) tree.get (.code f210) f:=by
 have h:fmOf fms env 210=some 12:=by kernel_rfl
 rw [h] at hf
 cases hf
 exact funcB_ok Tryz.func12 chk210
theorem chk211:funcB Tryz.prog (fmOf fms env) (isPure tree.get) f211 Tryz.f13=true:=by kernel_rfl
theorem ok211 (f:FuncId) (hf:fmOf fms env 211=some f):DefRel Tryz.prog (fmOf fms env) tree.get (.code f211) f:=by
 have h:fmOf fms env 211=some 13:=by kernel_rfl
 rw [h] at hf
 cases hf
 exact funcB_ok Tryz.func13 chk211
theorem chk212:funcB Tryz.prog (fmOf fms env) (isPure tree.get) f212 Tryz.f15=true:=by kernel_rfl
theorem ok212 (f:FuncId) (hf:fmOf fms env 212=some f):DefRel Tryz.prog (fmOf fms env) tree.get (.code f212) f:=by
 have h:fmOf fms env 212=some 15:=by kernel_rfl
 rw [h] at hf
 cases hf
 exact funcB_ok Tryz.func15 chk212
theorem chk214:funcB Tryz.prog (fmOf fms env) (isPure tree.get) f214 Tryz.f18=true:=by kernel_rfl
theorem ok214 (f:FuncId) (hf:fmOf fms env 214=some f):DefRel Tryz.prog (fmOf fms env) tree.get (.code f214) f:=by
 have h:fmOf fms env 214=some 18:=by kernel_rfl
 rw [h] at hf
 cases hf
 exact funcB_ok Tryz.func18 chk214
theorem chk222:funcB Tryz.prog (fmOf fms env) (isPure tree.get) f222 Tryz.f30=true:=by kernel_rfl
theorem ok222 (f:FuncId) (hf:fmOf fms env 222=some f):DefRel Tryz.prog (fmOf fms env) tree.get (.code f222) f:=by
 have h:fmOf fms env 222=some 30:=by kernel_rfl
 rw [h] at hf
 cases hf
 exact funcB_ok Tryz.func30 chk222
theorem chk223:funcB Tryz.prog (fmOf fms env) (isPure tree.get) f223 Tryz.f31=true:=by kernel_rfl
theorem ok223 (f:FuncId) (hf:fmOf fms env 223=some f):DefRel Tryz.prog (fmOf fms env) tree.get (.code f223) f:=by
 have h:fmOf fms env 223=some 31:=by kernel_rfl
 rw [h] at hf
 cases hf
 exact funcB_ok Tryz.func31 chk223
theorem chk224:funcB Tryz.prog (fmOf fms env) (isPure tree.get) f224 Tryz.f32=true:=by kernel_rfl
theorem ok224 (f:FuncId) (hf:fmOf fms env 224=some f):DefRel Tryz.prog (fmOf fms env) tree.get (.code f224) f:=by
 have h:fmOf fms env 224=some 32:=by kernel_rfl
 rw [h] at hf
 cases hf
 exact funcB_ok Tryz.func32 chk224
theorem chk225:funcB Tryz.prog (fmOf fms env) (isPure tree.get) f225 Tryz.f33=true:=by kernel_rfl
theorem ok225 (f:FuncId) (hf:fmOf fms env 225=some f):DefRel Tryz.prog (fmOf fms env) tree.get (.code f225) f:=by
 have h:fmOf fms env 225=some 33:=by kernel_rfl
 rw [h] at hf
 cases hf
 exact funcB_ok Tryz.func33 chk225
theorem chk226:funcB Tryz.prog (fmOf fms env) (isPure tree.get) f226 Tryz.f34=true:=by kernel_rfl
theorem ok226 (f:FuncId) (hf:fmOf fms env 226=some f):DefRel Tryz.prog (fmOf fms env) tree.get (.code f226) f:=by
 have h:fmOf fms env 226=some 34:=by kernel_rfl
 rw [h] at hf
 cases hf
 exact funcB_ok Tryz.func34 chk226
theorem chk227:funcB Tryz.prog (fmOf fms env) (isPure tree.get) f227 Tryz.f35=true:=by kernel_rfl
theorem ok227 (f:FuncId) (hf:fmOf fms env 227=some f):DefRel Tryz.prog (fmOf fms env) tree.get (.code f227) f:=by
 have h:fmOf fms env 227=some 35:=by kernel_rfl
 rw [h] at hf
 cases hf
 exact funcB_ok Tryz.func35 chk227
theorem chk228:funcB Tryz.prog (fmOf fms env) (isPure tree.get) f228 Tryz.f36=true:=by kernel_rfl
theorem ok228 (f:FuncId) (hf:fmOf fms env 228=some f):DefRel Tryz.prog (fmOf fms env) tree.get (.code f228) f:=by
 have h:fmOf fms env 228=some 36:=by kernel_rfl
 rw [h] at hf
 cases hf
 exact funcB_ok Tryz.func36 chk228
theorem chk229:funcB Tryz.prog (fmOf fms env) (isPure tree.get) f229 Tryz.f37=true:=by kernel_rfl
theorem ok229 (f:FuncId) (hf:fmOf fms env 229=some f):DefRel Tryz.prog (fmOf fms env) tree.get (.code f229) f:=by
 have h:fmOf fms env 229=some 37:=by kernel_rfl
 rw [h] at hf
 cases hf
 exact funcB_ok Tryz.func37 chk229
theorem chk230:funcB Tryz.prog (fmOf fms env) (isPure tree.get) f230 Tryz.f38=true:=by kernel_rfl
theorem ok230 (f:FuncId) (hf:fmOf fms env 230=some f):DefRel Tryz.prog (fmOf fms env) tree.get (.code f230) f:=by
 have h:fmOf fms env 230=some 38:=by kernel_rfl
 rw [h] at hf
 cases hf
 exact funcB_ok Tryz.func38 chk230
theorem chk231:funcB Tryz.prog (fmOf fms env) (isPure tree.get) f231 Tryz.f39=true:=by kernel_rfl
theorem ok231 (f:FuncId) (hf:fmOf fms env 231=some f):DefRel Tryz.prog (fmOf fms env) tree.get (.code f231) f:=by
 have h:fmOf fms env 231=some 39:=by kernel_rfl
 rw [h] at hf
 cases hf
 exact funcB_ok Tryz.func39 chk231
theorem chk232:funcB Tryz.prog (fmOf fms env) (isPure tree.get) f232 Tryz.f40=true:=by kernel_rfl
theorem ok232 (f:FuncId) (hf:fmOf fms env 232=some f):DefRel Tryz.prog (fmOf fms env) tree.get (.code f232) f:=by
 have h:fmOf fms env 232=some 40:=by kernel_rfl
 rw [h] at hf
 cases hf
 exact funcB_ok Tryz.func40 chk232
theorem chk233:funcB Tryz.prog (fmOf fms env) (isPure tree.get) f233 Tryz.f41=true:=by kernel_rfl
theorem ok233 (f:FuncId) (hf:fmOf fms env 233=some f):DefRel Tryz.prog (fmOf fms env) tree.get (.code f233) f:=by
 have h:fmOf fms env 233=some 41:=by kernel_rfl
 rw [h] at hf
 cases hf
 exact funcB_ok Tryz.func41 chk233
theorem chk234:funcB Tryz.prog (fmOf fms env) (isPure tree.get) f234 Tryz.f42=true:=by kernel_rfl
theorem ok234 (f:FuncId) (hf:fmOf fms env 234=some f):DefRel Tryz.prog (fmOf fms env) tree.get (.code f234) f:=by
 have h:fmOf fms env 234=some 42:=by kernel_rfl
 rw [h] at hf
 cases hf
 exact funcB_ok Tryz.func42 chk234
theorem chk235:funcB Tryz.prog (fmOf fms env) (isPure tree.get) f235 Tryz.f48=true:=by kernel_rfl
theorem ok235 (f:FuncId) (hf:fmOf fms env 235=some f):DefRel Tryz.prog (fmOf fms env) tree.get (.code f235) f:=by
 have h:fmOf fms env 235=some 48:=by kernel_rfl
 rw [h] at hf
 cases hf
 exact funcB_ok Tryz.func48 chk235
theorem chk251:funcB Tryz.prog (fmOf fms env) (isPure tree.get) f251 Tryz.f78=true:=by kernel_rfl
theorem ok251 (f:FuncId) (hf:fmOf fms env 251=some f):DefRel Tryz.prog (fmOf fms env) tree.get (.code f251) f:=by
 have h:fmOf fms env 251=some 78:=by kernel_rfl
 rw [h] at hf
 cases hf
 exact funcB_ok Tryz.func78 chk251
theorem chk252:funcB Tryz.prog (fmOf fms env) (isPure tree.get) f252 Tryz.f79=true:=by kernel_rfl
theorem ok252 (f:FuncId) (hf:fmOf fms env 252=some f):DefRel Tryz.prog (fmOf fms env) tree.get (.code f252) f:=by
 have h:fmOf fms env 252=some 79:=by kernel_rfl
 rw [h] at hf
 cases hf
 exact funcB_ok Tryz.func79 chk252
theorem chk253:funcB Tryz.prog (fmOf fms env) (isPure tree.get) f253 Tryz.f81=true:=by kernel_rfl
theorem ok253 (f:FuncId) (hf:fmOf fms env 253=some f):DefRel Tryz.prog (fmOf fms env) tree.get (.code f253) f:=by
 have h:fmOf fms env 253=some 81:=by kernel_rfl
 rw [h] at hf
 cases hf
 exact funcB_ok Tryz.func81 chk253
theorem chk254:funcB Tryz.prog (fmOf fms env) (isPure tree.get) f254 Tryz.f82=true:=by kernel_rfl
theorem ok254 (f:FuncId) (hf:fmOf fms env 254=some f):DefRel Tryz.prog (fmOf fms env) tree.get (.code f254) f:=by
 have h:fmOf fms env 254=some 82:=by kernel_rfl
 rw [h] at hf
 cases hf
 exact funcB_ok Tryz.func82 chk254
theorem chk255:funcB Tryz.prog (fmOf fms env) (isPure tree.get) f255 Tryz.f83=true:=by kernel_rfl
theorem ok255 (f:FuncId) (hf:fmOf fms env 255=some f):DefRel Tryz.prog (fmOf fms env) tree.get (.code f255) f:=by
 have h:fmOf fms env 255=some 83:=by kernel_rfl
 rw [h] at hf
 cases hf
 exact funcB_ok Tryz.func83 chk255
theorem chk256:funcB Tryz.prog (fmOf fms env) (isPure tree.get) f256 Tryz.f84=true:=by kernel_rfl
theorem ok256 (f:FuncId) (hf:fmOf fms env 256=some f):DefRel Tryz.prog (fmOf fms env) tree.get (.code f256) f:=by
 have h:fmOf fms env 256=some 84:=by kernel_rfl
 rw [h] at hf
 cases hf
 exact funcB_ok Tryz.func84 chk256
theorem ok72 (f:FuncId) (hf:fmOf fms env 72=some f):DefRel Tryz.prog (fmOf fms env) tree.get (.prim indexByteD) f:=by
 have h:fmOf fms env 72=some 162:=by kernel_rfl
 rw [h] at hf
 cases hf
 exact prim_indexByte Tryz.func162 (by kernel_rfl) (by kernel_rfl) (by kernel_rfl) (by kernel_rfl)
theorem ok64 (f:FuncId) (hf:fmOf fms env 64=some f):DefRel Tryz.prog (fmOf fms env) tree.get (.prim countByteD) f:=by
 have h:fmOf fms env 64=some 129:=by kernel_rfl
 rw [h] at hf
 cases hf
 exact prim_countByte Tryz.func129 (by kernel_rfl) (by kernel_rfl) (by kernel_rfl) (by kernel_rfl)
theorem tabOk:TabRel Tryz.prog (fmOf fms env) tree.get:=tabRel_tree (t:=tree) ⟨⟨⟨⟨⟨⟨ok9,⟨ok10,ok13⟩⟩,⟨ok17,⟨ok21,ok23⟩⟩⟩,⟨⟨ok26,⟨ok27,ok29⟩⟩,⟨ok30,⟨ok31,ok32⟩⟩⟩⟩,⟨⟨⟨ok40,⟨ok41,ok42⟩⟩,⟨ok43,⟨ok44,ok51⟩⟩⟩,⟨⟨ok54,⟨ok55,ok56⟩⟩,⟨⟨ok57,ok61⟩,⟨ok62,ok63⟩⟩⟩⟩⟩,⟨⟨⟨⟨ok64,⟨ok65,ok68⟩⟩,⟨ok69,⟨ok70,ok72⟩⟩⟩,⟨⟨ok73,⟨ok74,ok76⟩⟩,⟨⟨ok77,ok78⟩,⟨ok105,ok106⟩⟩⟩⟩,⟨⟨⟨ok117,⟨ok118,ok131⟩⟩,⟨ok132,⟨ok133,ok134⟩⟩⟩,⟨⟨ok135,⟨ok136,ok137⟩⟩,⟨⟨ok138,ok139⟩,⟨ok143,ok144⟩⟩⟩⟩⟩⟩,⟨⟨⟨⟨⟨ok145,⟨ok146,ok147⟩⟩,⟨ok148,⟨ok149,ok150⟩⟩⟩,⟨⟨ok151,⟨ok152,ok153⟩⟩,⟨⟨ok154,ok155⟩,⟨ok156,ok157⟩⟩⟩⟩,⟨⟨⟨ok158,⟨ok159,ok160⟩⟩,⟨ok161,⟨ok162,ok163⟩⟩⟩,⟨⟨ok164,⟨ok165,ok166⟩⟩,⟨⟨ok167,ok202⟩,⟨ok205,ok207⟩⟩⟩⟩⟩,⟨⟨⟨⟨ok208,⟨ok209,ok210⟩⟩,⟨ok211,⟨ok212,ok214⟩⟩⟩,⟨⟨ok222,⟨ok223,ok224⟩⟩,⟨⟨ok225,ok226⟩,⟨ok227,ok228⟩⟩⟩⟩,⟨⟨⟨ok229,⟨ok230,ok231⟩⟩,⟨ok232,⟨ok233,ok234⟩⟩⟩,⟨⟨ok235,⟨ok251,ok252⟩⟩,⟨⟨ok253,ok254⟩,⟨ok255,ok256⟩⟩⟩⟩⟩⟩⟩
end Go.D.Tab
end
section
namespace Go.D
structure Rec where
 C:RC→Fr→St→Option (Ex×Fr×St)
 O:List ROper→Fr→St→Option (Fr×St)
 S:List ROper→Fr→St→List St→Option (Fr×List St)
 N:ROper→Fr→St→Option (DV×St)
 A:Fr→List ROper→List St→List (Nat×List Nat)→Bool
 K:Fr→ROper→List St→List Nat→Bool
 F:Nat→List DV→St→Option (DV×St)
 V:DV→List DV→St→Option (DV×St)
def runCR (T:Tab) (R:Rec):RC→Fr→St→Option (Ex×Fr×St)
 | c,fr,st=>
   match c with
   | .skip=>some (.normal,fr,st)
   | .region ops live=>match R.O ops fr st with | some (fr',st')=>some (.normal,fr'.keep live,st') | none=>none
   | .dregion ops hs chk live=>
     match prepH fr hs st ops with
     | some (st1,ops2)=>
       match R.S ops2 fr st1 [st1] with
       | some (fr',sts)=>if R.A fr' ops2 sts.reverse chk then (match sts with | st'::_=>some (.normal,fr'.keep live,st') | []=>none) else none
       | none=>none
     | none=>none
   | .seq a b=>
     match R.C a fr st with
     | some (.normal,fr',st')=>R.C b fr' st'
     | r=>r
   | .cond x a b=>match x.ev fr with | .bool true=>R.C a fr st | .bool false=>R.C b fr st | _=>none
   | .block id a=>
     match R.C a fr st with
     | some (.exit id',fr',st')=>if id'=id then some (.normal,fr',st') else some (.exit id',fr',st')
     | r=>r
   | .loop live a=>
     match R.C a (fr.keep live) st with
     | some (.normal,fr',st')=>R.C (.loop live a) fr' st'
     | r=>r
   | .exit id=>some (.exit id,fr,st)
   | .ret=>some (.ret,fr,st)
   | .stuck=>none
   | .rfunc f params assign body live=>
     let l:=st.heap.length
     let fr0:=fr.keep live
     match f.ev fr0 with
     | .fn g first captured=>
       if isCode T g then
        match R.F g (first++[.yield l]++captured) (st.push (.loop ⟨fr0,params,assign,body,0,none⟩)) with
        | some (_,st')=>
          match st'.heap[l]? with
          | some (.loop lo)=>
            if lo.state=1 then none else
            match lo.pending with
            | none=>some (.normal,fr0,{ st' with heap:=st'.heap.set l (.loop { lo with state:=3 }) })
            | some e=>some (e,fr0,{ st' with heap:=st'.heap.set l (.loop { lo with state:=3 }) })
          | _=>none
        | none=>none
       else none
     | _=>none
def runOpsR (_T:Tab) (R:Rec):List ROper→Fr→St→Option (Fr×St)
 | [],fr,st=>some (fr,st)
 | o::r,fr,st=>
   match R.N o fr st with
   | some (v,st')=>R.O r (fr.put o.dst v) st'
   | none=>none
def runOpsSR (T:Tab) (R:Rec):List ROper→Fr→St→List St→Option (Fr×List St)
 | [],fr,_,sts=>some (fr,sts)
 | o::r,fr,st,sts=>
   match R.N o fr st with
   | some (v,st')=>if loudD (isPure T) o.op then R.S r (fr.put o.dst v) st' (st'::sts) else R.S r (fr.put o.dst v) st sts
   | none=>none
def runOneR (T:Tab) (R:Rec):ROper→Fr→St→Option (DV×St)
 | o,fr,st=>
   match wantedD fr o.guard with
   | none=>none
   | some false=>some (.tuple [],st)
   | some true=>
     match o.op with
     | .call g args=>R.F g (args.map (X.ev fr)) st
     | .callv f args=>R.V (f.ev fr) (args.map (X.ev fr)) st
     | .callp f args=>
       match f.ev fr with
       | .fn g first captured=>if isPure T g then R.F g (first++args.map (X.ev fr)++captured) st else none
       | _=>none
     | op=>stepD st fr op
def chkAllR (_T:Tab) (R:Rec):Fr→List ROper→List St→List (Nat×List Nat)→Bool
 | _,_,_,[]=>true
 | fr,ops,sts,(i,vs)::r=>
   (match ops[i]? with
    | some o=>R.K fr o sts vs
    | none=>false)&&R.A fr ops sts r
def chkOneR (_T:Tab) (R:Rec):Fr→ROper→List St→List Nat→Bool
 | _,_,_,[]=>true
 | fr,o,sts,j::r=>
   (match sts[j]? with
    | some st=>(match R.N o fr st,o.dst with | some (v,_),some d=>DV.beq v (fr.get d) | _,_=>false)
    | none=>false)&&R.K fr o sts r
def callFR (T:Tab) (R:Rec):Nat→List DV→St→Option (DV×St)
 | g,args,st=>
   match T g with
   | none=>none
   | some (.prim p)=>p args st
   | some (.pprim p)=>(p args).map fun v=>(v,st)
   | some (.code f)=>
     if f.pureF then
      match R.C f.body (frame0 args 0) st.enter with
      | some (.exit _,_,_)=>none
      | some (_,fr,st')=>
        match resD st' fr f.results with
        | some v=>(exportT st st' v).map fun v'=>(v',st)
        | none=>none
      | none=>none
     else
      match R.C f.body (frame0 args 0) st with
      | some (.exit _,_,_)=>none
      | some (_,fr,st')=>(resD st' fr f.results).map fun v=>(v,st')
      | none=>none
def callVR (_T:Tab) (R:Rec):DV→List DV→St→Option (DV×St)
 | f,args,st=>
   match f with
   | .fn g first captured=>R.F g (first++args++captured) st
   | .yield l=>
     match st.heap[l]? with
     | some (.loop lo)=>
       if st.base≤l∧args.length=lo.params.length then
        match R.C lo.assign (setParams lo.fr lo.params args) st with
        | some (.normal,fr1,st1)=>
          match st1.heap[l]? with
          | some (.loop lo1)=>
            if lo1.state=0 then
             match R.C lo.body fr1 { st1 with heap:=st1.heap.set l (.loop { lo1 with state:=1 }) } with
             | some (e,_,st2)=>
               match st2.heap[l]? with
               | some (.loop lo2)=>
                 match e with
                 | .normal=>some (.bool true,{ st2 with heap:=st2.heap.set l (.loop { lo2 with state:=0,pending:=none }) })
                 | e=>some (.bool false,{ st2 with heap:=st2.heap.set l (.loop { lo2 with state:=2,pending:=some e }) })
               | _=>none
             | none=>none
            else none
          | _=>none
        | _=>none
       else none
     | _=>none
   | _=>none
def failR:Rec:=⟨fun _ _ _=>none,fun _ _ _=>none,fun _ _ _ _=>none,fun _ _ _=>none,fun _ _ _ _=>false,fun _ _ _ _=>false,fun _ _ _=>none,fun _ _ _=>none⟩
def stepR (T:Tab) (R:Rec):Rec:=⟨runCR T R,runOpsR T R,runOpsSR T R,runOneR T R,chkAllR T R,chkOneR T R,callFR T R,callVR T R⟩
def fastR (T:Tab):Nat→Rec
 | 0=>failR
 | n+1=>stepR T (fastR T n)
def recOf (T:Tab) (n:Nat):Rec:=⟨runC T n,runOps T n,runOpsS T n,runOne T n,chkAll T n,chkOne T n,callF T n,callV T n⟩
theorem rec_zero (T:Tab):recOf T 0=failR:=by
 unfold recOf failR
 rw [Rec.mk.injEq]
 refine ⟨?_,?_,?_,?_,?_,?_,?_,?_⟩
 · funext c fr st;cases c<;>simp [runC]
 · funext a b c;simp [runOps]
 · funext a b c d;simp [runOpsS]
 · funext a b c;simp [runOne]
 · funext a b c d;simp [chkAll]
 · funext a b c d;simp [chkOne]
 · funext a b c;simp [callF]
 · funext a b c;simp [callV]
theorem rec_succ (T:Tab) (n:Nat):recOf T (n+1)=stepR T (recOf T n):=by
 unfold recOf stepR
 rw [Rec.mk.injEq]
 refine ⟨?_,?_,?_,?_,?_,?_,?_,?_⟩
 · funext c fr st;cases c<;>first | rfl | (simp only [runC,runCR];done) | (simp only [runC,runCR];rfl)
 · funext a b c;cases a<;>first | rfl | (simp only [runOps,runOpsR];done) | (simp only [runOps,runOpsR];rfl)
 · funext a b c d;cases a<;>first | rfl | (simp only [runOpsS,runOpsSR];done) | (simp only [runOpsS,runOpsSR];rfl)
 · funext a b c;first | rfl | (simp only [runOne,runOneR];done) | (simp only [runOne,runOneR];rfl)
 · funext a b c d;cases d<;>first | rfl | (simp only [chkAll,chkAllR];done) | (simp only [chkAll,chkAllR];rfl)
 · funext a b c d;cases d<;>first | rfl | (simp only [chkOne,chkOneR];done) | (simp only [chkOne,chkOneR];rfl)
 · funext a b c;first | rfl | (simp only [callF,callFR];done) | (simp only [callF,callFR];rfl)
 · funext a b c;first | rfl | (simp only [callV,callVR];done) | (simp only [callV,callVR];rfl)
theorem fast_eq (T:Tab):∀ n,fastR T n=recOf T n
 | 0=>(rec_zero T).symm
 | n+1=>by rw [rec_succ,← fast_eq T n];rfl
theorem callF_fast {T:Tab} {n g:Nat} {args:List DV} {st:St} {r:Option (DV×St)} (h:(fastR T n).F g args st=r):callF T n g args st=r:=by
 rw [fast_eq] at h
 exact h
end Go.D
end
