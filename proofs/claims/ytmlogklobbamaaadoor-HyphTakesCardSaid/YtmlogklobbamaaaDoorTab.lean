/-
The code of what the laws reach, as a table of the small language. Printed by wip/gen.
-/
import Derived.Test.YtmlogklobbamaaaDoorFwDPrim
namespace Go.D.Tab

/-! quire/quirekit.Pick -/
@[simp] def f28r0 : List ROper := [
  ⟨some 4, .mv (.c (.int .i64 (.ofNat 0))), none⟩]
@[simp] def f28r1 : List ROper := [
  ⟨some 5, .mv (.t 1), none⟩,
  ⟨some 6, .bin .lss (.t 5) (.c (.int .i64 (.ofNat 1))), none⟩]
@[simp] def f28r2 : List ROper := [
  ⟨some 4, .mv (.c (.int .i64 (.ofNat 0))), none⟩]
@[simp] def f28r3 : List ROper := [
  ⟨some 7, .mv (.t 0), none⟩,
  ⟨some 8, .mv (.t 1), none⟩,
  ⟨some 9, .bin .rem (.t 7) (.t 8), none⟩,
  ⟨some 0, .mv (.t 9), none⟩]
@[simp] def f28r4 : List ROper := [
  ⟨some 10, .mv (.t 0), none⟩,
  ⟨some 11, .bin .lss (.t 10) (.c (.int .i64 (.ofNat 0))), none⟩]
@[simp] def f28r5 : List ROper := [
  ⟨some 12, .mv (.t 0), none⟩,
  ⟨some 13, .mv (.t 1), none⟩,
  ⟨some 14, .bin .add (.t 12) (.t 13), none⟩,
  ⟨some 0, .mv (.t 14), none⟩]
@[simp] def f28r6 : List ROper := [
  ⟨some 15, .mv (.t 0), none⟩,
  ⟨some 4, .mv (.t 15), none⟩]
def f28 : RFunc := ⟨[.t 4], (.seq (.region f28r0 [0, 1]) (.seq (.seq (.region f28r1 [0, 1, 6]) (.cond (.t 6) (.seq (.region f28r2 [4]) .ret) .skip)) (.seq (.region f28r3 [0, 1]) (.seq (.seq (.region f28r4 [0, 1, 11]) (.cond (.t 11) (.region f28r5 [0]) .skip)) (.seq (.region f28r6 [4]) .ret))))), true⟩

/-! quire/quirekit.SameTexts -/
@[simp] def f50r0 : List ROper := [
  ⟨some 4, .mv (.c (.bool false)), none⟩]
@[simp] def f50r1 : List ROper := [
  ⟨some 6, .mv (.t 0), none⟩,
  ⟨some 7, .len .slice (.t 6), none⟩,
  ⟨some 8, .mv (.t 1), none⟩,
  ⟨some 9, .len .slice (.t 8), none⟩,
  ⟨some 10, .bin .neq (.t 7) (.t 9), none⟩]
@[simp] def f50r2 : List ROper := [
  ⟨some 4, .mv (.c (.bool false)), none⟩]
@[simp] def f50r3 : List ROper := [
  ⟨some 5, .mv (.c (.int .i64 (.ofNat 0))), none⟩]
@[simp] def f50r4 : List ROper := [
  ⟨some 11, .mv (.t 5), none⟩,
  ⟨some 12, .mv (.t 0), none⟩,
  ⟨some 13, .len .slice (.t 12), none⟩,
  ⟨some 14, .bin .lss (.t 11) (.t 13), none⟩]
@[simp] def f50r5 : List ROper := [
  ⟨some 17, .mv (.t 0), none⟩,
  ⟨some 18, .mv (.t 5), none⟩,
  ⟨some 19, .iaddr 1 (.t 17) (.t 18), none⟩,
  ⟨some 20, .load 1 false (.t 19), none⟩,
  ⟨some 21, .mv (.t 1), none⟩,
  ⟨some 22, .mv (.t 5), none⟩,
  ⟨some 23, .iaddr 1 (.t 21) (.t 22), none⟩,
  ⟨some 24, .load 1 false (.t 23), none⟩,
  ⟨some 25, .bin .neq (.t 20) (.t 24), none⟩]
@[simp] def f50r6 : List ROper := [
  ⟨some 4, .mv (.c (.bool false)), none⟩]
@[simp] def f50r7 : List ROper := [
  ⟨some 15, .mv (.t 5), none⟩,
  ⟨some 16, .bin .add (.t 15) (.c (.int .i64 (.ofNat 1))), none⟩,
  ⟨some 5, .mv (.t 16), none⟩]
def f50B0 : RC := (.seq (.seq (.region f50r4 [0, 1, 5, 14]) (.cond (.t 14) .skip (.exit 0))) (.seq (.block 1 (.seq (.dregion f50r5 [] [] [0, 1, 5, 25]) (.cond (.t 25) (.seq (.region f50r6 [4]) .ret) .skip))) (.region f50r7 [0, 1, 5])))
def f50L0 : RC := .loop [0, 1, 5] f50B0
@[simp] def f50r8 : List ROper := [
  ⟨some 4, .mv (.c (.bool true)), none⟩]
def f50 : RFunc := ⟨[.t 4], (.seq (.region f50r0 [0, 1]) (.seq (.seq (.region f50r1 [0, 1, 10]) (.cond (.t 10) (.seq (.region f50r2 [4]) .ret) .skip)) (.seq (.seq (.region f50r3 [0, 1, 5]) (.block 0 f50L0)) (.seq (.region f50r8 [4]) .ret)))), true⟩

/-! quire/hyph.Plain -/
@[simp] def f143r0 : List ROper := [
  ⟨some 0, .mv (.c .nilp), none⟩]
@[simp] def f143r1 : List ROper := [
  ⟨some 4, .call 148 [(.c (.str [49, 116, 97, 32, 49, 116, 101, 32, 49, 116, 105, 32, 49, 116, 111, 32, 49, 110, 97, 32, 49, 110, 101, 32, 49, 110, 105, 32, 49, 108, 97, 32, 49, 108, 101, 32, 49, 108, 105, 32, 49, 114, 97, 32, 49, 114, 101, 32, 49, 109, 97, 32, 49, 109, 101, 32, 49, 112, 97, 32, 49, 112, 101, 32, 49, 99, 97, 32, 49, 99, 111, 32, 49, 100, 101, 32, 49, 115, 97, 32, 49, 103, 101, 32, 49, 98, 108, 32, 116, 50, 116, 101, 32, 108, 50, 108, 101, 32, 110, 50, 110, 101, 32, 114, 50, 114, 101, 32, 50, 98, 108, 101, 46, 32, 52, 108, 101, 46, 32, 46, 114, 101, 51, 97, 32, 49, 112, 104, 101]))], none⟩,
  ⟨some 5, .lit 1 false [(.str [])] 3 [(0, (.c (.str [116, 97, 45, 98, 108, 101]))), (1, (.c (.str [112, 114, 111, 45, 106, 101, 99, 116]))), (2, (.c (.str [104, 121, 45, 112, 104, 101, 110, 45, 97, 45, 116, 105, 111, 110])))], none⟩,
  ⟨some 6, .call 147 [(.t 4), (.t 5)], none⟩,
  ⟨some 3, .mv (.t 6), none⟩,
  ⟨some 7, .extract (.t 3) 0, none⟩,
  ⟨some 8, .extract (.t 3) 1, none⟩,
  ⟨some 1, .mv (.t 7), none⟩,
  ⟨some 2, .mv (.t 8), none⟩]
@[simp] def f143r2 : List ROper := [
  ⟨some 9, .mv (.t 1), none⟩,
  ⟨some 0, .mv (.t 9), none⟩]
def f143 : RFunc := ⟨[.t 0], (.seq (.region f143r0 []) (.seq (.region f143r1 [1]) (.seq (.region f143r2 [0]) .ret))), false⟩

/-! (*quire/hyph.Hyph).Points -/
@[simp] def f144r0 : List ROper := [
  ⟨some 4, .mv (.c (.list 0 0 .no false [])), none⟩,
  ⟨some 5, .mv (.c (.int .i64 (.ofNat 0))), none⟩]
@[simp] def f144r1 : List ROper := [
  ⟨some 13, .mv (.t 0), none⟩,
  ⟨some 14, .eq .ptr false (.t 13) (.c .nilp), none⟩,
  ⟨some 15, .mv (.t 14), none⟩,
  ⟨some 16, .mv (.t 0), some (15, false)⟩,
  ⟨some 17, .nilchk (.t 16), some (15, false)⟩,
  ⟨some 18, .faddr 0 (.t 17), some (15, false)⟩,
  ⟨some 19, .load 1 false (.t 18), some (15, false)⟩,
  ⟨some 20, .eq .ptr false (.t 19) (.c .nilp), some (15, false)⟩,
  ⟨some 21, .pick (.t 15) (.c (.bool true)) (.t 20), none⟩]
@[simp] def f144r2 : List ROper := [
  ⟨some 4, .mv (.c (.list 0 0 .no false [])), none⟩,
  ⟨some 5, .mv (.c (.int .i64 (.ofNat 1))), none⟩]
@[simp] def f144r3 : List ROper := [
  ⟨some 23, .mv (.t 1), none⟩,
  ⟨some 24, .call 149 [(.t 23)], none⟩,
  ⟨some 22, .mv (.t 24), none⟩,
  ⟨some 25, .extract (.t 22) 0, none⟩,
  ⟨some 26, .extract (.t 22) 1, none⟩,
  ⟨some 6, .mv (.t 25), none⟩,
  ⟨some 7, .mv (.t 26), none⟩]
@[simp] def f144r4 : List ROper := [
  ⟨some 27, .mv (.t 7), none⟩,
  ⟨some 28, .un .not (.t 27), none⟩]
@[simp] def f144r5 : List ROper := [
  ⟨some 4, .mv (.c (.list 0 0 .no false [])), none⟩,
  ⟨some 5, .mv (.c (.int .i64 (.ofNat 4))), none⟩]
@[simp] def f144r6 : List ROper := [
  ⟨some 30, .mv (.t 0), none⟩,
  ⟨some 31, .nilchk (.t 30), none⟩,
  ⟨some 32, .faddr 1 (.t 31), none⟩,
  ⟨some 33, .load 1 false (.t 32), none⟩,
  ⟨some 34, .mv (.t 6), none⟩,
  ⟨some 35, .lookup [.str] (.list 0 0 .no false []) (.t 33) (.t 34) true, none⟩,
  ⟨some 29, .mv (.t 35), none⟩,
  ⟨some 36, .extract (.t 29) 0, none⟩,
  ⟨some 37, .extract (.t 29) 1, none⟩,
  ⟨some 8, .mv (.t 36), none⟩,
  ⟨some 9, .mv (.t 37), none⟩]
@[simp] def f144r7 : List ROper := [
  ⟨some 38, .mv (.t 9), none⟩]
@[simp] def f144r8 : List ROper := [
  ⟨some 39, .mv (.t 8), none⟩,
  ⟨some 40, .call 150 [(.t 39)], none⟩,
  ⟨some 4, .mv (.t 40), none⟩,
  ⟨some 5, .mv (.c (.int .i64 (.ofNat 0))), none⟩]
@[simp] def f144r9 : List ROper := [
  ⟨some 41, .mv (.t 6), none⟩,
  ⟨some 42, .len .str (.t 41), none⟩,
  ⟨some 43, .bin .add (.t 42) (.c (.int .i64 (.ofNat 3))), none⟩,
  ⟨some 44, .mkslice 1 false 1 [(.int .u8 (.ofNat 0))] (.t 43) (.t 43), none⟩,
  ⟨some 10, .mv (.t 44), none⟩]
@[simp] def f144r10 : List ROper := [
  ⟨some 45, .mv (.t 0), none⟩,
  ⟨some 46, .mv (.t 6), none⟩,
  ⟨some 47, .bin .add (.c (.str [46])) (.t 46), none⟩,
  ⟨some 48, .bin .add (.t 47) (.c (.str [46])), none⟩,
  ⟨some 49, .mv (.t 10), none⟩,
  ⟨some 50, .mkfn 152 [(.t 49)] [], none⟩,
  ⟨some 51, .call 151 [(.t 45), (.t 48), (.t 50)], none⟩]
@[simp] def f144r11 : List ROper := [
  ⟨some 11, .mv (.c (.list 0 0 .no false [])), none⟩]
@[simp] def f144r12 : List ROper := [
  ⟨some 12, .mv (.c (.int .i64 (.ofNat 2))), none⟩]
@[simp] def f144r13 : List ROper := [
  ⟨some 52, .mv (.t 12), none⟩,
  ⟨some 53, .mv (.t 6), none⟩,
  ⟨some 54, .len .str (.t 53), none⟩,
  ⟨some 55, .bin .sub (.t 54) (.c (.int .i64 (.ofNat 3))), none⟩,
  ⟨some 56, .bin .leq (.t 52) (.t 55), none⟩]
@[simp] def f144r14 : List ROper := [
  ⟨some 59, .mv (.t 10), none⟩,
  ⟨some 60, .mv (.t 12), none⟩,
  ⟨some 61, .bin .add (.t 60) (.c (.int .i64 (.ofNat 1))), none⟩,
  ⟨some 62, .iaddr 1 (.t 59) (.t 61), none⟩,
  ⟨some 63, .load 1 false (.t 62), none⟩,
  ⟨some 64, .bin .rem (.t 63) (.c (.int .u8 (.ofNat 2))), none⟩,
  ⟨some 65, .bin .eql (.t 64) (.c (.int .u8 (.ofNat 1))), none⟩]
@[simp] def f144r15 : List ROper := [
  ⟨some 66, .mv (.t 11), none⟩,
  ⟨some 67, .mv (.t 12), none⟩,
  ⟨some 68, .lit 1 false [(.int .i64 (.ofNat 0))] 1 [(0, (.t 67))], none⟩,
  ⟨some 69, .append 1 false 8 (.t 66) (.t 68), none⟩,
  ⟨some 11, .mv (.t 69), none⟩]
@[simp] def f144r16 : List ROper := [
  ⟨some 57, .mv (.t 12), none⟩,
  ⟨some 58, .bin .add (.t 57) (.c (.int .i64 (.ofNat 1))), none⟩,
  ⟨some 12, .mv (.t 58), none⟩]
def f144B0 : RC := (.seq (.seq (.region f144r13 [6, 10, 11, 12, 56]) (.cond (.t 56) .skip (.exit 0))) (.seq (.block 1 (.seq (.region f144r14 [6, 10, 11, 12, 65]) (.cond (.t 65) (.region f144r15 [6, 10, 11, 12]) .skip))) (.region f144r16 [6, 10, 11, 12])))
def f144L0 : RC := .loop [6, 10, 11, 12] f144B0
@[simp] def f144r17 : List ROper := [
  ⟨some 70, .mv (.t 11), none⟩,
  ⟨some 4, .mv (.t 70), none⟩,
  ⟨some 5, .mv (.c (.int .i64 (.ofNat 0))), none⟩]
def f144 : RFunc := ⟨[.t 4, .t 5], (.seq (.region f144r0 [0, 1]) (.seq (.seq (.region f144r1 [0, 1, 21]) (.cond (.t 21) (.seq (.region f144r2 [4, 5]) .ret) .skip)) (.seq (.region f144r3 [0, 6, 7]) (.seq (.seq (.region f144r4 [0, 6, 28]) (.cond (.t 28) (.seq (.region f144r5 [4, 5]) .ret) .skip)) (.seq (.seq (.region f144r6 [0, 6, 8, 9]) (.seq (.region f144r7 [0, 6, 8, 38]) (.cond (.t 38) (.seq (.region f144r8 [4, 5]) .ret) .skip))) (.seq (.region f144r9 [0, 6, 10]) (.seq (.region f144r10 [6, 10]) (.seq (.region f144r11 [6, 10, 11]) (.seq (.seq (.region f144r12 [6, 10, 11, 12]) (.block 0 f144L0)) (.seq (.region f144r17 [4, 5]) .ret)))))))))), false⟩

/-! quire/hyph.New -/
@[simp] def f147r0 : List ROper := [
  ⟨some 4, .mv (.c .nilp), none⟩,
  ⟨some 5, .mv (.c (.int .i64 (.ofNat 0))), none⟩]
@[simp] def f147r1 : List ROper := [
  ⟨some 20, .mv (.t 0), none⟩,
  ⟨some 21, .len .slice (.t 20), none⟩,
  ⟨some 22, .bin .gtr (.t 21) (.c (.int .i64 (.ofNat 256))), none⟩,
  ⟨some 23, .mv (.t 22), none⟩,
  ⟨some 24, .mv (.t 1), some (23, false)⟩,
  ⟨some 25, .len .slice (.t 24), some (23, false)⟩,
  ⟨some 26, .bin .gtr (.t 25) (.c (.int .i64 (.ofNat 64))), some (23, false)⟩,
  ⟨some 27, .pick (.t 23) (.c (.bool true)) (.t 26), none⟩]
@[simp] def f147r2 : List ROper := [
  ⟨some 4, .mv (.c .nilp), none⟩,
  ⟨some 5, .mv (.c (.int .i64 (.ofNat 3))), none⟩]
@[simp] def f147r3 : List ROper := [
  ⟨some 28, .build [.nilmap, (.list 0 0 .no false [])] [], none⟩,
  ⟨some 29, .box 2 (.t 28), none⟩,
  ⟨some 30, .mkmap, none⟩,
  ⟨some 31, .build [.nilp, .nilmap] [(0, 1, (.t 29)), (1, 1, (.t 30))], none⟩,
  ⟨some 32, .box 2 (.t 31), none⟩,
  ⟨some 6, .mv (.t 32), none⟩]
@[simp] def f147r4 : List ROper := [
  ⟨some 33, .mv (.t 0), none⟩,
  ⟨some 34, .len .slice (.t 33), none⟩,
  ⟨some 35, .mv (.c (.int .i64 (.ofNat 0))), none⟩]
@[simp] def f147r5 : List ROper := [
  ⟨some 36, .bin .lss (.t 35) (.t 34), none⟩]
@[simp] def f147r6 : List ROper := [
  ⟨some 37, .iaddr 1 (.t 33) (.t 35), none⟩,
  ⟨some 38, .load 1 false (.t 37), none⟩,
  ⟨some 8, .mv (.t 38), none⟩]
@[simp] def f147r7 : List ROper := [
  ⟨some 40, .mv (.t 8), none⟩,
  ⟨some 41, .call 156 [(.t 40)], none⟩,
  ⟨some 39, .mv (.t 41), none⟩,
  ⟨some 42, .extract (.t 39) 0, none⟩,
  ⟨some 43, .extract (.t 39) 1, none⟩,
  ⟨some 44, .extract (.t 39) 2, none⟩,
  ⟨some 9, .mv (.t 42), none⟩,
  ⟨some 10, .mv (.t 43), none⟩,
  ⟨some 11, .mv (.t 44), none⟩]
@[simp] def f147r8 : List ROper := [
  ⟨some 45, .mv (.t 11), none⟩,
  ⟨some 46, .un .not (.t 45), none⟩]
@[simp] def f147r9 : List ROper := [
  ⟨some 4, .mv (.c .nilp), none⟩,
  ⟨some 5, .mv (.c (.int .i64 (.ofNat 4))), none⟩]
@[simp] def f147r10 : List ROper := [
  ⟨some 47, .mv (.t 6), none⟩,
  ⟨some 48, .nilchk (.t 47), none⟩,
  ⟨some 49, .faddr 0 (.t 48), none⟩,
  ⟨some 50, .load 1 false (.t 49), none⟩,
  ⟨some 51, .mv (.t 9), none⟩,
  ⟨some 52, .mv (.t 10), none⟩,
  ⟨some 53, .call 157 [(.t 50), (.t 51), (.t 52)], none⟩]
@[simp] def f147r11 : List ROper := [
  ⟨some 54, .bin .add (.t 35) (.c (.int .i64 (.ofNat 1))), none⟩,
  ⟨some 35, .mv (.t 54), none⟩]
def f147B0 : RC := (.seq (.region f147r5 [1, 6, 33, 34, 35, 36]) (.seq (.cond (.t 36) .skip (.exit 0)) (.seq (.block 1 (.seq (.region f147r6 [1, 6, 8, 33, 34, 35]) (.seq (.region f147r7 [1, 6, 9, 10, 11, 33, 34, 35]) (.seq (.seq (.region f147r8 [1, 6, 9, 10, 33, 34, 35, 46]) (.cond (.t 46) (.seq (.region f147r9 [4, 5]) .ret) .skip)) (.region f147r10 [1, 6, 33, 34, 35]))))) (.region f147r11 [1, 6, 33, 34, 35]))))
def f147L0 : RC := .loop [1, 6, 33, 34, 35] f147B0
@[simp] def f147r12 : List ROper := [
  ⟨some 12, .mv (.c (.bool false)), none⟩]
@[simp] def f147r13 : List ROper := [
  ⟨some 55, .mv (.t 1), none⟩,
  ⟨some 56, .len .slice (.t 55), none⟩,
  ⟨some 57, .mv (.c (.int .i64 (.ofNat 0))), none⟩]
@[simp] def f147r14 : List ROper := [
  ⟨some 58, .bin .lss (.t 57) (.t 56), none⟩]
@[simp] def f147r15 : List ROper := [
  ⟨some 59, .iaddr 1 (.t 55) (.t 57), none⟩,
  ⟨some 60, .load 1 false (.t 59), none⟩,
  ⟨some 14, .mv (.t 60), none⟩]
@[simp] def f147r16 : List ROper := [
  ⟨some 62, .mv (.t 14), none⟩,
  ⟨some 63, .call 158 [(.t 62)], none⟩,
  ⟨some 61, .mv (.t 63), none⟩,
  ⟨some 64, .extract (.t 61) 0, none⟩,
  ⟨some 65, .extract (.t 61) 1, none⟩,
  ⟨some 66, .extract (.t 61) 2, none⟩,
  ⟨some 15, .mv (.t 64), none⟩,
  ⟨some 16, .mv (.t 65), none⟩,
  ⟨some 17, .mv (.t 66), none⟩]
@[simp] def f147r17 : List ROper := [
  ⟨some 67, .mv (.t 17), none⟩,
  ⟨some 68, .un .not (.t 67), none⟩]
@[simp] def f147r18 : List ROper := [
  ⟨some 4, .mv (.c .nilp), none⟩,
  ⟨some 5, .mv (.c (.int .i64 (.ofNat 4))), none⟩]
@[simp] def f147r19 : List ROper := [
  ⟨some 70, .mv (.t 6), none⟩,
  ⟨some 71, .nilchk (.t 70), none⟩,
  ⟨some 72, .faddr 1 (.t 71), none⟩,
  ⟨some 73, .load 1 false (.t 72), none⟩,
  ⟨some 74, .mv (.t 15), none⟩,
  ⟨some 75, .lookup [.str] (.list 0 0 .no false []) (.t 73) (.t 74) true, none⟩,
  ⟨some 69, .mv (.t 75), none⟩,
  ⟨some 76, .extract (.t 69) 0, none⟩,
  ⟨some 77, .extract (.t 69) 1, none⟩,
  ⟨some 18, .mv (.t 76), none⟩,
  ⟨some 19, .mv (.t 77), none⟩]
@[simp] def f147r20 : List ROper := [
  ⟨some 78, .mv (.t 12), none⟩,
  ⟨some 79, .mv (.t 78), none⟩,
  ⟨some 80, .mv (.t 19), some (79, false)⟩,
  ⟨some 81, .pick (.t 79) (.c (.bool true)) (.t 80), none⟩,
  ⟨some 12, .mv (.t 81), none⟩]
@[simp] def f147r21 : List ROper := [
  ⟨some 82, .mv (.t 6), none⟩,
  ⟨some 83, .nilchk (.t 82), none⟩,
  ⟨some 84, .faddr 1 (.t 83), none⟩,
  ⟨some 85, .load 1 false (.t 84), none⟩,
  ⟨some 86, .mv (.t 15), none⟩,
  ⟨some 87, .mv (.t 16), none⟩,
  ⟨none, .mapset [.str] (.t 85) (.t 86) (.t 87), none⟩]
@[simp] def f147r22 : List ROper := [
  ⟨some 88, .bin .add (.t 57) (.c (.int .i64 (.ofNat 1))), none⟩,
  ⟨some 57, .mv (.t 88), none⟩]
def f147B1 : RC := (.seq (.region f147r14 [6, 12, 55, 56, 57, 58]) (.seq (.cond (.t 58) .skip (.exit 2)) (.seq (.block 3 (.seq (.region f147r15 [6, 12, 14, 55, 56, 57]) (.seq (.region f147r16 [6, 12, 15, 16, 17, 55, 56, 57]) (.seq (.seq (.region f147r17 [6, 12, 15, 16, 55, 56, 57, 68]) (.cond (.t 68) (.seq (.region f147r18 [4, 5]) .ret) .skip)) (.seq (.region f147r19 [6, 12, 15, 16, 19, 55, 56, 57]) (.seq (.region f147r20 [6, 12, 15, 16, 55, 56, 57]) (.region f147r21 [6, 12, 55, 56, 57]))))))) (.region f147r22 [6, 12, 55, 56, 57]))))
def f147L1 : RC := .loop [6, 12, 55, 56, 57] f147B1
@[simp] def f147r23 : List ROper := [
  ⟨some 89, .mv (.t 12), none⟩]
@[simp] def f147r24 : List ROper := [
  ⟨some 4, .mv (.c .nilp), none⟩,
  ⟨some 5, .mv (.c (.int .i64 (.ofNat 7))), none⟩]
@[simp] def f147r25 : List ROper := [
  ⟨some 90, .mv (.t 6), none⟩,
  ⟨some 4, .mv (.t 90), none⟩,
  ⟨some 5, .mv (.c (.int .i64 (.ofNat 0))), none⟩]
def f147 : RFunc := ⟨[.t 4, .t 5], (.seq (.region f147r0 [0, 1]) (.seq (.seq (.region f147r1 [0, 1, 27]) (.cond (.t 27) (.seq (.region f147r2 [4, 5]) .ret) .skip)) (.seq (.region f147r3 [0, 1, 6]) (.seq (.seq (.region f147r4 [1, 6, 33, 34, 35]) (.block 0 f147L0)) (.seq (.region f147r12 [1, 6, 12]) (.seq (.seq (.region f147r13 [6, 12, 55, 56, 57]) (.block 2 f147L1)) (.seq (.seq (.region f147r23 [6, 89]) (.cond (.t 89) (.seq (.region f147r24 [4, 5]) .ret) .skip)) (.seq (.region f147r25 [4, 5]) .ret)))))))), false⟩

/-! strings.Fields -/
@[simp] def f148r0 : List ROper := [
  ⟨some 2, .mv (.c (.list 0 0 .no false [])), none⟩]
@[simp] def f148r1 : List ROper := [
  ⟨some 3, .mv (.c (.int .i64 (.ofNat 0))), none⟩]
@[simp] def f148r2 : List ROper := [
  ⟨some 4, .mv (.c (.int .i64 (.ofNat 1))), none⟩]
@[simp] def f148r3 : List ROper := [
  ⟨some 5, .mv (.c (.int .u8 (.ofNat 0))), none⟩]
@[simp] def f148r4 : List ROper := [
  ⟨some 6, .mv (.c (.int .i64 (.ofNat 0))), none⟩]
@[simp] def f148r5 : List ROper := [
  ⟨some 13, .mv (.t 6), none⟩,
  ⟨some 14, .mv (.t 0), none⟩,
  ⟨some 15, .len .str (.t 14), none⟩,
  ⟨some 16, .bin .lss (.t 13) (.t 15), none⟩]
@[simp] def f148r6 : List ROper := [
  ⟨some 19, .mv (.t 0), none⟩,
  ⟨some 20, .mv (.t 6), none⟩,
  ⟨some 21, .index (.t 19) (.t 20), none⟩,
  ⟨some 7, .mv (.t 21), none⟩]
@[simp] def f148r7 : List ROper := [
  ⟨some 22, .mv (.t 5), none⟩,
  ⟨some 23, .mv (.t 7), none⟩,
  ⟨some 24, .bin .or (.t 22) (.t 23), none⟩,
  ⟨some 5, .mv (.t 24), none⟩]
@[simp] def f148r8 : List ROper := [
  ⟨some 25, .mv (.t 7), none⟩,
  ⟨some 26, .iaddrA 1 256 (.c asciiSpaceD) (.t 25), none⟩,
  ⟨some 27, .load 1 false (.t 26), none⟩,
  ⟨some 28, .i2i .i64 (.t 27), none⟩,
  ⟨some 8, .mv (.t 28), none⟩]
@[simp] def f148r9 : List ROper := [
  ⟨some 29, .mv (.t 3), none⟩,
  ⟨some 30, .mv (.t 4), none⟩,
  ⟨some 31, .mv (.t 8), none⟩,
  ⟨some 32, .un .xor (.t 31), none⟩,
  ⟨some 33, .bin .and (.t 30) (.t 32), none⟩,
  ⟨some 34, .bin .add (.t 29) (.t 33), none⟩,
  ⟨some 3, .mv (.t 34), none⟩]
@[simp] def f148r10 : List ROper := [
  ⟨some 35, .mv (.t 8), none⟩,
  ⟨some 4, .mv (.t 35), none⟩]
@[simp] def f148r11 : List ROper := [
  ⟨some 17, .mv (.t 6), none⟩,
  ⟨some 18, .bin .add (.t 17) (.c (.int .i64 (.ofNat 1))), none⟩,
  ⟨some 6, .mv (.t 18), none⟩]
def f148B0 : RC := (.seq (.seq (.region f148r5 [0, 3, 4, 5, 6, 16]) (.cond (.t 16) .skip (.exit 0))) (.seq (.block 1 (.seq (.region f148r6 [0, 3, 4, 5, 6, 7]) (.seq (.region f148r7 [0, 3, 4, 5, 6, 7]) (.seq (.region f148r8 [0, 3, 4, 5, 6, 8]) (.seq (.region f148r9 [0, 3, 5, 6, 8]) (.region f148r10 [0, 3, 4, 5, 6])))))) (.region f148r11 [0, 3, 4, 5, 6])))
def f148L0 : RC := .loop [0, 3, 4, 5, 6] f148B0
@[simp] def f148r12 : List ROper := [
  ⟨some 36, .mv (.t 5), none⟩,
  ⟨some 37, .bin .geq (.t 36) (.c (.int .u8 (.ofNat 128))), none⟩]
@[simp] def f148r13 : List ROper := [
  ⟨some 38, .mv (.t 0), none⟩,
  ⟨some 39, .call 159 [(.t 38), (.f 160)], none⟩,
  ⟨some 2, .mv (.t 39), none⟩]
@[simp] def f148r14 : List ROper := [
  ⟨some 40, .mv (.t 3), none⟩,
  ⟨some 41, .mkslice 1 false 16 [(.str [])] (.t 40) (.t 40), none⟩,
  ⟨some 9, .mv (.t 41), none⟩]
@[simp] def f148r15 : List ROper := [
  ⟨some 10, .mv (.c (.int .i64 (.ofNat 0))), none⟩]
@[simp] def f148r16 : List ROper := [
  ⟨some 11, .mv (.c (.int .i64 (.ofNat 0))), none⟩]
@[simp] def f148r17 : List ROper := [
  ⟨some 12, .mv (.c (.int .i64 (.ofNat 0))), none⟩]
@[simp] def f148r18 : List ROper := [
  ⟨some 42, .mv (.t 12), none⟩,
  ⟨some 43, .mv (.t 0), none⟩,
  ⟨some 44, .len .str (.t 43), none⟩,
  ⟨some 45, .bin .lss (.t 42) (.t 44), none⟩,
  ⟨some 46, .mv (.t 45), none⟩,
  ⟨some 47, .mv (.t 0), some (46, true)⟩,
  ⟨some 48, .mv (.t 12), some (46, true)⟩,
  ⟨some 49, .index (.t 47) (.t 48), some (46, true)⟩,
  ⟨some 50, .iaddrA 1 256 (.c asciiSpaceD) (.t 49), some (46, true)⟩,
  ⟨some 51, .load 1 false (.t 50), some (46, true)⟩,
  ⟨some 52, .bin .neq (.t 51) (.c (.int .u8 (.ofNat 0))), some (46, true)⟩,
  ⟨some 53, .pick (.t 46) (.t 52) (.c (.bool false)), none⟩]
@[simp] def f148r19 : List ROper := [
  ⟨some 54, .mv (.t 12), none⟩,
  ⟨some 55, .bin .add (.t 54) (.c (.int .i64 (.ofNat 1))), none⟩,
  ⟨some 12, .mv (.t 55), none⟩]
def f148B1 : RC := (.seq (.seq (.region f148r18 [0, 9, 10, 12, 53]) (.cond (.t 53) .skip (.exit 2))) (.block 3 (.region f148r19 [0, 9, 10, 12])))
def f148L1 : RC := .loop [0, 9, 10, 12] f148B1
@[simp] def f148r20 : List ROper := [
  ⟨some 56, .mv (.t 12), none⟩,
  ⟨some 11, .mv (.t 56), none⟩]
@[simp] def f148r21 : List ROper := [
  ⟨some 57, .mv (.t 12), none⟩,
  ⟨some 58, .mv (.t 0), none⟩,
  ⟨some 59, .len .str (.t 58), none⟩,
  ⟨some 60, .bin .lss (.t 57) (.t 59), none⟩]
@[simp] def f148r22 : List ROper := [
  ⟨some 61, .mv (.t 0), none⟩,
  ⟨some 62, .mv (.t 12), none⟩,
  ⟨some 63, .index (.t 61) (.t 62), none⟩,
  ⟨some 64, .iaddrA 1 256 (.c asciiSpaceD) (.t 63), none⟩,
  ⟨some 65, .load 1 false (.t 64), none⟩,
  ⟨some 66, .bin .eql (.t 65) (.c (.int .u8 (.ofNat 0))), none⟩]
@[simp] def f148r23 : List ROper := [
  ⟨some 67, .mv (.t 12), none⟩,
  ⟨some 68, .bin .add (.t 67) (.c (.int .i64 (.ofNat 1))), none⟩,
  ⟨some 12, .mv (.t 68), none⟩]
@[simp] def f148r24 : List ROper := [
  ⟨some 69, .mv (.t 9), none⟩,
  ⟨some 70, .mv (.t 10), none⟩,
  ⟨some 71, .mv (.t 0), none⟩,
  ⟨some 72, .mv (.t 11), none⟩,
  ⟨some 73, .mv (.t 12), none⟩,
  ⟨some 74, .slice true 1 (.t 71) (some (.t 72)) (some (.t 73)) none, none⟩,
  ⟨some 75, .iaddr 1 (.t 69) (.t 70), none⟩,
  ⟨none, .store 1 (.t 75) (.t 74), none⟩]
@[simp] def f148r25 : List ROper := [
  ⟨some 76, .mv (.t 10), none⟩,
  ⟨some 77, .bin .add (.t 76) (.c (.int .i64 (.ofNat 1))), none⟩,
  ⟨some 10, .mv (.t 77), none⟩]
@[simp] def f148r26 : List ROper := [
  ⟨some 78, .mv (.t 12), none⟩,
  ⟨some 79, .bin .add (.t 78) (.c (.int .i64 (.ofNat 1))), none⟩,
  ⟨some 12, .mv (.t 79), none⟩]
@[simp] def f148r27 : List ROper := [
  ⟨some 80, .mv (.t 12), none⟩,
  ⟨some 81, .mv (.t 0), none⟩,
  ⟨some 82, .len .str (.t 81), none⟩,
  ⟨some 83, .bin .lss (.t 80) (.t 82), none⟩,
  ⟨some 84, .mv (.t 83), none⟩,
  ⟨some 85, .mv (.t 0), some (84, true)⟩,
  ⟨some 86, .mv (.t 12), some (84, true)⟩,
  ⟨some 87, .index (.t 85) (.t 86), some (84, true)⟩,
  ⟨some 88, .iaddrA 1 256 (.c asciiSpaceD) (.t 87), some (84, true)⟩,
  ⟨some 89, .load 1 false (.t 88), some (84, true)⟩,
  ⟨some 90, .bin .neq (.t 89) (.c (.int .u8 (.ofNat 0))), some (84, true)⟩,
  ⟨some 91, .pick (.t 84) (.t 90) (.c (.bool false)), none⟩]
@[simp] def f148r28 : List ROper := [
  ⟨some 92, .mv (.t 12), none⟩,
  ⟨some 93, .bin .add (.t 92) (.c (.int .i64 (.ofNat 1))), none⟩,
  ⟨some 12, .mv (.t 93), none⟩]
def f148B2 : RC := (.seq (.seq (.region f148r27 [0, 9, 10, 12, 91]) (.cond (.t 91) .skip (.exit 6))) (.block 7 (.region f148r28 [0, 9, 10, 12])))
def f148L2 : RC := .loop [0, 9, 10, 12] f148B2
@[simp] def f148r29 : List ROper := [
  ⟨some 94, .mv (.t 12), none⟩,
  ⟨some 11, .mv (.t 94), none⟩]
def f148B3 : RC := (.seq (.seq (.region f148r21 [0, 9, 10, 11, 12, 60]) (.cond (.t 60) .skip (.exit 4))) (.block 5 (.seq (.seq (.region f148r22 [0, 9, 10, 11, 12, 66]) (.cond (.t 66) (.seq (.region f148r23 [0, 9, 10, 11, 12]) (.exit 5)) .skip)) (.seq (.region f148r24 [0, 9, 10, 12]) (.seq (.region f148r25 [0, 9, 10, 12]) (.seq (.region f148r26 [0, 9, 10, 12]) (.seq (.block 6 f148L2) (.region f148r29 [0, 9, 10, 11, 12]))))))))
def f148L3 : RC := .loop [0, 9, 10, 11, 12] f148B3
@[simp] def f148r30 : List ROper := [
  ⟨some 95, .mv (.t 11), none⟩,
  ⟨some 96, .mv (.t 0), none⟩,
  ⟨some 97, .len .str (.t 96), none⟩,
  ⟨some 98, .bin .lss (.t 95) (.t 97), none⟩]
@[simp] def f148r31 : List ROper := [
  ⟨some 99, .mv (.t 9), none⟩,
  ⟨some 100, .mv (.t 10), none⟩,
  ⟨some 101, .mv (.t 0), none⟩,
  ⟨some 102, .mv (.t 11), none⟩,
  ⟨some 103, .slice true 1 (.t 101) (some (.t 102)) none none, none⟩,
  ⟨some 104, .iaddr 1 (.t 99) (.t 100), none⟩,
  ⟨none, .store 1 (.t 104) (.t 103), none⟩]
@[simp] def f148r32 : List ROper := [
  ⟨some 105, .mv (.t 9), none⟩,
  ⟨some 2, .mv (.t 105), none⟩]
def f148 : RFunc := ⟨[.t 2], (.seq (.region f148r0 [0]) (.seq (.region f148r1 [0, 3]) (.seq (.region f148r2 [0, 3, 4]) (.seq (.region f148r3 [0, 3, 4, 5]) (.seq (.seq (.region f148r4 [0, 3, 4, 5, 6]) (.block 0 f148L0)) (.seq (.seq (.region f148r12 [0, 3, 37]) (.cond (.t 37) (.seq (.region f148r13 [2]) .ret) .skip)) (.seq (.region f148r14 [0, 9]) (.seq (.region f148r15 [0, 9, 10]) (.seq (.region f148r16 [0, 9, 10]) (.seq (.region f148r17 [0, 9, 10, 12]) (.seq (.block 2 f148L1) (.seq (.region f148r20 [0, 9, 10, 11, 12]) (.seq (.block 4 f148L3) (.seq (.seq (.region f148r30 [0, 9, 10, 11, 98]) (.cond (.t 98) (.region f148r31 [9]) .skip)) (.seq (.region f148r32 [2]) .ret))))))))))))))), true⟩

/-! quire/hyph.word -/
@[simp] def f149r0 : List ROper := [
  ⟨some 2, .mv (.c (.str [])), none⟩,
  ⟨some 3, .mv (.c (.bool false)), none⟩]
@[simp] def f149r1 : List ROper := [
  ⟨some 7, .mv (.t 0), none⟩,
  ⟨some 8, .len .str (.t 7), none⟩,
  ⟨some 9, .bin .lss (.t 8) (.c (.int .i64 (.ofNat 1))), none⟩,
  ⟨some 10, .mv (.t 9), none⟩,
  ⟨some 11, .mv (.t 0), some (10, false)⟩,
  ⟨some 12, .len .str (.t 11), some (10, false)⟩,
  ⟨some 13, .bin .gtr (.t 12) (.c (.int .i64 (.ofNat 64))), some (10, false)⟩,
  ⟨some 14, .pick (.t 10) (.c (.bool true)) (.t 13), none⟩]
@[simp] def f149r2 : List ROper := [
  ⟨some 2, .mv (.c (.str [])), none⟩,
  ⟨some 3, .mv (.c (.bool false)), none⟩]
@[simp] def f149r3 : List ROper := [
  ⟨some 15, .mv (.t 0), none⟩,
  ⟨some 16, .s2h (.t 15), none⟩,
  ⟨some 4, .mv (.t 16), none⟩]
@[simp] def f149r4 : List ROper := [
  ⟨some 17, .mv (.t 4), none⟩,
  ⟨some 18, .len .slice (.t 17), none⟩,
  ⟨some 19, .mv (.c (.int .i64 (.ofNat 0))), none⟩]
@[simp] def f149r5 : List ROper := [
  ⟨some 20, .bin .lss (.t 19) (.t 18), none⟩]
@[simp] def f149r6 : List ROper := [
  ⟨some 21, .mv (.t 19), none⟩,
  ⟨some 22, .iaddr 1 (.t 17) (.t 19), none⟩,
  ⟨some 23, .load 1 false (.t 22), none⟩,
  ⟨some 5, .mv (.t 21), none⟩,
  ⟨some 6, .mv (.t 23), none⟩]
@[simp] def f149r7 : List ROper := [
  ⟨some 24, .mv (.t 6), none⟩,
  ⟨some 25, .bin .geq (.t 24) (.c (.int .u8 (.ofNat 65))), none⟩,
  ⟨some 26, .mv (.t 25), none⟩,
  ⟨some 27, .mv (.t 6), some (26, true)⟩,
  ⟨some 28, .bin .leq (.t 27) (.c (.int .u8 (.ofNat 90))), some (26, true)⟩,
  ⟨some 29, .pick (.t 26) (.t 28) (.c (.bool false)), none⟩]
@[simp] def f149r8 : List ROper := [
  ⟨some 30, .mv (.t 4), none⟩,
  ⟨some 31, .mv (.t 5), none⟩,
  ⟨some 32, .mv (.t 6), none⟩,
  ⟨some 33, .bin .add (.t 32) (.c (.int .u8 (.ofNat 97))), none⟩,
  ⟨some 34, .bin .sub (.t 33) (.c (.int .u8 (.ofNat 65))), none⟩,
  ⟨some 35, .iaddr 1 (.t 30) (.t 31), none⟩,
  ⟨none, .store 1 (.t 35) (.t 34), none⟩]
@[simp] def f149r9 : List ROper := [
  ⟨some 36, .mv (.t 4), none⟩,
  ⟨some 37, .mv (.t 5), none⟩,
  ⟨some 38, .iaddr 1 (.t 36) (.t 37), none⟩,
  ⟨some 39, .load 1 false (.t 38), none⟩,
  ⟨some 40, .call 161 [(.t 39)], none⟩,
  ⟨some 41, .un .not (.t 40), none⟩]
@[simp] def f149r10 : List ROper := [
  ⟨some 2, .mv (.c (.str [])), none⟩,
  ⟨some 3, .mv (.c (.bool false)), none⟩]
@[simp] def f149r11 : List ROper := [
  ⟨some 42, .bin .add (.t 19) (.c (.int .i64 (.ofNat 1))), none⟩,
  ⟨some 19, .mv (.t 42), none⟩]
def f149B0 : RC := (.seq (.region f149r5 [4, 17, 18, 19, 20]) (.seq (.cond (.t 20) .skip (.exit 0)) (.seq (.block 1 (.seq (.region f149r6 [4, 5, 6, 17, 18, 19]) (.seq (.seq (.region f149r7 [4, 5, 6, 17, 18, 19, 29]) (.cond (.t 29) (.region f149r8 [4, 5, 17, 18, 19]) .skip)) (.seq (.region f149r9 [4, 17, 18, 19, 41]) (.cond (.t 41) (.seq (.region f149r10 [2, 3]) .ret) .skip))))) (.region f149r11 [4, 17, 18, 19]))))
def f149L0 : RC := .loop [4, 17, 18, 19] f149B0
@[simp] def f149r12 : List ROper := [
  ⟨some 43, .mv (.t 4), none⟩,
  ⟨some 44, .b2s (.t 43), none⟩,
  ⟨some 2, .mv (.t 44), none⟩,
  ⟨some 3, .mv (.c (.bool true)), none⟩]
def f149 : RFunc := ⟨[.t 2, .t 3], (.seq (.region f149r0 [0]) (.seq (.seq (.region f149r1 [0, 14]) (.cond (.t 14) (.seq (.region f149r2 [2, 3]) .ret) .skip)) (.seq (.region f149r3 [4]) (.seq (.seq (.region f149r4 [4, 17, 18, 19]) (.block 0 f149L0)) (.seq (.region f149r12 [2, 3]) .ret))))), true⟩

/-! slices.Clone[[]int,int] -/
@[simp] def f150r0 : List ROper := [
  ⟨some 2, .mv (.c (.list 0 0 .no false [])), none⟩]
@[simp] def f150r1 : List ROper := [
  ⟨some 3, .mv (.t 0), none⟩,
  ⟨some 4, .eq .slice false (.t 3) (.c (.list 0 0 .no false [])), none⟩]
@[simp] def f150r2 : List ROper := [
  ⟨some 2, .mv (.c (.list 0 0 .no false [])), none⟩]
@[simp] def f150r3 : List ROper := [
  ⟨some 5, .lit 1 false [(.int .i64 (.ofNat 0))] 0 [], none⟩,
  ⟨some 6, .mv (.t 0), none⟩,
  ⟨some 7, .append 1 false 8 (.t 5) (.t 6), none⟩,
  ⟨some 2, .mv (.t 7), none⟩]
def f150 : RFunc := ⟨[.t 2], (.seq (.region f150r0 [0]) (.seq (.seq (.region f150r1 [0, 4]) (.cond (.t 4) (.seq (.region f150r2 [2]) .ret) .skip)) (.seq (.region f150r3 [2]) .ret))), true⟩

/-! (*quire/hyph.Hyph).found -/
@[simp] def f151r0 : List ROper := [
  ⟨some 10, .mv (.t 1), none⟩,
  ⟨some 11, .len .str (.t 10), none⟩,
  ⟨some 12, .mv (.c (.int .i64 (.ofNat 0))), none⟩]
@[simp] def f151r1 : List ROper := [
  ⟨some 13, .bin .lss (.t 12) (.t 11), none⟩]
@[simp] def f151r2 : List ROper := [
  ⟨some 14, .mv (.t 12), none⟩,
  ⟨some 6, .mv (.t 14), none⟩]
@[simp] def f151r3 : List ROper := [
  ⟨some 15, .mv (.t 0), none⟩,
  ⟨some 16, .nilchk (.t 15), none⟩,
  ⟨some 17, .faddr 0 (.t 16), none⟩,
  ⟨some 18, .load 1 false (.t 17), none⟩,
  ⟨some 7, .mv (.t 18), none⟩]
@[simp] def f151r4 : List ROper := [
  ⟨some 19, .mv (.t 1), none⟩,
  ⟨some 20, .mv (.t 6), none⟩,
  ⟨some 21, .slice true 1 (.t 19) (some (.t 20)) none none, none⟩,
  ⟨some 22, .s2b (.t 21), none⟩,
  ⟨some 23, .len .slice (.t 22), none⟩,
  ⟨some 24, .mv (.c (.int .i64 (.ofNat 0))), none⟩]
@[simp] def f151r5 : List ROper := [
  ⟨some 25, .bin .lss (.t 24) (.t 23), none⟩]
@[simp] def f151r6 : List ROper := [
  ⟨some 26, .iaddr 1 (.t 22) (.t 24), none⟩,
  ⟨some 27, .load 1 false (.t 26), none⟩,
  ⟨some 9, .mv (.t 27), none⟩]
@[simp] def f151r7 : List ROper := [
  ⟨some 28, .mv (.t 7), none⟩,
  ⟨some 29, .nilchk (.t 28), none⟩,
  ⟨some 30, .faddr 0 (.t 29), none⟩,
  ⟨some 31, .load 1 false (.t 30), none⟩,
  ⟨some 32, .mv (.t 9), none⟩,
  ⟨some 33, .lookup [.int] .nilp (.t 31) (.t 32) false, none⟩,
  ⟨some 7, .mv (.t 33), none⟩]
@[simp] def f151r8 : List ROper := [
  ⟨some 34, .mv (.t 7), none⟩,
  ⟨some 35, .eq .ptr false (.t 34) (.c .nilp), none⟩]
@[simp] def f151r9 : List ROper := [
  ⟨some 36, .mv (.t 7), none⟩,
  ⟨some 37, .nilchk (.t 36), none⟩,
  ⟨some 38, .faddr 1 (.t 37), none⟩,
  ⟨some 39, .load 1 false (.t 38), none⟩,
  ⟨some 40, .eq .slice true (.t 39) (.c (.list 0 0 .no false [])), none⟩]
@[simp] def f151r10 : List ROper := [
  ⟨some 41, .mv (.t 2), none⟩,
  ⟨some 42, .mv (.t 6), none⟩,
  ⟨some 43, .mv (.t 7), none⟩,
  ⟨some 44, .nilchk (.t 43), none⟩,
  ⟨some 45, .faddr 1 (.t 44), none⟩,
  ⟨some 46, .load 1 false (.t 45), none⟩,
  ⟨some 47, .callv (.t 41) [(.t 42), (.t 46)], none⟩]
@[simp] def f151r11 : List ROper := [
  ⟨some 48, .bin .add (.t 24) (.c (.int .i64 (.ofNat 1))), none⟩,
  ⟨some 24, .mv (.t 48), none⟩]
def f151B0 : RC := (.seq (.region f151r5 [0, 1, 2, 6, 7, 11, 12, 22, 23, 24, 25]) (.seq (.cond (.t 25) .skip (.exit 2)) (.seq (.block 3 (.seq (.region f151r6 [0, 1, 2, 6, 7, 9, 11, 12, 22, 23, 24]) (.seq (.region f151r7 [0, 1, 2, 6, 7, 11, 12, 22, 23, 24]) (.seq (.seq (.region f151r8 [0, 1, 2, 6, 7, 11, 12, 22, 23, 24, 35]) (.cond (.t 35) (.exit 2) .skip)) (.seq (.region f151r9 [0, 1, 2, 6, 7, 11, 12, 22, 23, 24, 40]) (.cond (.t 40) (.region f151r10 [0, 1, 2, 6, 7, 11, 12, 22, 23, 24]) .skip)))))) (.region f151r11 [0, 1, 2, 6, 7, 11, 12, 22, 23, 24]))))
def f151L0 : RC := .loop [0, 1, 2, 6, 7, 11, 12, 22, 23, 24] f151B0
@[simp] def f151r12 : List ROper := [
  ⟨some 49, .bin .add (.t 12) (.c (.int .i64 (.ofNat 1))), none⟩,
  ⟨some 12, .mv (.t 49), none⟩]
def f151B1 : RC := (.seq (.region f151r1 [0, 1, 2, 11, 12, 13]) (.seq (.cond (.t 13) .skip (.exit 0)) (.seq (.block 1 (.seq (.region f151r2 [0, 1, 2, 6, 11, 12]) (.seq (.region f151r3 [0, 1, 2, 6, 7, 11, 12]) (.seq (.region f151r4 [0, 1, 2, 6, 7, 11, 12, 22, 23, 24]) (.block 2 f151L0))))) (.region f151r12 [0, 1, 2, 11, 12]))))
def f151L1 : RC := .loop [0, 1, 2, 11, 12] f151B1
def f151 : RFunc := ⟨[], (.seq (.region f151r0 [0, 1, 2, 11, 12]) (.block 0 f151L1)), false⟩

/-! (quire/hyph.values).lay -/
@[simp] def f152r0 : List ROper := [
  ⟨some 8, .mv (.t 2), none⟩,
  ⟨some 9, .len .slice (.t 8), none⟩,
  ⟨some 10, .mv (.c (.int .i64 (.ofNat 0))), none⟩]
@[simp] def f152r1 : List ROper := [
  ⟨some 11, .bin .lss (.t 10) (.t 9), none⟩]
@[simp] def f152r2 : List ROper := [
  ⟨some 12, .mv (.t 10), none⟩,
  ⟨some 13, .iaddr 1 (.t 8) (.t 10), none⟩,
  ⟨some 14, .load 1 false (.t 13), none⟩,
  ⟨some 6, .mv (.t 12), none⟩,
  ⟨some 7, .mv (.t 14), none⟩]
@[simp] def f152r3 : List ROper := [
  ⟨some 15, .mv (.t 0), none⟩,
  ⟨some 16, .mv (.t 1), none⟩,
  ⟨some 17, .mv (.t 6), none⟩,
  ⟨some 18, .bin .add (.t 16) (.t 17), none⟩,
  ⟨some 19, .mv (.t 0), none⟩,
  ⟨some 20, .mv (.t 1), none⟩,
  ⟨some 21, .mv (.t 6), none⟩,
  ⟨some 22, .bin .add (.t 20) (.t 21), none⟩,
  ⟨some 23, .iaddr 1 (.t 19) (.t 22), none⟩,
  ⟨some 24, .load 1 false (.t 23), none⟩,
  ⟨some 25, .mv (.t 7), none⟩,
  ⟨some 26, .max [(.t 24), (.t 25)], none⟩,
  ⟨some 27, .iaddr 1 (.t 15) (.t 18), none⟩,
  ⟨none, .store 1 (.t 27) (.t 26), none⟩]
@[simp] def f152r4 : List ROper := [
  ⟨some 28, .bin .add (.t 10) (.c (.int .i64 (.ofNat 1))), none⟩,
  ⟨some 10, .mv (.t 28), none⟩]
def f152B0 : RC := (.seq (.region f152r1 [0, 1, 8, 9, 10, 11]) (.seq (.cond (.t 11) .skip (.exit 0)) (.seq (.block 1 (.seq (.region f152r2 [0, 1, 6, 7, 8, 9, 10]) (.region f152r3 [0, 1, 8, 9, 10]))) (.region f152r4 [0, 1, 8, 9, 10]))))
def f152L0 : RC := .loop [0, 1, 8, 9, 10] f152B0
def f152 : RFunc := ⟨[], (.seq (.region f152r0 [0, 1, 8, 9, 10]) (.block 0 f152L0)), false⟩

/-! quire/hyph.pattern -/
@[simp] def f156r0 : List ROper := [
  ⟨some 2, .mv (.c (.str [])), none⟩,
  ⟨some 3, .mv (.c (.list 0 0 .no false [])), none⟩,
  ⟨some 4, .mv (.c (.bool false)), none⟩]
@[simp] def f156r1 : List ROper := [
  ⟨some 11, .mv (.t 0), none⟩,
  ⟨some 12, .len .str (.t 11), none⟩,
  ⟨some 13, .bin .lss (.t 12) (.c (.int .i64 (.ofNat 1))), none⟩,
  ⟨some 14, .mv (.t 13), none⟩,
  ⟨some 15, .mv (.t 0), some (14, false)⟩,
  ⟨some 16, .len .str (.t 15), some (14, false)⟩,
  ⟨some 17, .bin .gtr (.t 16) (.c (.int .i64 (.ofNat 16))), some (14, false)⟩,
  ⟨some 18, .pick (.t 14) (.c (.bool true)) (.t 17), none⟩]
@[simp] def f156r2 : List ROper := [
  ⟨some 2, .mv (.c (.str [])), none⟩,
  ⟨some 3, .mv (.c (.list 0 0 .no false [])), none⟩,
  ⟨some 4, .mv (.c (.bool false)), none⟩]
@[simp] def f156r3 : List ROper := [
  ⟨some 5, .mv (.c (.list 0 0 .no false [])), none⟩]
@[simp] def f156r4 : List ROper := [
  ⟨some 19, .hlit 1 false [(.int .u8 (.ofNat 0))] 1 [(0, (.c (.int .u8 (.ofNat 0))))], none⟩,
  ⟨some 6, .mv (.t 19), none⟩]
@[simp] def f156r5 : List ROper := [
  ⟨some 7, .mv (.c (.bool false)), none⟩,
  ⟨some 8, .mv (.c (.bool true)), none⟩]
@[simp] def f156r6 : List ROper := [
  ⟨some 20, .mv (.t 0), none⟩,
  ⟨some 21, .s2h (.t 20), none⟩,
  ⟨some 22, .len .slice (.t 21), none⟩,
  ⟨some 23, .mv (.c (.int .i64 (.ofNat 0))), none⟩]
@[simp] def f156r7 : List ROper := [
  ⟨some 24, .bin .lss (.t 23) (.t 22), none⟩]
@[simp] def f156r8 : List ROper := [
  ⟨some 25, .mv (.t 23), none⟩,
  ⟨some 26, .iaddr 1 (.t 21) (.t 23), none⟩,
  ⟨some 27, .load 1 false (.t 26), none⟩,
  ⟨some 9, .mv (.t 25), none⟩,
  ⟨some 10, .mv (.t 27), none⟩]
@[simp] def f156r9 : List ROper := [
  ⟨some 29, .mv (.t 10), none⟩,
  ⟨some 30, .bin .eql (.t 29) (.c (.int .u8 (.ofNat 46))), none⟩,
  ⟨some 28, .mv (.t 30), none⟩]
@[simp] def f156r10 : List ROper := [
  ⟨some 31, .mv (.t 9), none⟩,
  ⟨some 32, .bin .neq (.t 31) (.c (.int .i64 (.ofNat 0))), none⟩,
  ⟨some 33, .mv (.t 32), none⟩,
  ⟨some 34, .mv (.t 9), some (33, true)⟩,
  ⟨some 35, .mv (.t 0), some (33, true)⟩,
  ⟨some 36, .len .str (.t 35), some (33, true)⟩,
  ⟨some 37, .bin .sub (.t 36) (.c (.int .i64 (.ofNat 1))), some (33, true)⟩,
  ⟨some 38, .bin .neq (.t 34) (.t 37), some (33, true)⟩,
  ⟨some 39, .pick (.t 33) (.t 38) (.c (.bool false)), none⟩]
@[simp] def f156r11 : List ROper := [
  ⟨some 2, .mv (.c (.str [])), none⟩,
  ⟨some 3, .mv (.c (.list 0 0 .no false [])), none⟩,
  ⟨some 4, .mv (.c (.bool false)), none⟩]
@[simp] def f156r12 : List ROper := [
  ⟨some 40, .mv (.t 5), none⟩,
  ⟨some 41, .mv (.t 10), none⟩,
  ⟨some 42, .hlit 1 false [(.int .u8 (.ofNat 0))] 1 [(0, (.t 41))], none⟩,
  ⟨some 43, .append 1 false 1 (.t 40) (.t 42), none⟩,
  ⟨some 44, .mv (.t 6), none⟩,
  ⟨some 45, .hlit 1 false [(.int .u8 (.ofNat 0))] 1 [(0, (.c (.int .u8 (.ofNat 0))))], none⟩,
  ⟨some 46, .append 1 false 1 (.t 44) (.t 45), none⟩,
  ⟨some 5, .mv (.t 43), none⟩,
  ⟨some 6, .mv (.t 46), none⟩]
@[simp] def f156r13 : List ROper := [
  ⟨some 8, .mv (.c (.bool true)), none⟩]
@[simp] def f156r14 : List ROper := [
  ⟨some 48, .mv (.t 10), none⟩,
  ⟨some 49, .call 161 [(.t 48)], none⟩,
  ⟨some 47, .mv (.t 49), none⟩]
@[simp] def f156r15 : List ROper := [
  ⟨some 50, .mv (.t 5), none⟩,
  ⟨some 51, .mv (.t 10), none⟩,
  ⟨some 52, .hlit 1 false [(.int .u8 (.ofNat 0))] 1 [(0, (.t 51))], none⟩,
  ⟨some 53, .append 1 false 1 (.t 50) (.t 52), none⟩,
  ⟨some 54, .mv (.t 6), none⟩,
  ⟨some 55, .hlit 1 false [(.int .u8 (.ofNat 0))] 1 [(0, (.c (.int .u8 (.ofNat 0))))], none⟩,
  ⟨some 56, .append 1 false 1 (.t 54) (.t 55), none⟩,
  ⟨some 5, .mv (.t 53), none⟩,
  ⟨some 6, .mv (.t 56), none⟩]
@[simp] def f156r16 : List ROper := [
  ⟨some 7, .mv (.c (.bool true)), none⟩,
  ⟨some 8, .mv (.c (.bool true)), none⟩]
@[simp] def f156r17 : List ROper := [
  ⟨some 58, .mv (.t 10), none⟩,
  ⟨some 59, .call 163 [(.t 58)], none⟩,
  ⟨some 60, .mv (.t 59), none⟩,
  ⟨some 61, .mv (.t 8), some (60, true)⟩,
  ⟨some 62, .pick (.t 60) (.t 61) (.c (.bool false)), none⟩,
  ⟨some 57, .mv (.t 62), none⟩]
@[simp] def f156r18 : List ROper := [
  ⟨some 63, .mv (.t 6), none⟩,
  ⟨some 64, .mv (.t 6), none⟩,
  ⟨some 65, .len .slice (.t 64), none⟩,
  ⟨some 66, .bin .sub (.t 65) (.c (.int .i64 (.ofNat 1))), none⟩,
  ⟨some 67, .mv (.t 10), none⟩,
  ⟨some 68, .bin .sub (.t 67) (.c (.int .u8 (.ofNat 48))), none⟩,
  ⟨some 69, .iaddr 1 (.t 63) (.t 66), none⟩,
  ⟨none, .store 1 (.t 69) (.t 68), none⟩]
@[simp] def f156r19 : List ROper := [
  ⟨some 8, .mv (.c (.bool false)), none⟩]
@[simp] def f156r20 : List ROper := [
  ⟨some 2, .mv (.c (.str [])), none⟩,
  ⟨some 3, .mv (.c (.list 0 0 .no false [])), none⟩,
  ⟨some 4, .mv (.c (.bool false)), none⟩]
@[simp] def f156r21 : List ROper := [
  ⟨some 70, .bin .add (.t 23) (.c (.int .i64 (.ofNat 1))), none⟩,
  ⟨some 23, .mv (.t 70), none⟩]
def f156B0 : RC := (.seq (.region f156r7 [0, 5, 6, 7, 8, 21, 22, 23, 24]) (.seq (.cond (.t 24) .skip (.exit 0)) (.seq (.block 1 (.seq (.region f156r8 [0, 5, 6, 7, 8, 9, 10, 21, 22, 23]) (.block 2 (.seq (.region f156r9 [0, 5, 6, 7, 8, 9, 10, 21, 22, 23, 28]) (.cond (.t 28) (.seq (.seq (.region f156r10 [0, 5, 6, 7, 10, 21, 22, 23, 39]) (.cond (.t 39) (.seq (.region f156r11 [2, 3, 4]) .ret) .skip)) (.seq (.region f156r12 [0, 5, 6, 7, 21, 22, 23]) (.region f156r13 [0, 5, 6, 7, 8, 21, 22, 23]))) (.seq (.region f156r14 [0, 5, 6, 7, 8, 10, 21, 22, 23, 47]) (.cond (.t 47) (.seq (.region f156r15 [0, 5, 6, 21, 22, 23]) (.region f156r16 [0, 5, 6, 7, 8, 21, 22, 23])) (.seq (.region f156r17 [0, 5, 6, 7, 10, 21, 22, 23, 57]) (.cond (.t 57) (.seq (.region f156r18 [0, 5, 6, 7, 21, 22, 23]) (.region f156r19 [0, 5, 6, 7, 8, 21, 22, 23])) (.seq (.region f156r20 [2, 3, 4]) .ret)))))))))) (.region f156r21 [0, 5, 6, 7, 8, 21, 22, 23]))))
def f156L0 : RC := .loop [0, 5, 6, 7, 8, 21, 22, 23] f156B0
@[simp] def f156r22 : List ROper := [
  ⟨some 71, .mv (.t 5), none⟩,
  ⟨some 72, .b2s (.t 71), none⟩,
  ⟨some 73, .mv (.t 6), none⟩,
  ⟨some 74, .mv (.t 7), none⟩,
  ⟨some 2, .mv (.t 72), none⟩,
  ⟨some 3, .mv (.t 73), none⟩,
  ⟨some 4, .mv (.t 74), none⟩]
def f156 : RFunc := ⟨[.t 2, .t 3, .t 4], (.seq (.region f156r0 [0]) (.seq (.seq (.region f156r1 [0, 18]) (.cond (.t 18) (.seq (.region f156r2 [2, 3, 4]) .ret) .skip)) (.seq (.region f156r3 [0, 5]) (.seq (.region f156r4 [0, 5, 6]) (.seq (.region f156r5 [0, 5, 6, 7, 8]) (.seq (.seq (.region f156r6 [0, 5, 6, 7, 8, 21, 22, 23]) (.block 0 f156L0)) (.seq (.region f156r22 [2, 3, 4]) .ret))))))), true⟩

/-! (*quire/hyph.node).add -/
@[simp] def f157r0 : List ROper := [
  ⟨some 10, .mv (.t 1), none⟩,
  ⟨some 11, .s2b (.t 10), none⟩,
  ⟨some 12, .len .slice (.t 11), none⟩,
  ⟨some 13, .mv (.c (.int .i64 (.ofNat 0))), none⟩]
@[simp] def f157r1 : List ROper := [
  ⟨some 14, .bin .lss (.t 13) (.t 12), none⟩]
@[simp] def f157r2 : List ROper := [
  ⟨some 15, .iaddr 1 (.t 11) (.t 13), none⟩,
  ⟨some 16, .load 1 false (.t 15), none⟩,
  ⟨some 7, .mv (.t 16), none⟩]
@[simp] def f157r3 : List ROper := [
  ⟨some 17, .mv (.t 0), none⟩,
  ⟨some 18, .nilchk (.t 17), none⟩,
  ⟨some 19, .faddr 0 (.t 18), none⟩,
  ⟨some 20, .load 1 false (.t 19), none⟩,
  ⟨some 21, .eq .map false (.t 20) (.c .nilmap), none⟩]
@[simp] def f157r4 : List ROper := [
  ⟨some 22, .mv (.t 0), none⟩,
  ⟨some 23, .mkmap, none⟩,
  ⟨some 24, .nilchk (.t 22), none⟩,
  ⟨some 25, .faddr 0 (.t 24), none⟩,
  ⟨none, .store 1 (.t 25) (.t 23), none⟩]
@[simp] def f157r5 : List ROper := [
  ⟨some 26, .mv (.t 0), none⟩,
  ⟨some 27, .nilchk (.t 26), none⟩,
  ⟨some 28, .faddr 0 (.t 27), none⟩,
  ⟨some 29, .load 1 false (.t 28), none⟩,
  ⟨some 30, .mv (.t 7), none⟩,
  ⟨some 31, .lookup [.int] .nilp (.t 29) (.t 30) false, none⟩,
  ⟨some 32, .eq .ptr false (.t 31) (.c .nilp), none⟩]
@[simp] def f157r6 : List ROper := [
  ⟨some 33, .mv (.t 0), none⟩,
  ⟨some 34, .nilchk (.t 33), none⟩,
  ⟨some 35, .faddr 0 (.t 34), none⟩,
  ⟨some 36, .load 1 false (.t 35), none⟩,
  ⟨some 37, .mv (.t 7), none⟩,
  ⟨some 38, .build [.nilmap, (.list 0 0 .no false [])] [], none⟩,
  ⟨some 39, .box 2 (.t 38), none⟩,
  ⟨none, .mapset [.int] (.t 36) (.t 37) (.t 39), none⟩]
@[simp] def f157r7 : List ROper := [
  ⟨some 40, .mv (.t 0), none⟩,
  ⟨some 41, .nilchk (.t 40), none⟩,
  ⟨some 42, .faddr 0 (.t 41), none⟩,
  ⟨some 43, .load 1 false (.t 42), none⟩,
  ⟨some 44, .mv (.t 7), none⟩,
  ⟨some 45, .lookup [.int] .nilp (.t 43) (.t 44) false, none⟩,
  ⟨some 0, .mv (.t 45), none⟩]
@[simp] def f157r8 : List ROper := [
  ⟨some 46, .bin .add (.t 13) (.c (.int .i64 (.ofNat 1))), none⟩,
  ⟨some 13, .mv (.t 46), none⟩]
def f157B0 : RC := (.seq (.region f157r1 [0, 2, 11, 12, 13, 14]) (.seq (.cond (.t 14) .skip (.exit 0)) (.seq (.block 1 (.seq (.region f157r2 [0, 2, 7, 11, 12, 13]) (.seq (.seq (.region f157r3 [0, 2, 7, 11, 12, 13, 21]) (.cond (.t 21) (.region f157r4 [0, 2, 7, 11, 12, 13]) .skip)) (.seq (.seq (.region f157r5 [0, 2, 7, 11, 12, 13, 32]) (.cond (.t 32) (.region f157r6 [0, 2, 7, 11, 12, 13]) .skip)) (.region f157r7 [0, 2, 11, 12, 13]))))) (.region f157r8 [0, 2, 11, 12, 13]))))
def f157L0 : RC := .loop [0, 2, 11, 12, 13] f157B0
@[simp] def f157r9 : List ROper := [
  ⟨some 47, .mv (.t 0), none⟩,
  ⟨some 48, .nilchk (.t 47), none⟩,
  ⟨some 49, .faddr 1 (.t 48), none⟩,
  ⟨some 50, .load 1 false (.t 49), none⟩,
  ⟨some 51, .eq .slice false (.t 50) (.c (.list 0 0 .no false [])), none⟩]
@[simp] def f157r10 : List ROper := [
  ⟨some 52, .mv (.t 0), none⟩,
  ⟨some 53, .mv (.t 2), none⟩,
  ⟨some 54, .call 164 [(.t 53)], none⟩,
  ⟨some 55, .nilchk (.t 52), none⟩,
  ⟨some 56, .faddr 1 (.t 55), none⟩,
  ⟨none, .store 1 (.t 56) (.t 54), none⟩]
@[simp] def f157r11 : List ROper := [
  ⟨some 57, .mv (.t 2), none⟩,
  ⟨some 58, .len .slice (.t 57), none⟩,
  ⟨some 59, .mv (.c (.int .i64 (.ofNat 0))), none⟩]
@[simp] def f157r12 : List ROper := [
  ⟨some 60, .bin .lss (.t 59) (.t 58), none⟩]
@[simp] def f157r13 : List ROper := [
  ⟨some 61, .mv (.t 59), none⟩,
  ⟨some 62, .iaddr 1 (.t 57) (.t 59), none⟩,
  ⟨some 63, .load 1 false (.t 62), none⟩,
  ⟨some 8, .mv (.t 61), none⟩,
  ⟨some 9, .mv (.t 63), none⟩]
@[simp] def f157r14 : List ROper := [
  ⟨some 64, .mv (.t 0), none⟩,
  ⟨some 65, .nilchk (.t 64), none⟩,
  ⟨some 66, .faddr 1 (.t 65), none⟩,
  ⟨some 67, .load 1 false (.t 66), none⟩,
  ⟨some 68, .mv (.t 8), none⟩,
  ⟨some 69, .mv (.t 0), none⟩,
  ⟨some 70, .nilchk (.t 69), none⟩,
  ⟨some 71, .faddr 1 (.t 70), none⟩,
  ⟨some 72, .load 1 false (.t 71), none⟩,
  ⟨some 73, .mv (.t 8), none⟩,
  ⟨some 74, .iaddr 1 (.t 72) (.t 73), none⟩,
  ⟨some 75, .load 1 false (.t 74), none⟩,
  ⟨some 76, .mv (.t 9), none⟩,
  ⟨some 77, .max [(.t 75), (.t 76)], none⟩,
  ⟨some 78, .iaddr 1 (.t 67) (.t 68), none⟩,
  ⟨none, .store 1 (.t 78) (.t 77), none⟩]
@[simp] def f157r15 : List ROper := [
  ⟨some 79, .bin .add (.t 59) (.c (.int .i64 (.ofNat 1))), none⟩,
  ⟨some 59, .mv (.t 79), none⟩]
def f157B1 : RC := (.seq (.region f157r12 [0, 57, 58, 59, 60]) (.seq (.cond (.t 60) .skip (.exit 2)) (.seq (.block 3 (.seq (.region f157r13 [0, 8, 9, 57, 58, 59]) (.dregion f157r14 [] [] [0, 57, 58, 59]))) (.region f157r15 [0, 57, 58, 59]))))
def f157L1 : RC := .loop [0, 57, 58, 59] f157B1
def f157 : RFunc := ⟨[], (.seq (.seq (.region f157r0 [0, 2, 11, 12, 13]) (.block 0 f157L0)) (.seq (.seq (.region f157r9 [0, 2, 51]) (.cond (.t 51) (.seq (.region f157r10 []) .ret) .skip)) (.seq (.region f157r11 [0, 57, 58, 59]) (.block 2 f157L1)))), false⟩

/-! quire/hyph.exception -/
@[simp] def f158r0 : List ROper := [
  ⟨some 2, .mv (.c (.str [])), none⟩,
  ⟨some 3, .mv (.c (.list 0 0 .no false [])), none⟩,
  ⟨some 4, .mv (.c (.bool false)), none⟩]
@[simp] def f158r1 : List ROper := [
  ⟨some 5, .mv (.c (.list 0 0 .no false [])), none⟩]
@[simp] def f158r2 : List ROper := [
  ⟨some 6, .mv (.c (.list 0 0 .no false [])), none⟩]
@[simp] def f158r3 : List ROper := [
  ⟨some 9, .mv (.t 0), none⟩,
  ⟨some 10, .s2b (.t 9), none⟩,
  ⟨some 11, .len .slice (.t 10), none⟩,
  ⟨some 12, .mv (.c (.int .i64 (.ofNat 0))), none⟩]
@[simp] def f158r4 : List ROper := [
  ⟨some 13, .bin .lss (.t 12) (.t 11), none⟩]
@[simp] def f158r5 : List ROper := [
  ⟨some 14, .mv (.t 12), none⟩,
  ⟨some 15, .iaddr 1 (.t 10) (.t 12), none⟩,
  ⟨some 16, .load 1 false (.t 15), none⟩,
  ⟨some 7, .mv (.t 14), none⟩,
  ⟨some 8, .mv (.t 16), none⟩]
@[simp] def f158r6 : List ROper := [
  ⟨some 18, .mv (.t 8), none⟩,
  ⟨some 19, .call 161 [(.t 18)], none⟩,
  ⟨some 17, .mv (.t 19), none⟩]
@[simp] def f158r7 : List ROper := [
  ⟨some 20, .mv (.t 5), none⟩,
  ⟨some 21, .mv (.t 8), none⟩,
  ⟨some 22, .lit 1 false [(.int .u8 (.ofNat 0))] 1 [(0, (.t 21))], none⟩,
  ⟨some 23, .append 1 false 1 (.t 20) (.t 22), none⟩,
  ⟨some 5, .mv (.t 23), none⟩]
@[simp] def f158r8 : List ROper := [
  ⟨some 25, .mv (.t 8), none⟩,
  ⟨some 26, .bin .eql (.t 25) (.c (.int .u8 (.ofNat 45))), none⟩,
  ⟨some 27, .mv (.t 26), none⟩,
  ⟨some 28, .mv (.t 7), some (27, true)⟩,
  ⟨some 29, .bin .gtr (.t 28) (.c (.int .i64 (.ofNat 0))), some (27, true)⟩,
  ⟨some 30, .pick (.t 27) (.t 29) (.c (.bool false)), none⟩,
  ⟨some 31, .mv (.t 30), none⟩,
  ⟨some 32, .mv (.t 7), some (31, true)⟩,
  ⟨some 33, .mv (.t 0), some (31, true)⟩,
  ⟨some 34, .len .str (.t 33), some (31, true)⟩,
  ⟨some 35, .bin .sub (.t 34) (.c (.int .i64 (.ofNat 1))), some (31, true)⟩,
  ⟨some 36, .bin .lss (.t 32) (.t 35), some (31, true)⟩,
  ⟨some 37, .pick (.t 31) (.t 36) (.c (.bool false)), none⟩,
  ⟨some 38, .mv (.t 37), none⟩,
  ⟨some 39, .mv (.t 0), some (38, true)⟩,
  ⟨some 40, .mv (.t 7), some (38, true)⟩,
  ⟨some 41, .bin .sub (.t 40) (.c (.int .i64 (.ofNat 1))), some (38, true)⟩,
  ⟨some 42, .index (.t 39) (.t 41), some (38, true)⟩,
  ⟨some 43, .bin .neq (.t 42) (.c (.int .u8 (.ofNat 45))), some (38, true)⟩,
  ⟨some 44, .pick (.t 38) (.t 43) (.c (.bool false)), none⟩,
  ⟨some 24, .mv (.t 44), none⟩]
@[simp] def f158r9 : List ROper := [
  ⟨some 45, .mv (.t 6), none⟩,
  ⟨some 46, .mv (.t 5), none⟩,
  ⟨some 47, .len .slice (.t 46), none⟩,
  ⟨some 48, .lit 1 false [(.int .i64 (.ofNat 0))] 1 [(0, (.t 47))], none⟩,
  ⟨some 49, .append 1 false 8 (.t 45) (.t 48), none⟩,
  ⟨some 6, .mv (.t 49), none⟩]
@[simp] def f158r10 : List ROper := [
  ⟨some 2, .mv (.c (.str [])), none⟩,
  ⟨some 3, .mv (.c (.list 0 0 .no false [])), none⟩,
  ⟨some 4, .mv (.c (.bool false)), none⟩]
@[simp] def f158r11 : List ROper := [
  ⟨some 50, .bin .add (.t 12) (.c (.int .i64 (.ofNat 1))), none⟩,
  ⟨some 12, .mv (.t 50), none⟩]
def f158B0 : RC := (.seq (.region f158r4 [0, 5, 6, 10, 11, 12, 13]) (.seq (.cond (.t 13) .skip (.exit 0)) (.seq (.block 1 (.seq (.region f158r5 [0, 5, 6, 7, 8, 10, 11, 12]) (.block 2 (.seq (.region f158r6 [0, 5, 6, 7, 8, 10, 11, 12, 17]) (.cond (.t 17) (.region f158r7 [0, 5, 6, 10, 11, 12]) (.seq (.region f158r8 [0, 5, 6, 10, 11, 12, 24]) (.cond (.t 24) (.region f158r9 [0, 5, 6, 10, 11, 12]) (.seq (.region f158r10 [2, 3, 4]) .ret)))))))) (.region f158r11 [0, 5, 6, 10, 11, 12]))))
def f158L0 : RC := .loop [0, 5, 6, 10, 11, 12] f158B0
@[simp] def f158r12 : List ROper := [
  ⟨some 51, .mv (.t 5), none⟩,
  ⟨some 52, .b2s (.t 51), none⟩,
  ⟨some 53, .mv (.t 6), none⟩,
  ⟨some 54, .mv (.t 5), none⟩,
  ⟨some 55, .len .slice (.t 54), none⟩,
  ⟨some 56, .bin .geq (.t 55) (.c (.int .i64 (.ofNat 2))), none⟩,
  ⟨some 57, .mv (.t 56), none⟩,
  ⟨some 58, .mv (.t 5), some (57, true)⟩,
  ⟨some 59, .len .slice (.t 58), some (57, true)⟩,
  ⟨some 60, .bin .leq (.t 59) (.c (.int .i64 (.ofNat 64))), some (57, true)⟩,
  ⟨some 61, .pick (.t 57) (.t 60) (.c (.bool false)), none⟩,
  ⟨some 2, .mv (.t 52), none⟩,
  ⟨some 3, .mv (.t 53), none⟩,
  ⟨some 4, .mv (.t 61), none⟩]
def f158 : RFunc := ⟨[.t 2, .t 3, .t 4], (.seq (.region f158r0 [0]) (.seq (.region f158r1 [0, 5]) (.seq (.region f158r2 [0, 5, 6]) (.seq (.seq (.region f158r3 [0, 5, 6, 10, 11, 12]) (.block 0 f158L0)) (.seq (.region f158r12 [2, 3, 4]) .ret))))), true⟩

/-! strings.FieldsFunc -/
@[simp] def f159r0 : List ROper := [
  ⟨some 4, .mv (.c (.list 0 0 .no false [])), none⟩]
@[simp] def f159r1 : List ROper := [
  ⟨some 12, .mklist 2 16 (.c (.int .i64 (.ofNat 0))) (.c (.int .i64 (.ofNat 32))), none⟩,
  ⟨some 5, .mv (.t 12), none⟩]
@[simp] def f159r2 : List ROper := [
  ⟨some 6, .mv (.c (.int .i64 (.negSucc 0))), none⟩]
@[simp] def f159r3 : List ROper := [
  ⟨some 13, .mv (.t 0), none⟩,
  ⟨some 14, .fail, none⟩]
@[simp] def f159r4 : List ROper := [
  ⟨some 15, .fail, none⟩,
  ⟨some 16, .extract (.t 15) 0, none⟩]
@[simp] def f159r5 : List ROper := [
  ⟨some 17, .extract (.t 15) 1, none⟩,
  ⟨some 18, .extract (.t 15) 2, none⟩,
  ⟨some 7, .mv (.t 17), none⟩,
  ⟨some 8, .mv (.t 18), none⟩]
@[simp] def f159r6 : List ROper := [
  ⟨some 19, .mv (.t 1), none⟩,
  ⟨some 20, .mv (.t 8), none⟩,
  ⟨some 21, .callv (.t 19) [(.t 20)], none⟩]
@[simp] def f159r7 : List ROper := [
  ⟨some 22, .mv (.t 6), none⟩,
  ⟨some 23, .bin .geq (.t 22) (.c (.int .i64 (.ofNat 0))), none⟩]
@[simp] def f159r8 : List ROper := [
  ⟨some 24, .mv (.t 5), none⟩,
  ⟨some 25, .mv (.t 6), none⟩,
  ⟨some 26, .mv (.t 7), none⟩,
  ⟨some 27, .build [(.int .i64 (.ofNat 0)), (.int .i64 (.ofNat 0))] [(0, 1, (.t 25)), (1, 1, (.t 26))], none⟩,
  ⟨some 28, .lit 2 true [(.int .i64 (.ofNat 0)), (.int .i64 (.ofNat 0))] 1 [(0, (.t 27))], none⟩,
  ⟨some 29, .append 2 true 16 (.t 24) (.t 28), none⟩,
  ⟨some 5, .mv (.t 29), none⟩]
@[simp] def f159r9 : List ROper := [
  ⟨some 30, .mv (.t 6), none⟩,
  ⟨some 31, .un .xor (.t 30), none⟩,
  ⟨some 6, .mv (.t 31), none⟩]
@[simp] def f159r10 : List ROper := [
  ⟨some 32, .mv (.t 6), none⟩,
  ⟨some 33, .bin .lss (.t 32) (.c (.int .i64 (.ofNat 0))), none⟩]
@[simp] def f159r11 : List ROper := [
  ⟨some 34, .mv (.t 7), none⟩,
  ⟨some 6, .mv (.t 34), none⟩]
def f159B0 : RC := (.seq (.region f159r4 [0, 1, 5, 6, 15, 16]) (.seq (.cond (.t 16) .skip (.exit 0)) (.block 1 (.seq (.region f159r5 [0, 1, 5, 6, 7, 8]) (.seq (.region f159r6 [0, 1, 5, 6, 7, 21]) (.cond (.t 21) (.seq (.region f159r7 [0, 1, 5, 6, 7, 23]) (.cond (.t 23) (.seq (.region f159r8 [0, 1, 5, 6]) (.region f159r9 [0, 1, 5, 6])) .skip)) (.seq (.region f159r10 [0, 1, 5, 6, 7, 33]) (.cond (.t 33) (.region f159r11 [0, 1, 5, 6]) .skip))))))))
def f159L0 : RC := .loop [0, 1, 5, 6] f159B0
@[simp] def f159r12 : List ROper := [
  ⟨some 35, .mv (.t 6), none⟩,
  ⟨some 36, .bin .geq (.t 35) (.c (.int .i64 (.ofNat 0))), none⟩]
@[simp] def f159r13 : List ROper := [
  ⟨some 37, .mv (.t 5), none⟩,
  ⟨some 38, .mv (.t 6), none⟩,
  ⟨some 39, .mv (.t 0), none⟩,
  ⟨some 40, .len .str (.t 39), none⟩,
  ⟨some 41, .build [(.int .i64 (.ofNat 0)), (.int .i64 (.ofNat 0))] [(0, 1, (.t 38)), (1, 1, (.t 40))], none⟩,
  ⟨some 42, .lit 2 true [(.int .i64 (.ofNat 0)), (.int .i64 (.ofNat 0))] 1 [(0, (.t 41))], none⟩,
  ⟨some 43, .append 2 true 16 (.t 37) (.t 42), none⟩,
  ⟨some 5, .mv (.t 43), none⟩]
@[simp] def f159r14 : List ROper := [
  ⟨some 44, .mv (.t 5), none⟩,
  ⟨some 45, .len .slice (.t 44), none⟩,
  ⟨some 46, .mkslice 1 false 16 [(.str [])] (.t 45) (.t 45), none⟩,
  ⟨some 9, .mv (.t 46), none⟩]
@[simp] def f159r15 : List ROper := [
  ⟨some 47, .mv (.t 5), none⟩,
  ⟨some 48, .len .slice (.t 47), none⟩,
  ⟨some 49, .mv (.c (.int .i64 (.ofNat 0))), none⟩]
@[simp] def f159r16 : List ROper := [
  ⟨some 50, .bin .lss (.t 49) (.t 48), none⟩]
@[simp] def f159r17 : List ROper := [
  ⟨some 51, .mv (.t 49), none⟩,
  ⟨some 52, .iaddr 2 (.t 47) (.t 49), none⟩,
  ⟨some 53, .load 2 true (.t 52), none⟩,
  ⟨some 11, .alloc [(.int .i64 (.ofNat 0)), (.int .i64 (.ofNat 0))], none⟩,
  ⟨some 10, .mv (.t 51), none⟩,
  ⟨none, .store 2 (.t 11) (.t 53), none⟩]
@[simp] def f159r18 : List ROper := [
  ⟨some 54, .mv (.t 9), none⟩,
  ⟨some 55, .mv (.t 10), none⟩,
  ⟨some 56, .mv (.t 0), none⟩,
  ⟨some 57, .faddr 0 (.t 11), none⟩,
  ⟨some 58, .load 1 false (.t 57), none⟩,
  ⟨some 59, .faddr 1 (.t 11), none⟩,
  ⟨some 60, .load 1 false (.t 59), none⟩,
  ⟨some 61, .slice true 1 (.t 56) (some (.t 58)) (some (.t 60)) none, none⟩,
  ⟨some 62, .iaddr 1 (.t 54) (.t 55), none⟩,
  ⟨none, .store 1 (.t 62) (.t 61), none⟩]
@[simp] def f159r19 : List ROper := [
  ⟨some 63, .bin .add (.t 49) (.c (.int .i64 (.ofNat 1))), none⟩,
  ⟨some 49, .mv (.t 63), none⟩]
def f159B1 : RC := (.seq (.region f159r16 [0, 9, 47, 48, 49, 50]) (.seq (.cond (.t 50) .skip (.exit 2)) (.seq (.block 3 (.seq (.region f159r17 [0, 9, 10, 11, 47, 48, 49]) (.region f159r18 [0, 9, 47, 48, 49]))) (.region f159r19 [0, 9, 47, 48, 49]))))
def f159L1 : RC := .loop [0, 9, 47, 48, 49] f159B1
@[simp] def f159r20 : List ROper := [
  ⟨some 64, .mv (.t 9), none⟩,
  ⟨some 4, .mv (.t 64), none⟩]
def f159 : RFunc := ⟨[.t 4], (.seq (.region f159r0 [0, 1]) (.seq (.region f159r1 [0, 1, 5]) (.seq (.region f159r2 [0, 1, 5, 6]) (.seq (.seq (.region f159r3 [0, 1, 5, 6]) (.block 0 f159L0)) (.seq (.seq (.region f159r12 [0, 5, 6, 36]) (.cond (.t 36) (.region f159r13 [0, 5]) .skip)) (.seq (.region f159r14 [0, 5, 9]) (.seq (.seq (.region f159r15 [0, 9, 47, 48, 49]) (.block 2 f159L1)) (.seq (.region f159r20 [4]) .ret)))))))), false⟩

/-! unicode.IsSpace -/
@[simp] def f160r0 : List ROper := [
  ⟨some 2, .mv (.c (.bool false)), none⟩]
@[simp] def f160r1 : List ROper := [
  ⟨some 3, .mv (.t 0), none⟩,
  ⟨some 4, .i2i .u32 (.t 3), none⟩,
  ⟨some 5, .bin .leq (.t 4) (.c (.int .u32 (.ofNat 255))), none⟩]
@[simp] def f160r2 : List ROper := [
  ⟨some 6, .mv (.t 0), none⟩]
@[simp] def f160r3 : List ROper := [
  ⟨some 8, .bin .eql (.t 6) (.c (.int .i32 (.ofNat 9))), none⟩,
  ⟨some 7, .mv (.t 8), none⟩]
@[simp] def f160r4 : List ROper := [
  ⟨some 9, .bin .eql (.t 6) (.c (.int .i32 (.ofNat 10))), none⟩,
  ⟨some 7, .mv (.t 9), none⟩]
@[simp] def f160r5 : List ROper := [
  ⟨some 10, .bin .eql (.t 6) (.c (.int .i32 (.ofNat 11))), none⟩,
  ⟨some 7, .mv (.t 10), none⟩]
@[simp] def f160r6 : List ROper := [
  ⟨some 11, .bin .eql (.t 6) (.c (.int .i32 (.ofNat 12))), none⟩,
  ⟨some 7, .mv (.t 11), none⟩]
@[simp] def f160r7 : List ROper := [
  ⟨some 12, .bin .eql (.t 6) (.c (.int .i32 (.ofNat 13))), none⟩,
  ⟨some 7, .mv (.t 12), none⟩]
@[simp] def f160r8 : List ROper := [
  ⟨some 13, .bin .eql (.t 6) (.c (.int .i32 (.ofNat 32))), none⟩,
  ⟨some 7, .mv (.t 13), none⟩]
@[simp] def f160r9 : List ROper := [
  ⟨some 14, .bin .eql (.t 6) (.c (.int .i32 (.ofNat 133))), none⟩,
  ⟨some 7, .mv (.t 14), none⟩]
@[simp] def f160r10 : List ROper := [
  ⟨some 15, .bin .eql (.t 6) (.c (.int .i32 (.ofNat 160))), none⟩,
  ⟨some 7, .mv (.t 15), none⟩]
@[simp] def f160r11 : List ROper := [
  ⟨some 2, .mv (.c (.bool true)), none⟩]
@[simp] def f160r12 : List ROper := [
  ⟨some 2, .mv (.c (.bool false)), none⟩]
@[simp] def f160r13 : List ROper := [
  ⟨some 16, .fail, none⟩,
  ⟨some 17, .mv (.t 0), none⟩,
  ⟨some 18, .call 165 [(.t 16), (.t 17)], none⟩,
  ⟨some 2, .mv (.t 18), none⟩]
def f160 : RFunc := ⟨[.t 2], (.seq (.region f160r0 [0]) (.seq (.seq (.region f160r1 [0, 5]) (.cond (.t 5) (.seq (.seq (.region f160r2 [6]) (.block 0 (.seq (.seq (.region f160r3 [6, 7]) (.cond (.t 7) .skip (.seq (.region f160r4 [6, 7]) (.cond (.t 7) .skip (.seq (.region f160r5 [6, 7]) (.cond (.t 7) .skip (.seq (.region f160r6 [6, 7]) (.cond (.t 7) .skip (.seq (.region f160r7 [6, 7]) (.cond (.t 7) .skip (.seq (.region f160r8 [6, 7]) (.cond (.t 7) .skip (.seq (.region f160r9 [6, 7]) (.cond (.t 7) .skip (.region f160r10 [7]))))))))))))))) (.cond (.t 7) (.seq (.region f160r11 [2]) .ret) .skip)))) (.seq (.region f160r12 [2]) .ret)) .skip)) (.seq (.region f160r13 [2]) .ret))), true⟩

/-! quire/hyph.small -/
@[simp] def f161r0 : List ROper := [
  ⟨some 2, .mv (.c (.bool false)), none⟩]
@[simp] def f161r1 : List ROper := [
  ⟨some 3, .mv (.t 0), none⟩,
  ⟨some 4, .bin .geq (.t 3) (.c (.int .u8 (.ofNat 97))), none⟩,
  ⟨some 5, .mv (.t 4), none⟩,
  ⟨some 6, .mv (.t 0), some (5, true)⟩,
  ⟨some 7, .bin .leq (.t 6) (.c (.int .u8 (.ofNat 122))), some (5, true)⟩,
  ⟨some 8, .pick (.t 5) (.t 7) (.c (.bool false)), none⟩,
  ⟨some 2, .mv (.t 8), none⟩]
def f161 : RFunc := ⟨[.t 2], (.seq (.region f161r0 [0]) (.seq (.region f161r1 [2]) .ret)), true⟩

/-! quire/hyph.digit -/
@[simp] def f163r0 : List ROper := [
  ⟨some 2, .mv (.c (.bool false)), none⟩]
@[simp] def f163r1 : List ROper := [
  ⟨some 3, .mv (.t 0), none⟩,
  ⟨some 4, .bin .geq (.t 3) (.c (.int .u8 (.ofNat 48))), none⟩,
  ⟨some 5, .mv (.t 4), none⟩,
  ⟨some 6, .mv (.t 0), some (5, true)⟩,
  ⟨some 7, .bin .leq (.t 6) (.c (.int .u8 (.ofNat 57))), some (5, true)⟩,
  ⟨some 8, .pick (.t 5) (.t 7) (.c (.bool false)), none⟩,
  ⟨some 2, .mv (.t 8), none⟩]
def f163 : RFunc := ⟨[.t 2], (.seq (.region f163r0 [0]) (.seq (.region f163r1 [2]) .ret)), true⟩

/-! slices.Clone[[]byte,byte] -/
@[simp] def f164r0 : List ROper := [
  ⟨some 2, .mv (.c (.list 0 0 .no false [])), none⟩]
@[simp] def f164r1 : List ROper := [
  ⟨some 3, .mv (.t 0), none⟩,
  ⟨some 4, .eq .slice false (.t 3) (.c (.list 0 0 .no false [])), none⟩]
@[simp] def f164r2 : List ROper := [
  ⟨some 2, .mv (.c (.list 0 0 .no false [])), none⟩]
@[simp] def f164r3 : List ROper := [
  ⟨some 5, .lit 1 false [(.int .u8 (.ofNat 0))] 0 [], none⟩,
  ⟨some 6, .mv (.t 0), none⟩,
  ⟨some 7, .appendH 1 false 1 (.t 5) (.t 6), none⟩,
  ⟨some 2, .mv (.t 7), none⟩]
def f164 : RFunc := ⟨[.t 2], (.seq (.region f164r0 [0]) (.seq (.seq (.region f164r1 [0, 4]) (.cond (.t 4) (.seq (.region f164r2 [2]) .ret) .skip)) (.seq (.region f164r3 [2]) .ret))), false⟩

/-! unicode.isExcludingLatin -/
@[simp] def f165r0 : List ROper := [
  ⟨some 4, .mv (.c (.bool false)), none⟩]
@[simp] def f165r1 : List ROper := [
  ⟨some 8, .mv (.t 0), none⟩,
  ⟨some 9, .nilchk (.t 8), none⟩,
  ⟨some 10, .faddr 0 (.t 9), none⟩,
  ⟨some 11, .load 1 false (.t 10), none⟩,
  ⟨some 5, .mv (.t 11), none⟩]
@[simp] def f165r2 : List ROper := [
  ⟨some 12, .mv (.t 0), none⟩,
  ⟨some 13, .nilchk (.t 12), none⟩,
  ⟨some 14, .faddr 2 (.t 13), none⟩,
  ⟨some 15, .load 1 false (.t 14), none⟩,
  ⟨some 6, .mv (.t 15), none⟩]
@[simp] def f165r3 : List ROper := [
  ⟨some 16, .mv (.t 5), none⟩,
  ⟨some 17, .len .slice (.t 16), none⟩,
  ⟨some 18, .mv (.t 6), none⟩,
  ⟨some 19, .bin .gtr (.t 17) (.t 18), none⟩,
  ⟨some 20, .mv (.t 19), none⟩,
  ⟨some 21, .mv (.t 1), some (20, true)⟩,
  ⟨some 22, .i2i .u32 (.t 21), some (20, true)⟩,
  ⟨some 23, .mv (.t 5), some (20, true)⟩,
  ⟨some 24, .mv (.t 5), some (20, true)⟩,
  ⟨some 25, .len .slice (.t 24), some (20, true)⟩,
  ⟨some 26, .bin .sub (.t 25) (.c (.int .i64 (.ofNat 1))), some (20, true)⟩,
  ⟨some 27, .iaddr 3 (.t 23) (.t 26), some (20, true)⟩,
  ⟨some 28, .faddr 1 (.t 27), some (20, true)⟩,
  ⟨some 29, .load 1 false (.t 28), some (20, true)⟩,
  ⟨some 30, .i2i .u32 (.t 29), some (20, true)⟩,
  ⟨some 31, .bin .leq (.t 22) (.t 30), some (20, true)⟩,
  ⟨some 32, .pick (.t 20) (.t 31) (.c (.bool false)), none⟩]
@[simp] def f165r4 : List ROper := [
  ⟨some 33, .mv (.t 5), none⟩,
  ⟨some 34, .mv (.t 6), none⟩,
  ⟨some 35, .slice false 3 (.t 33) (some (.t 34)) none none, none⟩,
  ⟨some 36, .mv (.t 1), none⟩,
  ⟨some 37, .i2i .u16 (.t 36), none⟩,
  ⟨some 38, .call 166 [(.t 35), (.t 37)], none⟩,
  ⟨some 4, .mv (.t 38), none⟩]
@[simp] def f165r5 : List ROper := [
  ⟨some 39, .mv (.t 0), none⟩,
  ⟨some 40, .nilchk (.t 39), none⟩,
  ⟨some 41, .faddr 1 (.t 40), none⟩,
  ⟨some 42, .load 1 false (.t 41), none⟩,
  ⟨some 7, .mv (.t 42), none⟩]
@[simp] def f165r6 : List ROper := [
  ⟨some 43, .mv (.t 7), none⟩,
  ⟨some 44, .len .slice (.t 43), none⟩,
  ⟨some 45, .bin .gtr (.t 44) (.c (.int .i64 (.ofNat 0))), none⟩,
  ⟨some 46, .mv (.t 45), none⟩,
  ⟨some 47, .mv (.t 1), some (46, true)⟩,
  ⟨some 48, .mv (.t 7), some (46, true)⟩,
  ⟨some 49, .iaddr 3 (.t 48) (.c (.int .i64 (.ofNat 0))), some (46, true)⟩,
  ⟨some 50, .faddr 0 (.t 49), some (46, true)⟩,
  ⟨some 51, .load 1 false (.t 50), some (46, true)⟩,
  ⟨some 52, .i2i .i32 (.t 51), some (46, true)⟩,
  ⟨some 53, .bin .geq (.t 47) (.t 52), some (46, true)⟩,
  ⟨some 54, .pick (.t 46) (.t 53) (.c (.bool false)), none⟩]
@[simp] def f165r7 : List ROper := [
  ⟨some 55, .mv (.t 7), none⟩,
  ⟨some 56, .mv (.t 1), none⟩,
  ⟨some 57, .i2i .u32 (.t 56), none⟩,
  ⟨some 58, .call 167 [(.t 55), (.t 57)], none⟩,
  ⟨some 4, .mv (.t 58), none⟩]
@[simp] def f165r8 : List ROper := [
  ⟨some 4, .mv (.c (.bool false)), none⟩]
def f165 : RFunc := ⟨[.t 4], (.seq (.region f165r0 [0, 1]) (.seq (.region f165r1 [0, 1, 5]) (.seq (.seq (.region f165r2 [0, 1, 5, 6]) (.seq (.region f165r3 [0, 1, 5, 6, 32]) (.cond (.t 32) (.seq (.region f165r4 [4]) .ret) .skip))) (.seq (.region f165r5 [1, 7]) (.seq (.seq (.region f165r6 [1, 7, 54]) (.cond (.t 54) (.seq (.region f165r7 [4]) .ret) .skip)) (.seq (.region f165r8 [4]) .ret)))))), false⟩

/-! unicode.is16 -/
@[simp] def f166r0 : List ROper := [
  ⟨some 4, .mv (.c (.bool false)), none⟩]
@[simp] def f166r1 : List ROper := [
  ⟨some 11, .mv (.t 0), none⟩,
  ⟨some 12, .len .slice (.t 11), none⟩,
  ⟨some 13, .bin .leq (.t 12) (.c (.int .i64 (.ofNat 18))), none⟩,
  ⟨some 14, .mv (.t 13), none⟩,
  ⟨some 15, .mv (.t 1), some (14, false)⟩,
  ⟨some 16, .bin .leq (.t 15) (.c (.int .u16 (.ofNat 255))), some (14, false)⟩,
  ⟨some 17, .pick (.t 14) (.c (.bool true)) (.t 16), none⟩]
@[simp] def f166r2 : List ROper := [
  ⟨some 18, .mv (.t 0), none⟩,
  ⟨some 19, .len .slice (.t 18), none⟩,
  ⟨some 20, .mv (.c (.int .i64 (.ofNat 0))), none⟩]
@[simp] def f166r3 : List ROper := [
  ⟨some 21, .bin .lss (.t 20) (.t 19), none⟩]
@[simp] def f166r4 : List ROper := [
  ⟨some 22, .mv (.t 20), none⟩,
  ⟨some 5, .mv (.t 22), none⟩]
@[simp] def f166r5 : List ROper := [
  ⟨some 23, .mv (.t 0), none⟩,
  ⟨some 24, .mv (.t 5), none⟩,
  ⟨some 25, .iaddr 3 (.t 23) (.t 24), none⟩,
  ⟨some 6, .mv (.t 25), none⟩]
@[simp] def f166r6 : List ROper := [
  ⟨some 26, .mv (.t 1), none⟩,
  ⟨some 27, .mv (.t 6), none⟩,
  ⟨some 28, .nilchk (.t 27), none⟩,
  ⟨some 29, .faddr 0 (.t 28), none⟩,
  ⟨some 30, .load 1 false (.t 29), none⟩,
  ⟨some 31, .bin .lss (.t 26) (.t 30), none⟩]
@[simp] def f166r7 : List ROper := [
  ⟨some 4, .mv (.c (.bool false)), none⟩]
@[simp] def f166r8 : List ROper := [
  ⟨some 32, .mv (.t 1), none⟩,
  ⟨some 33, .mv (.t 6), none⟩,
  ⟨some 34, .nilchk (.t 33), none⟩,
  ⟨some 35, .faddr 1 (.t 34), none⟩,
  ⟨some 36, .load 1 false (.t 35), none⟩,
  ⟨some 37, .bin .leq (.t 32) (.t 36), none⟩]
@[simp] def f166r9 : List ROper := [
  ⟨some 38, .mv (.t 6), none⟩,
  ⟨some 39, .nilchk (.t 38), none⟩,
  ⟨some 40, .faddr 2 (.t 39), none⟩,
  ⟨some 41, .load 1 false (.t 40), none⟩,
  ⟨some 42, .bin .eql (.t 41) (.c (.int .u16 (.ofNat 1))), none⟩,
  ⟨some 43, .mv (.t 42), none⟩,
  ⟨some 44, .mv (.t 1), some (43, false)⟩,
  ⟨some 45, .mv (.t 6), some (43, false)⟩,
  ⟨some 46, .nilchk (.t 45), some (43, false)⟩,
  ⟨some 47, .faddr 0 (.t 46), some (43, false)⟩,
  ⟨some 48, .load 1 false (.t 47), some (43, false)⟩,
  ⟨some 49, .bin .sub (.t 44) (.t 48), some (43, false)⟩,
  ⟨some 50, .mv (.t 6), some (43, false)⟩,
  ⟨some 51, .nilchk (.t 50), some (43, false)⟩,
  ⟨some 52, .faddr 2 (.t 51), some (43, false)⟩,
  ⟨some 53, .load 1 false (.t 52), some (43, false)⟩,
  ⟨some 54, .bin .rem (.t 49) (.t 53), some (43, false)⟩,
  ⟨some 55, .bin .eql (.t 54) (.c (.int .u16 (.ofNat 0))), some (43, false)⟩,
  ⟨some 56, .pick (.t 43) (.c (.bool true)) (.t 55), none⟩,
  ⟨some 4, .mv (.t 56), none⟩]
@[simp] def f166r10 : List ROper := [
  ⟨some 57, .bin .add (.t 20) (.c (.int .i64 (.ofNat 1))), none⟩,
  ⟨some 20, .mv (.t 57), none⟩]
def f166B0 : RC := (.seq (.region f166r3 [0, 1, 19, 20, 21]) (.seq (.cond (.t 21) .skip (.exit 0)) (.seq (.block 1 (.seq (.region f166r4 [0, 1, 5, 19, 20]) (.seq (.region f166r5 [0, 1, 6, 19, 20]) (.seq (.seq (.region f166r6 [0, 1, 6, 19, 20, 31]) (.cond (.t 31) (.seq (.region f166r7 [4]) .ret) .skip)) (.seq (.region f166r8 [0, 1, 6, 19, 20, 37]) (.cond (.t 37) (.seq (.dregion f166r9 [] [] [4]) .ret) .skip)))))) (.region f166r10 [0, 1, 19, 20]))))
def f166L0 : RC := .loop [0, 1, 19, 20] f166B0
@[simp] def f166r11 : List ROper := [
  ⟨some 4, .mv (.c (.bool false)), none⟩]
@[simp] def f166r12 : List ROper := [
  ⟨some 7, .mv (.c (.int .i64 (.ofNat 0))), none⟩]
@[simp] def f166r13 : List ROper := [
  ⟨some 58, .mv (.t 0), none⟩,
  ⟨some 59, .len .slice (.t 58), none⟩,
  ⟨some 8, .mv (.t 59), none⟩]
@[simp] def f166r14 : List ROper := [
  ⟨some 60, .mv (.t 7), none⟩,
  ⟨some 61, .mv (.t 8), none⟩,
  ⟨some 62, .bin .lss (.t 60) (.t 61), none⟩]
@[simp] def f166r15 : List ROper := [
  ⟨some 63, .mv (.t 7), none⟩,
  ⟨some 64, .mv (.t 8), none⟩,
  ⟨some 65, .bin .add (.t 63) (.t 64), none⟩,
  ⟨some 66, .i2i .u64 (.t 65), none⟩,
  ⟨some 67, .bin .shr (.t 66) (.c (.int .u64 (.ofNat 1))), none⟩,
  ⟨some 68, .i2i .i64 (.t 67), none⟩,
  ⟨some 9, .mv (.t 68), none⟩]
@[simp] def f166r16 : List ROper := [
  ⟨some 69, .mv (.t 0), none⟩,
  ⟨some 70, .mv (.t 9), none⟩,
  ⟨some 71, .iaddr 3 (.t 69) (.t 70), none⟩,
  ⟨some 10, .mv (.t 71), none⟩]
@[simp] def f166r17 : List ROper := [
  ⟨some 72, .mv (.t 10), none⟩,
  ⟨some 73, .nilchk (.t 72), none⟩,
  ⟨some 74, .faddr 0 (.t 73), none⟩,
  ⟨some 75, .load 1 false (.t 74), none⟩,
  ⟨some 76, .mv (.t 1), none⟩,
  ⟨some 77, .bin .leq (.t 75) (.t 76), none⟩,
  ⟨some 78, .mv (.t 77), none⟩,
  ⟨some 79, .mv (.t 1), some (78, true)⟩,
  ⟨some 80, .mv (.t 10), some (78, true)⟩,
  ⟨some 81, .nilchk (.t 80), some (78, true)⟩,
  ⟨some 82, .faddr 1 (.t 81), some (78, true)⟩,
  ⟨some 83, .load 1 false (.t 82), some (78, true)⟩,
  ⟨some 84, .bin .leq (.t 79) (.t 83), some (78, true)⟩,
  ⟨some 85, .pick (.t 78) (.t 84) (.c (.bool false)), none⟩]
@[simp] def f166r18 : List ROper := [
  ⟨some 86, .mv (.t 10), none⟩,
  ⟨some 87, .nilchk (.t 86), none⟩,
  ⟨some 88, .faddr 2 (.t 87), none⟩,
  ⟨some 89, .load 1 false (.t 88), none⟩,
  ⟨some 90, .bin .eql (.t 89) (.c (.int .u16 (.ofNat 1))), none⟩,
  ⟨some 91, .mv (.t 90), none⟩,
  ⟨some 92, .mv (.t 1), some (91, false)⟩,
  ⟨some 93, .mv (.t 10), some (91, false)⟩,
  ⟨some 94, .nilchk (.t 93), some (91, false)⟩,
  ⟨some 95, .faddr 0 (.t 94), some (91, false)⟩,
  ⟨some 96, .load 1 false (.t 95), some (91, false)⟩,
  ⟨some 97, .bin .sub (.t 92) (.t 96), some (91, false)⟩,
  ⟨some 98, .mv (.t 10), some (91, false)⟩,
  ⟨some 99, .nilchk (.t 98), some (91, false)⟩,
  ⟨some 100, .faddr 2 (.t 99), some (91, false)⟩,
  ⟨some 101, .load 1 false (.t 100), some (91, false)⟩,
  ⟨some 102, .bin .rem (.t 97) (.t 101), some (91, false)⟩,
  ⟨some 103, .bin .eql (.t 102) (.c (.int .u16 (.ofNat 0))), some (91, false)⟩,
  ⟨some 104, .pick (.t 91) (.c (.bool true)) (.t 103), none⟩,
  ⟨some 4, .mv (.t 104), none⟩]
@[simp] def f166r19 : List ROper := [
  ⟨some 105, .mv (.t 1), none⟩,
  ⟨some 106, .mv (.t 10), none⟩,
  ⟨some 107, .nilchk (.t 106), none⟩,
  ⟨some 108, .faddr 0 (.t 107), none⟩,
  ⟨some 109, .load 1 false (.t 108), none⟩,
  ⟨some 110, .bin .lss (.t 105) (.t 109), none⟩]
@[simp] def f166r20 : List ROper := [
  ⟨some 111, .mv (.t 9), none⟩,
  ⟨some 8, .mv (.t 111), none⟩]
@[simp] def f166r21 : List ROper := [
  ⟨some 112, .mv (.t 9), none⟩,
  ⟨some 113, .bin .add (.t 112) (.c (.int .i64 (.ofNat 1))), none⟩,
  ⟨some 7, .mv (.t 113), none⟩]
def f166B1 : RC := (.seq (.seq (.region f166r14 [0, 1, 7, 8, 62]) (.cond (.t 62) .skip (.exit 2))) (.block 3 (.seq (.region f166r15 [0, 1, 7, 8, 9]) (.seq (.region f166r16 [0, 1, 7, 8, 9, 10]) (.seq (.seq (.region f166r17 [0, 1, 7, 8, 9, 10, 85]) (.cond (.t 85) (.seq (.dregion f166r18 [] [] [4]) .ret) .skip)) (.seq (.region f166r19 [0, 1, 7, 8, 9, 110]) (.cond (.t 110) (.region f166r20 [0, 1, 7, 8]) (.region f166r21 [0, 1, 7, 8]))))))))
def f166L1 : RC := .loop [0, 1, 7, 8] f166B1
@[simp] def f166r22 : List ROper := [
  ⟨some 4, .mv (.c (.bool false)), none⟩]
def f166 : RFunc := ⟨[.t 4], (.seq (.region f166r0 [0, 1]) (.seq (.seq (.region f166r1 [0, 1, 17]) (.cond (.t 17) (.seq (.seq (.region f166r2 [0, 1, 19, 20]) (.block 0 f166L0)) (.seq (.region f166r11 [4]) .ret)) .skip)) (.seq (.region f166r12 [0, 1, 7]) (.seq (.region f166r13 [0, 1, 7, 8]) (.seq (.block 2 f166L1) (.seq (.region f166r22 [4]) .ret)))))), true⟩

/-! unicode.is32 -/
@[simp] def f167r0 : List ROper := [
  ⟨some 4, .mv (.c (.bool false)), none⟩]
@[simp] def f167r1 : List ROper := [
  ⟨some 11, .mv (.t 0), none⟩,
  ⟨some 12, .len .slice (.t 11), none⟩,
  ⟨some 13, .bin .leq (.t 12) (.c (.int .i64 (.ofNat 18))), none⟩]
@[simp] def f167r2 : List ROper := [
  ⟨some 14, .mv (.t 0), none⟩,
  ⟨some 15, .len .slice (.t 14), none⟩,
  ⟨some 16, .mv (.c (.int .i64 (.ofNat 0))), none⟩]
@[simp] def f167r3 : List ROper := [
  ⟨some 17, .bin .lss (.t 16) (.t 15), none⟩]
@[simp] def f167r4 : List ROper := [
  ⟨some 18, .mv (.t 16), none⟩,
  ⟨some 5, .mv (.t 18), none⟩]
@[simp] def f167r5 : List ROper := [
  ⟨some 19, .mv (.t 0), none⟩,
  ⟨some 20, .mv (.t 5), none⟩,
  ⟨some 21, .iaddr 3 (.t 19) (.t 20), none⟩,
  ⟨some 6, .mv (.t 21), none⟩]
@[simp] def f167r6 : List ROper := [
  ⟨some 22, .mv (.t 1), none⟩,
  ⟨some 23, .mv (.t 6), none⟩,
  ⟨some 24, .nilchk (.t 23), none⟩,
  ⟨some 25, .faddr 0 (.t 24), none⟩,
  ⟨some 26, .load 1 false (.t 25), none⟩,
  ⟨some 27, .bin .lss (.t 22) (.t 26), none⟩]
@[simp] def f167r7 : List ROper := [
  ⟨some 4, .mv (.c (.bool false)), none⟩]
@[simp] def f167r8 : List ROper := [
  ⟨some 28, .mv (.t 1), none⟩,
  ⟨some 29, .mv (.t 6), none⟩,
  ⟨some 30, .nilchk (.t 29), none⟩,
  ⟨some 31, .faddr 1 (.t 30), none⟩,
  ⟨some 32, .load 1 false (.t 31), none⟩,
  ⟨some 33, .bin .leq (.t 28) (.t 32), none⟩]
@[simp] def f167r9 : List ROper := [
  ⟨some 34, .mv (.t 6), none⟩,
  ⟨some 35, .nilchk (.t 34), none⟩,
  ⟨some 36, .faddr 2 (.t 35), none⟩,
  ⟨some 37, .load 1 false (.t 36), none⟩,
  ⟨some 38, .bin .eql (.t 37) (.c (.int .u32 (.ofNat 1))), none⟩,
  ⟨some 39, .mv (.t 38), none⟩,
  ⟨some 40, .mv (.t 1), some (39, false)⟩,
  ⟨some 41, .mv (.t 6), some (39, false)⟩,
  ⟨some 42, .nilchk (.t 41), some (39, false)⟩,
  ⟨some 43, .faddr 0 (.t 42), some (39, false)⟩,
  ⟨some 44, .load 1 false (.t 43), some (39, false)⟩,
  ⟨some 45, .bin .sub (.t 40) (.t 44), some (39, false)⟩,
  ⟨some 46, .mv (.t 6), some (39, false)⟩,
  ⟨some 47, .nilchk (.t 46), some (39, false)⟩,
  ⟨some 48, .faddr 2 (.t 47), some (39, false)⟩,
  ⟨some 49, .load 1 false (.t 48), some (39, false)⟩,
  ⟨some 50, .bin .rem (.t 45) (.t 49), some (39, false)⟩,
  ⟨some 51, .bin .eql (.t 50) (.c (.int .u32 (.ofNat 0))), some (39, false)⟩,
  ⟨some 52, .pick (.t 39) (.c (.bool true)) (.t 51), none⟩,
  ⟨some 4, .mv (.t 52), none⟩]
@[simp] def f167r10 : List ROper := [
  ⟨some 53, .bin .add (.t 16) (.c (.int .i64 (.ofNat 1))), none⟩,
  ⟨some 16, .mv (.t 53), none⟩]
def f167B0 : RC := (.seq (.region f167r3 [0, 1, 15, 16, 17]) (.seq (.cond (.t 17) .skip (.exit 0)) (.seq (.block 1 (.seq (.region f167r4 [0, 1, 5, 15, 16]) (.seq (.region f167r5 [0, 1, 6, 15, 16]) (.seq (.seq (.region f167r6 [0, 1, 6, 15, 16, 27]) (.cond (.t 27) (.seq (.region f167r7 [4]) .ret) .skip)) (.seq (.region f167r8 [0, 1, 6, 15, 16, 33]) (.cond (.t 33) (.seq (.dregion f167r9 [] [] [4]) .ret) .skip)))))) (.region f167r10 [0, 1, 15, 16]))))
def f167L0 : RC := .loop [0, 1, 15, 16] f167B0
@[simp] def f167r11 : List ROper := [
  ⟨some 4, .mv (.c (.bool false)), none⟩]
@[simp] def f167r12 : List ROper := [
  ⟨some 7, .mv (.c (.int .i64 (.ofNat 0))), none⟩]
@[simp] def f167r13 : List ROper := [
  ⟨some 54, .mv (.t 0), none⟩,
  ⟨some 55, .len .slice (.t 54), none⟩,
  ⟨some 8, .mv (.t 55), none⟩]
@[simp] def f167r14 : List ROper := [
  ⟨some 56, .mv (.t 7), none⟩,
  ⟨some 57, .mv (.t 8), none⟩,
  ⟨some 58, .bin .lss (.t 56) (.t 57), none⟩]
@[simp] def f167r15 : List ROper := [
  ⟨some 59, .mv (.t 7), none⟩,
  ⟨some 60, .mv (.t 8), none⟩,
  ⟨some 61, .bin .add (.t 59) (.t 60), none⟩,
  ⟨some 62, .i2i .u64 (.t 61), none⟩,
  ⟨some 63, .bin .shr (.t 62) (.c (.int .u64 (.ofNat 1))), none⟩,
  ⟨some 64, .i2i .i64 (.t 63), none⟩,
  ⟨some 9, .mv (.t 64), none⟩]
@[simp] def f167r16 : List ROper := [
  ⟨some 65, .mv (.t 0), none⟩,
  ⟨some 66, .mv (.t 9), none⟩,
  ⟨some 67, .iaddr 3 (.t 65) (.t 66), none⟩,
  ⟨some 68, .load 3 true (.t 67), none⟩,
  ⟨some 10, .alloc [(.int .u32 (.ofNat 0)), (.int .u32 (.ofNat 0)), (.int .u32 (.ofNat 0))], none⟩,
  ⟨none, .store 3 (.t 10) (.t 68), none⟩]
@[simp] def f167r17 : List ROper := [
  ⟨some 69, .faddr 0 (.t 10), none⟩,
  ⟨some 70, .load 1 false (.t 69), none⟩,
  ⟨some 71, .mv (.t 1), none⟩,
  ⟨some 72, .bin .leq (.t 70) (.t 71), none⟩,
  ⟨some 73, .mv (.t 72), none⟩,
  ⟨some 74, .mv (.t 1), some (73, true)⟩,
  ⟨some 75, .faddr 1 (.t 10), some (73, true)⟩,
  ⟨some 76, .load 1 false (.t 75), some (73, true)⟩,
  ⟨some 77, .bin .leq (.t 74) (.t 76), some (73, true)⟩,
  ⟨some 78, .pick (.t 73) (.t 77) (.c (.bool false)), none⟩]
@[simp] def f167r18 : List ROper := [
  ⟨some 79, .faddr 2 (.t 10), none⟩,
  ⟨some 80, .load 1 false (.t 79), none⟩,
  ⟨some 81, .bin .eql (.t 80) (.c (.int .u32 (.ofNat 1))), none⟩,
  ⟨some 82, .mv (.t 81), none⟩,
  ⟨some 83, .mv (.t 1), some (82, false)⟩,
  ⟨some 84, .faddr 0 (.t 10), some (82, false)⟩,
  ⟨some 85, .load 1 false (.t 84), some (82, false)⟩,
  ⟨some 86, .bin .sub (.t 83) (.t 85), some (82, false)⟩,
  ⟨some 87, .faddr 2 (.t 10), some (82, false)⟩,
  ⟨some 88, .load 1 false (.t 87), some (82, false)⟩,
  ⟨some 89, .bin .rem (.t 86) (.t 88), some (82, false)⟩,
  ⟨some 90, .bin .eql (.t 89) (.c (.int .u32 (.ofNat 0))), some (82, false)⟩,
  ⟨some 91, .pick (.t 82) (.c (.bool true)) (.t 90), none⟩,
  ⟨some 4, .mv (.t 91), none⟩]
@[simp] def f167r19 : List ROper := [
  ⟨some 92, .mv (.t 1), none⟩,
  ⟨some 93, .faddr 0 (.t 10), none⟩,
  ⟨some 94, .load 1 false (.t 93), none⟩,
  ⟨some 95, .bin .lss (.t 92) (.t 94), none⟩]
@[simp] def f167r20 : List ROper := [
  ⟨some 96, .mv (.t 9), none⟩,
  ⟨some 8, .mv (.t 96), none⟩]
@[simp] def f167r21 : List ROper := [
  ⟨some 97, .mv (.t 9), none⟩,
  ⟨some 98, .bin .add (.t 97) (.c (.int .i64 (.ofNat 1))), none⟩,
  ⟨some 7, .mv (.t 98), none⟩]
def f167B1 : RC := (.seq (.seq (.region f167r14 [0, 1, 7, 8, 58]) (.cond (.t 58) .skip (.exit 2))) (.block 3 (.seq (.region f167r15 [0, 1, 7, 8, 9]) (.seq (.region f167r16 [0, 1, 7, 8, 9, 10]) (.seq (.seq (.region f167r17 [0, 1, 7, 8, 9, 10, 78]) (.cond (.t 78) (.seq (.region f167r18 [4]) .ret) .skip)) (.seq (.region f167r19 [0, 1, 7, 8, 9, 95]) (.cond (.t 95) (.region f167r20 [0, 1, 7, 8]) (.region f167r21 [0, 1, 7, 8]))))))))
def f167L1 : RC := .loop [0, 1, 7, 8] f167B1
@[simp] def f167r22 : List ROper := [
  ⟨some 4, .mv (.c (.bool false)), none⟩]
def f167 : RFunc := ⟨[.t 4], (.seq (.region f167r0 [0, 1]) (.seq (.seq (.region f167r1 [0, 1, 13]) (.cond (.t 13) (.seq (.seq (.region f167r2 [0, 1, 15, 16]) (.block 0 f167L0)) (.seq (.region f167r11 [4]) .ret)) .skip)) (.seq (.region f167r12 [0, 1, 7]) (.seq (.region f167r13 [0, 1, 7, 8]) (.seq (.block 2 f167L1) (.seq (.region f167r22 [4]) .ret)))))), true⟩

/-! quire/quirelaw09.HyphTells -/
@[simp] def f176r0 : List ROper := [
  ⟨some 6, .mv (.c (.bool false)), none⟩]
@[simp] def f176r1 : List ROper := [
  ⟨some 21, .mv (.t 0), none⟩,
  ⟨some 22, .call 181 [(.t 21)], none⟩,
  ⟨some 23, .mv (.t 22), none⟩,
  ⟨some 24, .mv (.t 1), some (23, false)⟩,
  ⟨some 25, .call 181 [(.t 24)], some (23, false)⟩,
  ⟨some 26, .pick (.t 23) (.c (.bool true)) (.t 25), none⟩]
@[simp] def f176r2 : List ROper := [
  ⟨some 6, .mv (.c (.bool true)), none⟩]
@[simp] def f176r3 : List ROper := [
  ⟨some 27, .mv (.t 0), none⟩,
  ⟨some 28, .call 182 [(.t 27)], none⟩,
  ⟨some 29, .mv (.t 1), none⟩,
  ⟨some 30, .call 182 [(.t 29)], none⟩,
  ⟨some 7, .mv (.t 28), none⟩,
  ⟨some 8, .mv (.t 30), none⟩]
@[simp] def f176r4 : List ROper := [
  ⟨some 32, .mv (.t 7), none⟩,
  ⟨some 33, .mv (.t 8), none⟩,
  ⟨some 34, .call 147 [(.t 32), (.t 33)], none⟩,
  ⟨some 31, .mv (.t 34), none⟩,
  ⟨some 35, .extract (.t 31) 0, none⟩,
  ⟨some 36, .extract (.t 31) 1, none⟩,
  ⟨some 9, .mv (.t 35), none⟩,
  ⟨some 10, .mv (.t 36), none⟩]
@[simp] def f176r5 : List ROper := [
  ⟨some 38, .mv (.t 0), none⟩,
  ⟨some 39, .mv (.t 1), none⟩,
  ⟨some 40, .call 183 [(.t 38), (.t 39)], none⟩,
  ⟨some 37, .mv (.t 40), none⟩,
  ⟨some 41, .extract (.t 37) 0, none⟩,
  ⟨some 42, .extract (.t 37) 1, none⟩,
  ⟨some 11, .mv (.t 41), none⟩,
  ⟨some 12, .mv (.t 42), none⟩]
@[simp] def f176r6 : List ROper := [
  ⟨some 43, .mv (.t 10), none⟩,
  ⟨some 44, .mv (.t 12), none⟩,
  ⟨some 45, .bin .neq (.t 43) (.t 44), none⟩,
  ⟨some 46, .mv (.t 45), none⟩,
  ⟨some 47, .mv (.t 9), some (46, false)⟩,
  ⟨some 48, .eq .ptr false (.t 47) (.c .nilp), some (46, false)⟩,
  ⟨some 49, .mv (.t 11), some (46, false)⟩,
  ⟨some 50, .eq .ptr false (.t 49) (.c .nilp), some (46, false)⟩,
  ⟨some 51, .eq .bool true (.t 48) (.t 50), some (46, false)⟩,
  ⟨some 52, .pick (.t 46) (.c (.bool true)) (.t 51), none⟩,
  ⟨some 53, .mv (.t 52), none⟩,
  ⟨some 54, .mv (.t 7), some (53, false)⟩,
  ⟨some 55, .mv (.t 0), some (53, false)⟩,
  ⟨some 56, .call 184 [(.t 54), (.t 55)], some (53, false)⟩,
  ⟨some 57, .un .not (.t 56), some (53, false)⟩,
  ⟨some 58, .pick (.t 53) (.c (.bool true)) (.t 57), none⟩,
  ⟨some 59, .mv (.t 58), none⟩,
  ⟨some 60, .mv (.t 8), some (59, false)⟩,
  ⟨some 61, .mv (.t 1), some (59, false)⟩,
  ⟨some 62, .call 184 [(.t 60), (.t 61)], some (59, false)⟩,
  ⟨some 63, .un .not (.t 62), some (59, false)⟩,
  ⟨some 64, .pick (.t 59) (.c (.bool true)) (.t 63), none⟩]
@[simp] def f176r7 : List ROper := [
  ⟨some 6, .mv (.c (.bool false)), none⟩]
@[simp] def f176r8 : List ROper := [
  ⟨some 65, .mv (.t 7), none⟩,
  ⟨some 66, .call 185 [(.t 65)], none⟩]
@[simp] def f176r9 : List ROper := [
  ⟨some 67, .mv (.t 8), none⟩,
  ⟨some 68, .call 185 [(.t 67)], none⟩]
@[simp] def f176r10 : List ROper := [
  ⟨some 69, .mv (.t 11), none⟩,
  ⟨some 70, .eq .ptr true (.t 69) (.c .nilp), none⟩]
@[simp] def f176r11 : List ROper := [
  ⟨some 72, .mv (.t 9), none⟩,
  ⟨some 73, .mv (.t 2), none⟩,
  ⟨some 74, .call 144 [(.t 72), (.t 73)], none⟩,
  ⟨some 71, .mv (.t 74), none⟩,
  ⟨some 75, .extract (.t 71) 0, none⟩,
  ⟨some 76, .extract (.t 71) 1, none⟩,
  ⟨some 13, .mv (.t 75), none⟩,
  ⟨some 14, .mv (.t 76), none⟩]
@[simp] def f176r12 : List ROper := [
  ⟨some 78, .mv (.t 11), none⟩,
  ⟨some 79, .mv (.t 2), none⟩,
  ⟨some 80, .call 186 [(.t 78), (.t 79)], none⟩,
  ⟨some 77, .mv (.t 80), none⟩,
  ⟨some 81, .extract (.t 77) 0, none⟩,
  ⟨some 82, .extract (.t 77) 1, none⟩,
  ⟨some 15, .mv (.t 81), none⟩,
  ⟨some 16, .mv (.t 82), none⟩]
@[simp] def f176r13 : List ROper := [
  ⟨some 83, .mv (.t 13), none⟩,
  ⟨some 84, .mv (.t 15), none⟩,
  ⟨some 85, .call 187 [(.t 83), (.t 84)], none⟩,
  ⟨some 86, .un .not (.t 85), none⟩,
  ⟨some 87, .mv (.t 86), none⟩,
  ⟨some 88, .mv (.t 14), some (87, false)⟩,
  ⟨some 89, .mv (.t 16), some (87, false)⟩,
  ⟨some 90, .bin .neq (.t 88) (.t 89), some (87, false)⟩,
  ⟨some 91, .pick (.t 87) (.c (.bool true)) (.t 90), none⟩]
@[simp] def f176r14 : List ROper := [
  ⟨some 6, .mv (.c (.bool false)), none⟩]
@[simp] def f176r15 : List ROper := [
  ⟨some 93, .call 143 [], none⟩,
  ⟨some 94, .mv (.t 2), none⟩,
  ⟨some 95, .call 144 [(.t 93), (.t 94)], none⟩,
  ⟨some 92, .mv (.t 95), none⟩,
  ⟨some 96, .extract (.t 92) 0, none⟩,
  ⟨some 97, .extract (.t 92) 1, none⟩,
  ⟨some 17, .mv (.t 96), none⟩,
  ⟨some 18, .mv (.t 97), none⟩]
@[simp] def f176r16 : List ROper := [
  ⟨some 99, .call 188 [], none⟩,
  ⟨some 100, .mv (.t 2), none⟩,
  ⟨some 101, .call 186 [(.t 99), (.t 100)], none⟩,
  ⟨some 98, .mv (.t 101), none⟩,
  ⟨some 102, .extract (.t 98) 0, none⟩,
  ⟨some 103, .extract (.t 98) 1, none⟩,
  ⟨some 19, .mv (.t 102), none⟩,
  ⟨some 20, .mv (.t 103), none⟩]
@[simp] def f176r17 : List ROper := [
  ⟨some 104, .mv (.t 17), none⟩,
  ⟨some 105, .mv (.t 19), none⟩,
  ⟨some 106, .call 187 [(.t 104), (.t 105)], none⟩,
  ⟨some 107, .mv (.t 106), none⟩,
  ⟨some 108, .mv (.t 18), some (107, true)⟩,
  ⟨some 109, .mv (.t 20), some (107, true)⟩,
  ⟨some 110, .bin .eql (.t 108) (.t 109), some (107, true)⟩,
  ⟨some 111, .pick (.t 107) (.t 110) (.c (.bool false)), none⟩,
  ⟨some 112, .mv (.t 111), none⟩,
  ⟨some 113, .call 189 [], some (112, true)⟩,
  ⟨some 114, .pick (.t 112) (.t 113) (.c (.bool false)), none⟩,
  ⟨some 6, .mv (.t 114), none⟩]
def f176 : RFunc := ⟨[.t 6], (.seq (.region f176r0 [0, 1, 2]) (.seq (.seq (.region f176r1 [0, 1, 2, 26]) (.cond (.t 26) (.seq (.region f176r2 [6]) .ret) .skip)) (.seq (.region f176r3 [0, 1, 2, 7, 8]) (.seq (.region f176r4 [0, 1, 2, 7, 8, 9, 10]) (.seq (.region f176r5 [0, 1, 2, 7, 8, 9, 10, 11, 12]) (.seq (.seq (.region f176r6 [2, 7, 8, 9, 11, 64]) (.cond (.t 64) (.seq (.region f176r7 [6]) .ret) .skip)) (.seq (.region f176r8 [2, 8, 9, 11]) (.seq (.region f176r9 [2, 9, 11]) (.seq (.seq (.region f176r10 [2, 9, 11, 70]) (.cond (.t 70) (.seq (.region f176r11 [2, 11, 13, 14]) (.seq (.region f176r12 [2, 13, 14, 15, 16]) (.seq (.region f176r13 [2, 91]) (.cond (.t 91) (.seq (.region f176r14 [6]) .ret) .skip)))) .skip)) (.seq (.region f176r15 [2, 17, 18]) (.seq (.region f176r16 [17, 18, 19, 20]) (.seq (.region f176r17 [6]) .ret)))))))))))), true⟩

/-! quire/quirelaw09.HyphKnown -/
@[simp] def f178r0 : List ROper := [
  ⟨some 0, .mv (.c (.bool false)), none⟩]
@[simp] def f178r1 : List ROper := [
  ⟨some 6, .call 189 [], none⟩,
  ⟨some 7, .mv (.t 6), none⟩,
  ⟨some 8, .lit 1 false [(.int .i64 (.ofNat 0))] 1 [(0, (.c (.int .i64 (.ofNat 2))))], some (7, true)⟩,
  ⟨some 9, .call 190 [(.c (.str [84, 65, 66, 76, 69])), (.t 8)], some (7, true)⟩,
  ⟨some 10, .pick (.t 7) (.t 9) (.c (.bool false)), none⟩,
  ⟨some 11, .mv (.t 10), none⟩,
  ⟨some 12, .call 190 [(.c (.str [97])), (.c (.list 0 0 .no false []))], some (11, true)⟩,
  ⟨some 13, .pick (.t 11) (.t 12) (.c (.bool false)), none⟩,
  ⟨some 14, .mv (.t 13), none⟩,
  ⟨some 15, .lit 1 false [(.int .i64 (.ofNat 0))] 1 [(0, (.c (.int .i64 (.ofNat 2))))], some (14, true)⟩,
  ⟨some 16, .call 190 [(.c (.str [108, 97, 116, 101, 110, 97])), (.t 15)], some (14, true)⟩,
  ⟨some 17, .pick (.t 14) (.t 16) (.c (.bool false)), none⟩,
  ⟨some 1, .mv (.t 17), none⟩]
@[simp] def f178r2 : List ROper := [
  ⟨some 18, .lit 1 false [(.str [])] 1 [(0, (.c (.str [49, 98])))], none⟩,
  ⟨some 19, .lit 1 false [(.int .i64 (.ofNat 0))] 2 [(0, (.c (.int .i64 (.ofNat 2)))), (1, (.c (.int .i64 (.ofNat 3))))], none⟩,
  ⟨some 20, .call 191 [(.t 18), (.c (.list 0 0 .no false [])), (.c (.str [97, 98, 98, 98, 98, 98])), (.t 19)], none⟩,
  ⟨some 21, .mv (.t 20), none⟩,
  ⟨some 22, .lit 1 false [(.str [])] 2 [(0, (.c (.str [49, 98]))), (1, (.c (.str [98, 50, 98])))], some (21, true)⟩,
  ⟨some 23, .call 191 [(.t 22), (.c (.list 0 0 .no false [])), (.c (.str [97, 98, 98, 98, 98, 98])), (.c (.list 0 0 .no false []))], some (21, true)⟩,
  ⟨some 24, .pick (.t 21) (.t 23) (.c (.bool false)), none⟩,
  ⟨some 25, .mv (.t 24), none⟩,
  ⟨some 26, .lit 1 false [(.str [])] 1 [(0, (.c (.str [97, 45, 98, 99, 100])))], some (25, true)⟩,
  ⟨some 27, .lit 1 false [(.int .i64 (.ofNat 0))] 1 [(0, (.c (.int .i64 (.ofNat 1))))], some (25, true)⟩,
  ⟨some 28, .call 191 [(.c (.list 0 0 .no false [])), (.t 26), (.c (.str [97, 98, 99, 100])), (.t 27)], some (25, true)⟩,
  ⟨some 29, .pick (.t 25) (.t 28) (.c (.bool false)), none⟩,
  ⟨some 2, .mv (.t 29), none⟩]
@[simp] def f178r3 : List ROper := [
  ⟨some 30, .lit 1 false [(.str [])] 2 [(0, (.c (.str [46, 97, 98, 49, 99]))), (1, (.c (.str [46, 97, 98, 50, 99, 100])))], none⟩,
  ⟨some 3, .mv (.t 30), none⟩]
@[simp] def f178r4 : List ROper := [
  ⟨some 31, .mv (.t 3), none⟩,
  ⟨some 32, .call 191 [(.t 31), (.c (.list 0 0 .no false [])), (.c (.str [120, 97, 98, 99, 100, 101])), (.c (.list 0 0 .no false []))], none⟩,
  ⟨some 33, .mv (.t 32), none⟩,
  ⟨some 34, .mv (.t 3), some (33, true)⟩,
  ⟨some 35, .lit 1 false [(.int .i64 (.ofNat 0))] 1 [(0, (.c (.int .i64 (.ofNat 2))))], some (33, true)⟩,
  ⟨some 36, .call 191 [(.t 34), (.c (.list 0 0 .no false [])), (.c (.str [97, 98, 99, 120, 121, 122])), (.t 35)], some (33, true)⟩,
  ⟨some 37, .pick (.t 33) (.t 36) (.c (.bool false)), none⟩,
  ⟨some 38, .mv (.t 37), none⟩,
  ⟨some 39, .mv (.t 3), some (38, true)⟩,
  ⟨some 40, .call 191 [(.t 39), (.c (.list 0 0 .no false [])), (.c (.str [97, 98, 99, 100, 101, 102])), (.c (.list 0 0 .no false []))], some (38, true)⟩,
  ⟨some 41, .pick (.t 38) (.t 40) (.c (.bool false)), none⟩,
  ⟨some 4, .mv (.t 41), none⟩]
@[simp] def f178r5 : List ROper := [
  ⟨some 42, .lit 1 false [(.str [])] 1 [(0, (.c (.str [49])))], none⟩,
  ⟨some 43, .call 192 [(.t 42), (.c (.list 0 0 .no false [])), (.c (.int .i64 (.ofNat 4)))], none⟩,
  ⟨some 44, .mv (.t 43), none⟩,
  ⟨some 45, .lit 1 false [(.str [])] 1 [(0, (.c (.str [49, 49, 97])))], some (44, true)⟩,
  ⟨some 46, .call 192 [(.t 45), (.c (.list 0 0 .no false [])), (.c (.int .i64 (.ofNat 4)))], some (44, true)⟩,
  ⟨some 47, .pick (.t 44) (.t 46) (.c (.bool false)), none⟩,
  ⟨some 48, .mv (.t 47), none⟩,
  ⟨some 49, .lit 1 false [(.str [])] 1 [(0, (.c (.str [97, 46, 98])))], some (48, true)⟩,
  ⟨some 50, .call 192 [(.t 49), (.c (.list 0 0 .no false [])), (.c (.int .i64 (.ofNat 4)))], some (48, true)⟩,
  ⟨some 51, .pick (.t 48) (.t 50) (.c (.bool false)), none⟩,
  ⟨some 52, .mv (.t 51), none⟩,
  ⟨some 53, .lit 1 false [(.str [])] 1 [(0, (.c (.str [97, 32, 49])))], some (52, true)⟩,
  ⟨some 54, .call 192 [(.t 53), (.c (.list 0 0 .no false [])), (.c (.int .i64 (.ofNat 4)))], some (52, true)⟩,
  ⟨some 55, .pick (.t 52) (.t 54) (.c (.bool false)), none⟩,
  ⟨some 5, .mv (.t 55), none⟩]
@[simp] def f178r6 : List ROper := [
  ⟨some 56, .mv (.t 1), none⟩,
  ⟨some 57, .mv (.t 56), none⟩,
  ⟨some 58, .mv (.t 2), some (57, true)⟩,
  ⟨some 59, .pick (.t 57) (.t 58) (.c (.bool false)), none⟩,
  ⟨some 60, .mv (.t 59), none⟩,
  ⟨some 61, .mv (.t 4), some (60, true)⟩,
  ⟨some 62, .pick (.t 60) (.t 61) (.c (.bool false)), none⟩,
  ⟨some 63, .mv (.t 62), none⟩,
  ⟨some 64, .mv (.t 5), some (63, true)⟩,
  ⟨some 65, .pick (.t 63) (.t 64) (.c (.bool false)), none⟩,
  ⟨some 66, .mv (.t 65), none⟩,
  ⟨some 67, .lit 1 false [(.str [])] 2 [(0, (.c (.str [97, 98, 45, 99]))), (1, (.c (.str [97, 98, 99])))], some (66, true)⟩,
  ⟨some 68, .call 192 [(.c (.list 0 0 .no false [])), (.t 67), (.c (.int .i64 (.ofNat 7)))], some (66, true)⟩,
  ⟨some 69, .pick (.t 66) (.t 68) (.c (.bool false)), none⟩,
  ⟨some 70, .mv (.t 69), none⟩,
  ⟨some 71, .lit 1 false [(.str [])] 1 [(0, (.c (.str [45, 97, 98])))], some (70, true)⟩,
  ⟨some 72, .call 192 [(.c (.list 0 0 .no false [])), (.t 71), (.c (.int .i64 (.ofNat 4)))], some (70, true)⟩,
  ⟨some 73, .pick (.t 70) (.t 72) (.c (.bool false)), none⟩,
  ⟨some 0, .mv (.t 73), none⟩]
def f178 : RFunc := ⟨[.t 0], (.seq (.region f178r0 []) (.seq (.region f178r1 [1]) (.seq (.region f178r2 [1, 2]) (.seq (.region f178r3 [1, 2, 3]) (.seq (.region f178r4 [1, 2, 4]) (.seq (.region f178r5 [1, 2, 4, 5]) (.seq (.region f178r6 [0]) .ret))))))), true⟩

/-! quire/quirelaw09.HyphFolds -/
@[simp] def f179r0 : List ROper := [
  ⟨some 8, .mv (.c (.bool false)), none⟩]
@[simp] def f179r1 : List ROper := [
  ⟨some 25, .call 178 [], none⟩,
  ⟨some 9, .mv (.t 25), none⟩]
@[simp] def f179r2 : List ROper := [
  ⟨some 26, .mv (.t 0), none⟩,
  ⟨some 27, .call 181 [(.t 26)], none⟩,
  ⟨some 28, .mv (.t 27), none⟩,
  ⟨some 29, .mv (.t 1), some (28, false)⟩,
  ⟨some 30, .call 181 [(.t 29)], some (28, false)⟩,
  ⟨some 31, .pick (.t 28) (.c (.bool true)) (.t 30), none⟩]
@[simp] def f179r3 : List ROper := [
  ⟨some 32, .mv (.t 9), none⟩,
  ⟨some 8, .mv (.t 32), none⟩]
@[simp] def f179r4 : List ROper := [
  ⟨some 10, .mv (.c (.list 0 0 .no false [])), none⟩]
@[simp] def f179r5 : List ROper := [
  ⟨some 33, .mv (.t 0), none⟩,
  ⟨some 34, .len .slice (.t 33), none⟩,
  ⟨some 35, .bin .sub (.t 34) (.c (.int .i64 (.ofNat 1))), none⟩,
  ⟨some 11, .mv (.t 35), none⟩]
@[simp] def f179r6 : List ROper := [
  ⟨some 36, .mv (.t 11), none⟩,
  ⟨some 37, .bin .geq (.t 36) (.c (.int .i64 (.ofNat 0))), none⟩]
@[simp] def f179r7 : List ROper := [
  ⟨some 40, .mv (.t 10), none⟩,
  ⟨some 41, .mv (.t 0), none⟩,
  ⟨some 42, .mv (.t 11), none⟩,
  ⟨some 43, .iaddr 1 (.t 41) (.t 42), none⟩,
  ⟨some 44, .load 1 false (.t 43), none⟩,
  ⟨some 45, .lit 1 false [(.str [])] 1 [(0, (.t 44))], none⟩,
  ⟨some 46, .append 1 false 16 (.t 40) (.t 45), none⟩,
  ⟨some 10, .mv (.t 46), none⟩]
@[simp] def f179r8 : List ROper := [
  ⟨some 38, .mv (.t 11), none⟩,
  ⟨some 39, .bin .sub (.t 38) (.c (.int .i64 (.ofNat 1))), none⟩,
  ⟨some 11, .mv (.t 39), none⟩]
def f179B0 : RC := (.seq (.seq (.region f179r6 [0, 1, 2, 3, 9, 10, 11, 37]) (.cond (.t 37) .skip (.exit 0))) (.seq (.block 1 (.region f179r7 [0, 1, 2, 3, 9, 10, 11])) (.region f179r8 [0, 1, 2, 3, 9, 10, 11])))
def f179L0 : RC := .loop [0, 1, 2, 3, 9, 10, 11] f179B0
@[simp] def f179r9 : List ROper := [
  ⟨some 48, .mv (.t 0), none⟩,
  ⟨some 49, .mv (.t 1), none⟩,
  ⟨some 50, .call 147 [(.t 48), (.t 49)], none⟩,
  ⟨some 47, .mv (.t 50), none⟩,
  ⟨some 51, .extract (.t 47) 0, none⟩,
  ⟨some 52, .extract (.t 47) 1, none⟩,
  ⟨some 12, .mv (.t 51), none⟩,
  ⟨some 13, .mv (.t 52), none⟩]
@[simp] def f179r10 : List ROper := [
  ⟨some 54, .mv (.t 10), none⟩,
  ⟨some 55, .mv (.t 1), none⟩,
  ⟨some 56, .call 147 [(.t 54), (.t 55)], none⟩,
  ⟨some 53, .mv (.t 56), none⟩,
  ⟨some 57, .extract (.t 53) 0, none⟩,
  ⟨some 58, .extract (.t 53) 1, none⟩,
  ⟨some 14, .mv (.t 57), none⟩,
  ⟨some 15, .mv (.t 58), none⟩]
@[simp] def f179r11 : List ROper := [
  ⟨some 59, .mv (.t 12), none⟩,
  ⟨some 60, .eq .ptr false (.t 59) (.c .nilp), none⟩,
  ⟨some 61, .mv (.t 60), none⟩,
  ⟨some 62, .mv (.t 14), some (61, false)⟩,
  ⟨some 63, .eq .ptr false (.t 62) (.c .nilp), some (61, false)⟩,
  ⟨some 64, .pick (.t 61) (.c (.bool true)) (.t 63), none⟩]
@[simp] def f179r12 : List ROper := [
  ⟨some 65, .mv (.t 9), none⟩,
  ⟨some 66, .mv (.t 65), none⟩,
  ⟨some 67, .mv (.t 13), some (66, true)⟩,
  ⟨some 68, .mv (.t 15), some (66, true)⟩,
  ⟨some 69, .bin .eql (.t 67) (.t 68), some (66, true)⟩,
  ⟨some 70, .pick (.t 66) (.t 69) (.c (.bool false)), none⟩,
  ⟨some 71, .mv (.t 70), none⟩,
  ⟨some 72, .mv (.t 13), some (71, true)⟩,
  ⟨some 73, .bin .neq (.t 72) (.c (.int .i64 (.ofNat 0))), some (71, true)⟩,
  ⟨some 74, .pick (.t 71) (.t 73) (.c (.bool false)), none⟩,
  ⟨some 8, .mv (.t 74), none⟩]
@[simp] def f179r13 : List ROper := [
  ⟨some 76, .mv (.t 12), none⟩,
  ⟨some 77, .mv (.t 2), none⟩,
  ⟨some 78, .call 144 [(.t 76), (.t 77)], none⟩,
  ⟨some 75, .mv (.t 78), none⟩,
  ⟨some 79, .extract (.t 75) 0, none⟩,
  ⟨some 80, .extract (.t 75) 1, none⟩,
  ⟨some 16, .mv (.t 79), none⟩,
  ⟨some 17, .mv (.t 80), none⟩]
@[simp] def f179r14 : List ROper := [
  ⟨some 82, .mv (.t 14), none⟩,
  ⟨some 83, .mv (.t 2), none⟩,
  ⟨some 84, .mv (.t 3), none⟩,
  ⟨some 85, .call 193 [(.t 83), (.t 84)], none⟩,
  ⟨some 86, .call 144 [(.t 82), (.t 85)], none⟩,
  ⟨some 81, .mv (.t 86), none⟩,
  ⟨some 87, .extract (.t 81) 0, none⟩,
  ⟨some 88, .extract (.t 81) 1, none⟩,
  ⟨some 18, .mv (.t 87), none⟩,
  ⟨some 19, .mv (.t 88), none⟩]
@[simp] def f179r15 : List ROper := [
  ⟨some 89, .mv (.t 16), none⟩,
  ⟨some 90, .mv (.t 18), none⟩,
  ⟨some 91, .call 187 [(.t 89), (.t 90)], none⟩,
  ⟨some 92, .un .not (.t 91), none⟩,
  ⟨some 93, .mv (.t 92), none⟩,
  ⟨some 94, .mv (.t 17), some (93, false)⟩,
  ⟨some 95, .mv (.t 19), some (93, false)⟩,
  ⟨some 96, .bin .neq (.t 94) (.t 95), some (93, false)⟩,
  ⟨some 97, .pick (.t 93) (.c (.bool true)) (.t 96), none⟩]
@[simp] def f179r16 : List ROper := [
  ⟨some 8, .mv (.c (.bool false)), none⟩]
@[simp] def f179r17 : List ROper := [
  ⟨some 99, .mv (.t 2), none⟩,
  ⟨some 100, .call 194 [(.t 99)], none⟩,
  ⟨some 98, .mv (.t 100), none⟩,
  ⟨some 101, .extract (.t 98) 0, none⟩,
  ⟨some 102, .extract (.t 98) 1, none⟩,
  ⟨some 20, .mv (.t 101), none⟩,
  ⟨some 21, .mv (.t 102), none⟩]
@[simp] def f179r18 : List ROper := [
  ⟨some 22, .mv (.c (.int .i64 (.ofNat 0))), none⟩]
@[simp] def f179r19 : List ROper := [
  ⟨some 103, .mv (.t 21), none⟩,
  ⟨some 104, .mv (.t 103), none⟩,
  ⟨some 105, .mv (.t 22), some (104, true)⟩,
  ⟨some 106, .mv (.t 1), some (104, true)⟩,
  ⟨some 107, .len .slice (.t 106), some (104, true)⟩,
  ⟨some 108, .bin .lss (.t 105) (.t 107), some (104, true)⟩,
  ⟨some 109, .pick (.t 104) (.t 108) (.c (.bool false)), none⟩]
@[simp] def f179r20 : List ROper := [
  ⟨some 112, .mv (.t 1), none⟩,
  ⟨some 113, .mv (.t 22), none⟩,
  ⟨some 114, .iaddr 1 (.t 112) (.t 113), none⟩,
  ⟨some 115, .load 1 false (.t 114), none⟩,
  ⟨some 116, .call 195 [(.t 115)], none⟩,
  ⟨some 117, .mv (.t 20), none⟩,
  ⟨some 118, .bin .eql (.t 116) (.t 117), none⟩]
@[simp] def f179r21 : List ROper := [
  ⟨some 119, .mv (.t 9), none⟩,
  ⟨some 8, .mv (.t 119), none⟩]
@[simp] def f179r22 : List ROper := [
  ⟨some 110, .mv (.t 22), none⟩,
  ⟨some 111, .bin .add (.t 110) (.c (.int .i64 (.ofNat 1))), none⟩,
  ⟨some 22, .mv (.t 111), none⟩]
def f179B1 : RC := (.seq (.seq (.region f179r19 [1, 2, 9, 16, 20, 21, 22, 109]) (.cond (.t 109) .skip (.exit 2))) (.seq (.block 3 (.seq (.region f179r20 [1, 2, 9, 16, 20, 21, 22, 118]) (.cond (.t 118) (.seq (.region f179r21 [8]) .ret) .skip))) (.region f179r22 [1, 2, 9, 16, 20, 21, 22])))
def f179L1 : RC := .loop [1, 2, 9, 16, 20, 21, 22] f179B1
@[simp] def f179r23 : List ROper := [
  ⟨some 23, .mv (.c (.int .i64 (.ofNat 1))), none⟩]
@[simp] def f179r24 : List ROper := [
  ⟨some 24, .mv (.c (.int .i64 (.ofNat 0))), none⟩]
@[simp] def f179r25 : List ROper := [
  ⟨some 120, .mv (.t 24), none⟩,
  ⟨some 121, .mv (.t 16), none⟩,
  ⟨some 122, .len .slice (.t 121), none⟩,
  ⟨some 123, .bin .lss (.t 120) (.t 122), none⟩]
@[simp] def f179r26 : List ROper := [
  ⟨some 126, .mv (.t 16), none⟩,
  ⟨some 127, .mv (.t 24), none⟩,
  ⟨some 128, .iaddr 1 (.t 126) (.t 127), none⟩,
  ⟨some 129, .load 1 false (.t 128), none⟩,
  ⟨some 130, .mv (.t 23), none⟩,
  ⟨some 131, .bin .leq (.t 129) (.t 130), none⟩,
  ⟨some 132, .mv (.t 131), none⟩,
  ⟨some 133, .mv (.t 16), some (132, false)⟩,
  ⟨some 134, .mv (.t 24), some (132, false)⟩,
  ⟨some 135, .iaddr 1 (.t 133) (.t 134), some (132, false)⟩,
  ⟨some 136, .load 1 false (.t 135), some (132, false)⟩,
  ⟨some 137, .bin .add (.t 136) (.c (.int .i64 (.ofNat 3))), some (132, false)⟩,
  ⟨some 138, .mv (.t 2), some (132, false)⟩,
  ⟨some 139, .len .str (.t 138), some (132, false)⟩,
  ⟨some 140, .bin .gtr (.t 137) (.t 139), some (132, false)⟩,
  ⟨some 141, .pick (.t 132) (.c (.bool true)) (.t 140), none⟩]
@[simp] def f179r27 : List ROper := [
  ⟨some 8, .mv (.c (.bool false)), none⟩]
@[simp] def f179r28 : List ROper := [
  ⟨some 142, .mv (.t 16), none⟩,
  ⟨some 143, .mv (.t 24), none⟩,
  ⟨some 144, .iaddr 1 (.t 142) (.t 143), none⟩,
  ⟨some 145, .load 1 false (.t 144), none⟩,
  ⟨some 23, .mv (.t 145), none⟩]
@[simp] def f179r29 : List ROper := [
  ⟨some 124, .mv (.t 24), none⟩,
  ⟨some 125, .bin .add (.t 124) (.c (.int .i64 (.ofNat 1))), none⟩,
  ⟨some 24, .mv (.t 125), none⟩]
def f179B2 : RC := (.seq (.seq (.region f179r25 [2, 9, 16, 23, 24, 123]) (.cond (.t 123) .skip (.exit 4))) (.seq (.block 5 (.seq (.seq (.region f179r26 [2, 9, 16, 24, 141]) (.cond (.t 141) (.seq (.region f179r27 [8]) .ret) .skip)) (.region f179r28 [2, 9, 16, 23, 24]))) (.region f179r29 [2, 9, 16, 23, 24])))
def f179L2 : RC := .loop [2, 9, 16, 23, 24] f179B2
@[simp] def f179r30 : List ROper := [
  ⟨some 146, .mv (.t 9), none⟩,
  ⟨some 8, .mv (.t 146), none⟩]
def f179 : RFunc := ⟨[.t 8], (.seq (.region f179r0 [0, 1, 2, 3]) (.seq (.region f179r1 [0, 1, 2, 3, 9]) (.seq (.seq (.region f179r2 [0, 1, 2, 3, 9, 31]) (.cond (.t 31) (.seq (.region f179r3 [8]) .ret) .skip)) (.seq (.region f179r4 [0, 1, 2, 3, 9, 10]) (.seq (.seq (.region f179r5 [0, 1, 2, 3, 9, 10, 11]) (.block 0 f179L0)) (.seq (.region f179r9 [1, 2, 3, 9, 10, 12, 13]) (.seq (.region f179r10 [1, 2, 3, 9, 12, 13, 14, 15]) (.seq (.seq (.region f179r11 [1, 2, 3, 9, 12, 13, 14, 15, 64]) (.cond (.t 64) (.seq (.region f179r12 [8]) .ret) .skip)) (.seq (.region f179r13 [1, 2, 3, 9, 14, 16, 17]) (.seq (.region f179r14 [1, 2, 9, 16, 17, 18, 19]) (.seq (.seq (.region f179r15 [1, 2, 9, 16, 97]) (.cond (.t 97) (.seq (.region f179r16 [8]) .ret) .skip)) (.seq (.region f179r17 [1, 2, 9, 16, 20, 21]) (.seq (.seq (.region f179r18 [1, 2, 9, 16, 20, 21, 22]) (.block 2 f179L1)) (.seq (.region f179r23 [2, 9, 16, 23]) (.seq (.seq (.region f179r24 [2, 9, 16, 23, 24]) (.block 4 f179L2)) (.seq (.region f179r30 [8]) .ret)))))))))))))))), true⟩

/-! quire/quirelaw09.HyphTakes -/
@[simp] def f180r0 : List ROper := [
  ⟨some 8, .mv (.c (.bool false)), none⟩]
@[simp] def f180r1 : List ROper := [
  ⟨some 27, .call 178 [], none⟩,
  ⟨some 9, .mv (.t 27), none⟩]
@[simp] def f180r2 : List ROper := [
  ⟨some 29, .mv (.t 2), none⟩,
  ⟨some 30, .call 194 [(.t 29)], none⟩,
  ⟨some 28, .mv (.t 30), none⟩,
  ⟨some 31, .extract (.t 28) 0, none⟩,
  ⟨some 32, .extract (.t 28) 1, none⟩,
  ⟨some 10, .mv (.t 31), none⟩,
  ⟨some 11, .mv (.t 32), none⟩]
@[simp] def f180r3 : List ROper := [
  ⟨some 34, .mv (.t 1), none⟩,
  ⟨some 35, .call 194 [(.t 34)], none⟩,
  ⟨some 33, .mv (.t 35), none⟩,
  ⟨some 36, .extract (.t 33) 0, none⟩,
  ⟨some 37, .extract (.t 33) 1, none⟩,
  ⟨some 12, .mv (.t 36), none⟩,
  ⟨some 13, .mv (.t 37), none⟩]
@[simp] def f180r4 : List ROper := [
  ⟨some 38, .mv (.t 0), none⟩,
  ⟨some 39, .call 181 [(.t 38)], none⟩,
  ⟨some 40, .mv (.t 39), none⟩,
  ⟨some 41, .mv (.t 0), some (40, false)⟩,
  ⟨some 42, .len .slice (.t 41), some (40, false)⟩,
  ⟨some 43, .bin .gtr (.t 42) (.c (.int .i64 (.ofNat 200))), some (40, false)⟩,
  ⟨some 44, .pick (.t 40) (.c (.bool true)) (.t 43), none⟩,
  ⟨some 45, .mv (.t 44), none⟩,
  ⟨some 46, .mv (.t 11), some (45, false)⟩,
  ⟨some 47, .un .not (.t 46), some (45, false)⟩,
  ⟨some 48, .pick (.t 45) (.c (.bool true)) (.t 47), none⟩,
  ⟨some 49, .mv (.t 48), none⟩,
  ⟨some 50, .mv (.t 13), some (49, false)⟩,
  ⟨some 51, .un .not (.t 50), some (49, false)⟩,
  ⟨some 52, .pick (.t 49) (.c (.bool true)) (.t 51), none⟩,
  ⟨some 53, .mv (.t 52), none⟩,
  ⟨some 54, .mv (.t 10), some (53, false)⟩,
  ⟨some 55, .len .str (.t 54), some (53, false)⟩,
  ⟨some 56, .bin .gtr (.t 55) (.c (.int .i64 (.ofNat 12))), some (53, false)⟩,
  ⟨some 57, .pick (.t 53) (.c (.bool true)) (.t 56), none⟩]
@[simp] def f180r5 : List ROper := [
  ⟨some 58, .mv (.t 9), none⟩,
  ⟨some 8, .mv (.t 58), none⟩]
@[simp] def f180r6 : List ROper := [
  ⟨some 14, .mv (.c (.int .i64 (.ofNat 0))), none⟩]
@[simp] def f180r7 : List ROper := [
  ⟨some 59, .mv (.t 14), none⟩,
  ⟨some 60, .mv (.t 0), none⟩,
  ⟨some 61, .len .slice (.t 60), none⟩,
  ⟨some 62, .bin .lss (.t 59) (.t 61), none⟩]
@[simp] def f180r8 : List ROper := [
  ⟨some 15, .mv (.c (.int .i64 (.ofNat 0))), none⟩]
@[simp] def f180r9 : List ROper := [
  ⟨some 65, .mv (.t 15), none⟩,
  ⟨some 66, .mv (.t 0), none⟩,
  ⟨some 67, .mv (.t 14), none⟩,
  ⟨some 68, .iaddr 1 (.t 66) (.t 67), none⟩,
  ⟨some 69, .load 1 false (.t 68), none⟩,
  ⟨some 70, .len .str (.t 69), none⟩,
  ⟨some 71, .bin .lss (.t 65) (.t 70), none⟩]
@[simp] def f180r10 : List ROper := [
  ⟨some 74, .mv (.t 0), none⟩,
  ⟨some 75, .mv (.t 14), none⟩,
  ⟨some 76, .iaddr 1 (.t 74) (.t 75), none⟩,
  ⟨some 77, .load 1 false (.t 76), none⟩,
  ⟨some 78, .mv (.t 15), none⟩,
  ⟨some 79, .index (.t 77) (.t 78), none⟩,
  ⟨some 80, .bin .geq (.t 79) (.c (.int .u8 (.ofNat 56))), none⟩,
  ⟨some 81, .mv (.t 80), none⟩,
  ⟨some 82, .mv (.t 0), some (81, true)⟩,
  ⟨some 83, .mv (.t 14), some (81, true)⟩,
  ⟨some 84, .iaddr 1 (.t 82) (.t 83), some (81, true)⟩,
  ⟨some 85, .load 1 false (.t 84), some (81, true)⟩,
  ⟨some 86, .mv (.t 15), some (81, true)⟩,
  ⟨some 87, .index (.t 85) (.t 86), some (81, true)⟩,
  ⟨some 88, .bin .leq (.t 87) (.c (.int .u8 (.ofNat 57))), some (81, true)⟩,
  ⟨some 89, .pick (.t 81) (.t 88) (.c (.bool false)), none⟩]
@[simp] def f180r11 : List ROper := [
  ⟨some 90, .mv (.t 9), none⟩,
  ⟨some 8, .mv (.t 90), none⟩]
@[simp] def f180r12 : List ROper := [
  ⟨some 72, .mv (.t 15), none⟩,
  ⟨some 73, .bin .add (.t 72) (.c (.int .i64 (.ofNat 1))), none⟩,
  ⟨some 15, .mv (.t 73), none⟩]
def f180B0 : RC := (.seq (.seq (.region f180r9 [0, 1, 3, 9, 10, 12, 14, 15, 71]) (.cond (.t 71) .skip (.exit 2))) (.seq (.block 3 (.seq (.region f180r10 [0, 1, 3, 9, 10, 12, 14, 15, 89]) (.cond (.t 89) (.seq (.region f180r11 [8]) .ret) .skip))) (.region f180r12 [0, 1, 3, 9, 10, 12, 14, 15])))
def f180L0 : RC := .loop [0, 1, 3, 9, 10, 12, 14, 15] f180B0
@[simp] def f180r13 : List ROper := [
  ⟨some 63, .mv (.t 14), none⟩,
  ⟨some 64, .bin .add (.t 63) (.c (.int .i64 (.ofNat 1))), none⟩,
  ⟨some 14, .mv (.t 64), none⟩]
def f180B1 : RC := (.seq (.seq (.region f180r7 [0, 1, 3, 9, 10, 12, 14, 62]) (.cond (.t 62) .skip (.exit 0))) (.seq (.block 1 (.seq (.region f180r8 [0, 1, 3, 9, 10, 12, 14, 15]) (.block 2 f180L0))) (.region f180r13 [0, 1, 3, 9, 10, 12, 14])))
def f180L1 : RC := .loop [0, 1, 3, 9, 10, 12, 14] f180B1
@[simp] def f180r14 : List ROper := [
  ⟨some 91, .mv (.t 3), none⟩,
  ⟨some 92, .mv (.t 10), none⟩,
  ⟨some 93, .len .str (.t 92), none⟩,
  ⟨some 94, .bin .add (.t 93) (.c (.int .i64 (.ofNat 1))), none⟩,
  ⟨some 95, .call 28 [(.t 91), (.t 94)], none⟩,
  ⟨some 3, .mv (.t 95), none⟩]
@[simp] def f180r15 : List ROper := [
  ⟨some 97, .mv (.t 0), none⟩,
  ⟨some 98, .call 147 [(.t 97), (.c (.list 0 0 .no false []))], none⟩,
  ⟨some 96, .mv (.t 98), none⟩,
  ⟨some 99, .extract (.t 96) 0, none⟩,
  ⟨some 100, .extract (.t 96) 1, none⟩,
  ⟨some 16, .mv (.t 99), none⟩,
  ⟨some 17, .mv (.t 100), none⟩]
@[simp] def f180r16 : List ROper := [
  ⟨some 102, .lit 1 false [(.str [])] 0 [], none⟩,
  ⟨some 103, .mv (.t 0), none⟩,
  ⟨some 104, .append 1 false 16 (.t 102) (.t 103), none⟩,
  ⟨some 105, .mv (.t 10), none⟩,
  ⟨some 106, .mv (.t 3), none⟩,
  ⟨some 107, .slice true 1 (.t 105) none (some (.t 106)) none, none⟩,
  ⟨some 108, .bin .add (.t 107) (.c (.str [56])), none⟩,
  ⟨some 109, .mv (.t 10), none⟩,
  ⟨some 110, .mv (.t 3), none⟩,
  ⟨some 111, .slice true 1 (.t 109) (some (.t 110)) none none, none⟩,
  ⟨some 112, .bin .add (.t 108) (.t 111), none⟩,
  ⟨some 113, .lit 1 false [(.str [])] 1 [(0, (.t 112))], none⟩,
  ⟨some 114, .append 1 false 16 (.t 104) (.t 113), none⟩,
  ⟨some 115, .call 147 [(.t 114), (.c (.list 0 0 .no false []))], none⟩,
  ⟨some 101, .mv (.t 115), none⟩,
  ⟨some 116, .extract (.t 101) 0, none⟩,
  ⟨some 117, .extract (.t 101) 1, none⟩,
  ⟨some 18, .mv (.t 116), none⟩,
  ⟨some 19, .mv (.t 117), none⟩]
@[simp] def f180r17 : List ROper := [
  ⟨some 118, .mv (.t 16), none⟩,
  ⟨some 119, .eq .ptr false (.t 118) (.c .nilp), none⟩,
  ⟨some 120, .mv (.t 119), none⟩,
  ⟨some 121, .mv (.t 18), some (120, false)⟩,
  ⟨some 122, .eq .ptr false (.t 121) (.c .nilp), some (120, false)⟩,
  ⟨some 123, .pick (.t 120) (.c (.bool true)) (.t 122), none⟩]
@[simp] def f180r18 : List ROper := [
  ⟨some 124, .mv (.t 9), none⟩,
  ⟨some 125, .mv (.t 124), none⟩,
  ⟨some 126, .mv (.t 17), some (125, true)⟩,
  ⟨some 127, .mv (.t 19), some (125, true)⟩,
  ⟨some 128, .bin .eql (.t 126) (.t 127), some (125, true)⟩,
  ⟨some 129, .pick (.t 125) (.t 128) (.c (.bool false)), none⟩,
  ⟨some 130, .mv (.t 129), none⟩,
  ⟨some 131, .mv (.t 17), some (130, true)⟩,
  ⟨some 132, .bin .neq (.t 131) (.c (.int .i64 (.ofNat 0))), some (130, true)⟩,
  ⟨some 133, .pick (.t 130) (.t 132) (.c (.bool false)), none⟩,
  ⟨some 8, .mv (.t 133), none⟩]
@[simp] def f180r19 : List ROper := [
  ⟨some 135, .mv (.t 16), none⟩,
  ⟨some 136, .mv (.t 1), none⟩,
  ⟨some 137, .call 144 [(.t 135), (.t 136)], none⟩,
  ⟨some 134, .mv (.t 137), none⟩,
  ⟨some 138, .extract (.t 134) 0, none⟩,
  ⟨some 139, .extract (.t 134) 1, none⟩,
  ⟨some 20, .mv (.t 138), none⟩,
  ⟨some 21, .mv (.t 139), none⟩]
@[simp] def f180r20 : List ROper := [
  ⟨some 141, .mv (.t 18), none⟩,
  ⟨some 142, .mv (.t 1), none⟩,
  ⟨some 143, .call 144 [(.t 141), (.t 142)], none⟩,
  ⟨some 140, .mv (.t 143), none⟩,
  ⟨some 144, .extract (.t 140) 0, none⟩,
  ⟨some 145, .extract (.t 140) 1, none⟩,
  ⟨some 22, .mv (.t 144), none⟩,
  ⟨some 23, .mv (.t 145), none⟩]
@[simp] def f180r21 : List ROper := [
  ⟨some 24, .mv (.c (.list 0 0 .no false [])), none⟩]
@[simp] def f180r22 : List ROper := [
  ⟨some 25, .mv (.c (.int .i64 (.ofNat 0))), none⟩]
@[simp] def f180r23 : List ROper := [
  ⟨some 146, .mv (.t 25), none⟩,
  ⟨some 147, .mv (.t 20), none⟩,
  ⟨some 148, .len .slice (.t 147), none⟩,
  ⟨some 149, .bin .lss (.t 146) (.t 148), none⟩]
@[simp] def f180r24 : List ROper := [
  ⟨some 152, .mv (.t 20), none⟩,
  ⟨some 153, .mv (.t 25), none⟩,
  ⟨some 154, .iaddr 1 (.t 152) (.t 153), none⟩,
  ⟨some 155, .load 1 false (.t 154), none⟩,
  ⟨some 156, .mv (.t 3), none⟩,
  ⟨some 157, .bin .sub (.t 155) (.t 156), none⟩,
  ⟨some 26, .mv (.t 157), none⟩]
@[simp] def f180r25 : List ROper := [
  ⟨some 158, .mv (.t 26), none⟩,
  ⟨some 159, .bin .lss (.t 158) (.c (.int .i64 (.ofNat 0))), none⟩,
  ⟨some 160, .mv (.t 159), none⟩,
  ⟨some 161, .mv (.t 26), some (160, false)⟩,
  ⟨some 162, .mv (.t 10), some (160, false)⟩,
  ⟨some 163, .len .str (.t 162), some (160, false)⟩,
  ⟨some 164, .bin .add (.t 161) (.t 163), some (160, false)⟩,
  ⟨some 165, .mv (.t 12), some (160, false)⟩,
  ⟨some 166, .len .str (.t 165), some (160, false)⟩,
  ⟨some 167, .bin .gtr (.t 164) (.t 166), some (160, false)⟩,
  ⟨some 168, .pick (.t 160) (.c (.bool true)) (.t 167), none⟩,
  ⟨some 169, .mv (.t 168), none⟩,
  ⟨some 170, .mv (.t 12), some (169, false)⟩,
  ⟨some 171, .mv (.t 26), some (169, false)⟩,
  ⟨some 172, .mv (.t 26), some (169, false)⟩,
  ⟨some 173, .mv (.t 10), some (169, false)⟩,
  ⟨some 174, .len .str (.t 173), some (169, false)⟩,
  ⟨some 175, .bin .add (.t 172) (.t 174), some (169, false)⟩,
  ⟨some 176, .slice true 1 (.t 170) (some (.t 171)) (some (.t 175)) none, some (169, false)⟩,
  ⟨some 177, .mv (.t 10), some (169, false)⟩,
  ⟨some 178, .bin .neq (.t 176) (.t 177), some (169, false)⟩,
  ⟨some 179, .pick (.t 169) (.c (.bool true)) (.t 178), none⟩]
@[simp] def f180r26 : List ROper := [
  ⟨some 180, .mv (.t 24), none⟩,
  ⟨some 181, .mv (.t 20), none⟩,
  ⟨some 182, .mv (.t 25), none⟩,
  ⟨some 183, .iaddr 1 (.t 181) (.t 182), none⟩,
  ⟨some 184, .load 1 false (.t 183), none⟩,
  ⟨some 185, .lit 1 false [(.int .i64 (.ofNat 0))] 1 [(0, (.t 184))], none⟩,
  ⟨some 186, .append 1 false 8 (.t 180) (.t 185), none⟩,
  ⟨some 24, .mv (.t 186), none⟩]
@[simp] def f180r27 : List ROper := [
  ⟨some 150, .mv (.t 25), none⟩,
  ⟨some 151, .bin .add (.t 150) (.c (.int .i64 (.ofNat 1))), none⟩,
  ⟨some 25, .mv (.t 151), none⟩]
def f180B2 : RC := (.seq (.seq (.region f180r23 [3, 9, 10, 12, 20, 22, 24, 25, 149]) (.cond (.t 149) .skip (.exit 4))) (.seq (.block 5 (.seq (.region f180r24 [3, 9, 10, 12, 20, 22, 24, 25, 26]) (.seq (.region f180r25 [3, 9, 10, 12, 20, 22, 24, 25, 179]) (.cond (.t 179) (.region f180r26 [3, 9, 10, 12, 20, 22, 24, 25]) .skip)))) (.region f180r27 [3, 9, 10, 12, 20, 22, 24, 25])))
def f180L2 : RC := .loop [3, 9, 10, 12, 20, 22, 24, 25] f180B2
@[simp] def f180r28 : List ROper := [
  ⟨some 187, .mv (.t 9), none⟩,
  ⟨some 188, .mv (.t 187), none⟩,
  ⟨some 189, .mv (.t 22), some (188, true)⟩,
  ⟨some 190, .mv (.t 24), some (188, true)⟩,
  ⟨some 191, .call 187 [(.t 189), (.t 190)], some (188, true)⟩,
  ⟨some 192, .pick (.t 188) (.t 191) (.c (.bool false)), none⟩,
  ⟨some 8, .mv (.t 192), none⟩]
def f180 : RFunc := ⟨[.t 8], (.seq (.region f180r0 [0, 1, 2, 3]) (.seq (.region f180r1 [0, 1, 2, 3, 9]) (.seq (.region f180r2 [0, 1, 3, 9, 10, 11]) (.seq (.region f180r3 [0, 1, 3, 9, 10, 11, 12, 13]) (.seq (.seq (.region f180r4 [0, 1, 3, 9, 10, 12, 57]) (.cond (.t 57) (.seq (.region f180r5 [8]) .ret) .skip)) (.seq (.seq (.region f180r6 [0, 1, 3, 9, 10, 12, 14]) (.block 0 f180L1)) (.seq (.region f180r14 [0, 1, 3, 9, 10, 12]) (.seq (.region f180r15 [0, 1, 3, 9, 10, 12, 16, 17]) (.seq (.dregion f180r16 [] [(11, [0])] [1, 3, 9, 10, 12, 16, 17, 18, 19]) (.seq (.seq (.region f180r17 [1, 3, 9, 10, 12, 16, 17, 18, 19, 123]) (.cond (.t 123) (.seq (.region f180r18 [8]) .ret) .skip)) (.seq (.region f180r19 [1, 3, 9, 10, 12, 18, 20]) (.seq (.region f180r20 [3, 9, 10, 12, 20, 22]) (.seq (.region f180r21 [3, 9, 10, 12, 20, 22, 24]) (.seq (.seq (.region f180r22 [3, 9, 10, 12, 20, 22, 24, 25]) (.block 4 f180L2)) (.seq (.region f180r28 [8]) .ret))))))))))))))), true⟩

/-! quire/quirelaw09.long -/
@[simp] def f181r0 : List ROper := [
  ⟨some 2, .mv (.c (.bool false)), none⟩]
@[simp] def f181r1 : List ROper := [
  ⟨some 4, .mv (.t 0), none⟩,
  ⟨some 5, .len .slice (.t 4), none⟩,
  ⟨some 6, .bin .gtr (.t 5) (.c (.int .i64 (.ofNat 300))), none⟩]
@[simp] def f181r2 : List ROper := [
  ⟨some 2, .mv (.c (.bool true)), none⟩]
@[simp] def f181r3 : List ROper := [
  ⟨some 3, .mv (.c (.int .i64 (.ofNat 0))), none⟩]
@[simp] def f181r4 : List ROper := [
  ⟨some 7, .mv (.t 3), none⟩,
  ⟨some 8, .mv (.t 0), none⟩,
  ⟨some 9, .len .slice (.t 8), none⟩,
  ⟨some 10, .bin .lss (.t 7) (.t 9), none⟩]
@[simp] def f181r5 : List ROper := [
  ⟨some 13, .mv (.t 0), none⟩,
  ⟨some 14, .mv (.t 3), none⟩,
  ⟨some 15, .iaddr 1 (.t 13) (.t 14), none⟩,
  ⟨some 16, .load 1 false (.t 15), none⟩,
  ⟨some 17, .len .str (.t 16), none⟩,
  ⟨some 18, .bin .gtr (.t 17) (.c (.int .i64 (.ofNat 200))), none⟩]
@[simp] def f181r6 : List ROper := [
  ⟨some 2, .mv (.c (.bool true)), none⟩]
@[simp] def f181r7 : List ROper := [
  ⟨some 11, .mv (.t 3), none⟩,
  ⟨some 12, .bin .add (.t 11) (.c (.int .i64 (.ofNat 1))), none⟩,
  ⟨some 3, .mv (.t 12), none⟩]
def f181B0 : RC := (.seq (.seq (.region f181r4 [0, 3, 10]) (.cond (.t 10) .skip (.exit 0))) (.seq (.block 1 (.seq (.region f181r5 [0, 3, 18]) (.cond (.t 18) (.seq (.region f181r6 [2]) .ret) .skip))) (.region f181r7 [0, 3])))
def f181L0 : RC := .loop [0, 3] f181B0
@[simp] def f181r8 : List ROper := [
  ⟨some 2, .mv (.c (.bool false)), none⟩]
def f181 : RFunc := ⟨[.t 2], (.seq (.region f181r0 [0]) (.seq (.seq (.region f181r1 [0, 6]) (.cond (.t 6) (.seq (.region f181r2 [2]) .ret) .skip)) (.seq (.seq (.region f181r3 [0, 3]) (.block 0 f181L0)) (.seq (.region f181r8 [2]) .ret)))), true⟩

/-! quire/quirekit.LentTexts -/
@[simp] def f182r0 : List ROper := [
  ⟨some 2, .mv (.c (.list 0 0 .no false [])), none⟩]
@[simp] def f182r1 : List ROper := [
  ⟨some 5, .mv (.t 0), none⟩,
  ⟨some 6, .len .slice (.t 5), none⟩,
  ⟨some 7, .bin .add (.t 6) (.c (.int .i64 (.ofNat 3))), none⟩,
  ⟨some 8, .mkslice 1 false 16 [(.str [])] (.t 7) (.t 7), none⟩,
  ⟨some 3, .mv (.t 8), none⟩]
@[simp] def f182r2 : List ROper := [
  ⟨some 9, .mv (.t 3), none⟩,
  ⟨some 10, .mv (.t 0), none⟩,
  ⟨some 11, .copy 1 (.t 9) (.t 10), none⟩]
@[simp] def f182r3 : List ROper := [
  ⟨some 12, .mv (.t 0), none⟩,
  ⟨some 13, .len .slice (.t 12), none⟩,
  ⟨some 4, .mv (.t 13), none⟩]
@[simp] def f182r4 : List ROper := [
  ⟨some 14, .mv (.t 4), none⟩,
  ⟨some 15, .mv (.t 3), none⟩,
  ⟨some 16, .len .slice (.t 15), none⟩,
  ⟨some 17, .bin .lss (.t 14) (.t 16), none⟩]
@[simp] def f182r5 : List ROper := [
  ⟨some 20, .mv (.t 3), none⟩,
  ⟨some 21, .mv (.t 4), none⟩,
  ⟨some 22, .iaddr 1 (.t 20) (.t 21), none⟩,
  ⟨none, .store 1 (.t 22) (.c (.str [108, 101, 110, 116])), none⟩]
@[simp] def f182r6 : List ROper := [
  ⟨some 18, .mv (.t 4), none⟩,
  ⟨some 19, .bin .add (.t 18) (.c (.int .i64 (.ofNat 1))), none⟩,
  ⟨some 4, .mv (.t 19), none⟩]
def f182B0 : RC := (.seq (.seq (.region f182r4 [0, 3, 4, 17]) (.cond (.t 17) .skip (.exit 0))) (.seq (.block 1 (.region f182r5 [0, 3, 4])) (.region f182r6 [0, 3, 4])))
def f182L0 : RC := .loop [0, 3, 4] f182B0
@[simp] def f182r7 : List ROper := [
  ⟨some 23, .mv (.t 3), none⟩,
  ⟨some 24, .mv (.t 0), none⟩,
  ⟨some 25, .len .slice (.t 24), none⟩,
  ⟨some 26, .slice false 1 (.t 23) none (some (.t 25)) none, none⟩,
  ⟨some 2, .mv (.t 26), none⟩]
def f182 : RFunc := ⟨[.t 2], (.seq (.region f182r0 [0]) (.seq (.region f182r1 [0, 3]) (.seq (.region f182r2 [0, 3]) (.seq (.seq (.region f182r3 [0, 3, 4]) (.block 0 f182L0)) (.seq (.region f182r7 [2]) .ret))))), false⟩

/-! quire/quireref09.New -/
@[simp] def f183r0 : List ROper := [
  ⟨some 4, .mv (.c .nilp), none⟩,
  ⟨some 5, .mv (.c (.int .i64 (.ofNat 0))), none⟩]
@[simp] def f183r1 : List ROper := [
  ⟨some 10, .mv (.t 0), none⟩,
  ⟨some 11, .len .slice (.t 10), none⟩,
  ⟨some 12, .bin .gtr (.t 11) (.c (.int .i64 (.ofNat 256))), none⟩,
  ⟨some 13, .mv (.t 12), none⟩,
  ⟨some 14, .mv (.t 1), some (13, false)⟩,
  ⟨some 15, .len .slice (.t 14), some (13, false)⟩,
  ⟨some 16, .bin .gtr (.t 15) (.c (.int .i64 (.ofNat 64))), some (13, false)⟩,
  ⟨some 17, .pick (.t 13) (.c (.bool true)) (.t 16), none⟩]
@[simp] def f183r2 : List ROper := [
  ⟨some 4, .mv (.c .nilp), none⟩,
  ⟨some 5, .mv (.c (.int .i64 (.ofNat 3))), none⟩]
@[simp] def f183r3 : List ROper := [
  ⟨some 6, .mv (.c (.int .i64 (.ofNat 0))), none⟩]
@[simp] def f183r4 : List ROper := [
  ⟨some 18, .mv (.t 6), none⟩,
  ⟨some 19, .mv (.t 0), none⟩,
  ⟨some 20, .len .slice (.t 19), none⟩,
  ⟨some 21, .bin .lss (.t 18) (.t 20), none⟩]
@[simp] def f183r5 : List ROper := [
  ⟨some 24, .mv (.t 0), none⟩,
  ⟨some 25, .mv (.t 6), none⟩,
  ⟨some 26, .iaddr 1 (.t 24) (.t 25), none⟩,
  ⟨some 27, .load 1 false (.t 26), none⟩,
  ⟨some 28, .call 196 [(.t 27)], none⟩,
  ⟨some 29, .un .not (.t 28), none⟩]
@[simp] def f183r6 : List ROper := [
  ⟨some 4, .mv (.c .nilp), none⟩,
  ⟨some 5, .mv (.c (.int .i64 (.ofNat 4))), none⟩]
@[simp] def f183r7 : List ROper := [
  ⟨some 22, .mv (.t 6), none⟩,
  ⟨some 23, .bin .add (.t 22) (.c (.int .i64 (.ofNat 1))), none⟩,
  ⟨some 6, .mv (.t 23), none⟩]
def f183B0 : RC := (.seq (.seq (.region f183r4 [0, 1, 6, 21]) (.cond (.t 21) .skip (.exit 0))) (.seq (.block 1 (.seq (.region f183r5 [0, 1, 6, 29]) (.cond (.t 29) (.seq (.region f183r6 [4, 5]) .ret) .skip))) (.region f183r7 [0, 1, 6])))
def f183L0 : RC := .loop [0, 1, 6] f183B0
@[simp] def f183r8 : List ROper := [
  ⟨some 7, .mv (.c (.int .i64 (.ofNat 0))), none⟩]
@[simp] def f183r9 : List ROper := [
  ⟨some 30, .mv (.t 7), none⟩,
  ⟨some 31, .mv (.t 1), none⟩,
  ⟨some 32, .len .slice (.t 31), none⟩,
  ⟨some 33, .bin .lss (.t 30) (.t 32), none⟩]
@[simp] def f183r10 : List ROper := [
  ⟨some 36, .mv (.t 1), none⟩,
  ⟨some 37, .mv (.t 7), none⟩,
  ⟨some 38, .iaddr 1 (.t 36) (.t 37), none⟩,
  ⟨some 39, .load 1 false (.t 38), none⟩,
  ⟨some 40, .call 197 [(.t 39)], none⟩,
  ⟨some 41, .un .not (.t 40), none⟩]
@[simp] def f183r11 : List ROper := [
  ⟨some 4, .mv (.c .nilp), none⟩,
  ⟨some 5, .mv (.c (.int .i64 (.ofNat 4))), none⟩]
@[simp] def f183r12 : List ROper := [
  ⟨some 34, .mv (.t 7), none⟩,
  ⟨some 35, .bin .add (.t 34) (.c (.int .i64 (.ofNat 1))), none⟩,
  ⟨some 7, .mv (.t 35), none⟩]
def f183B1 : RC := (.seq (.seq (.region f183r9 [0, 1, 7, 33]) (.cond (.t 33) .skip (.exit 2))) (.seq (.block 3 (.seq (.region f183r10 [0, 1, 7, 41]) (.cond (.t 41) (.seq (.region f183r11 [4, 5]) .ret) .skip))) (.region f183r12 [0, 1, 7])))
def f183L1 : RC := .loop [0, 1, 7] f183B1
@[simp] def f183r13 : List ROper := [
  ⟨some 8, .mv (.c (.int .i64 (.ofNat 0))), none⟩]
@[simp] def f183r14 : List ROper := [
  ⟨some 42, .mv (.t 8), none⟩,
  ⟨some 43, .mv (.t 1), none⟩,
  ⟨some 44, .len .slice (.t 43), none⟩,
  ⟨some 45, .bin .lss (.t 42) (.t 44), none⟩]
@[simp] def f183r15 : List ROper := [
  ⟨some 9, .mv (.c (.int .i64 (.ofNat 0))), none⟩]
@[simp] def f183r16 : List ROper := [
  ⟨some 48, .mv (.t 9), none⟩,
  ⟨some 49, .mv (.t 8), none⟩,
  ⟨some 50, .bin .lss (.t 48) (.t 49), none⟩]
@[simp] def f183r17 : List ROper := [
  ⟨some 53, .mv (.t 1), none⟩,
  ⟨some 54, .mv (.t 8), none⟩,
  ⟨some 55, .iaddr 1 (.t 53) (.t 54), none⟩,
  ⟨some 56, .load 1 false (.t 55), none⟩,
  ⟨some 57, .call 195 [(.t 56)], none⟩,
  ⟨some 58, .mv (.t 1), none⟩,
  ⟨some 59, .mv (.t 9), none⟩,
  ⟨some 60, .iaddr 1 (.t 58) (.t 59), none⟩,
  ⟨some 61, .load 1 false (.t 60), none⟩,
  ⟨some 62, .call 195 [(.t 61)], none⟩,
  ⟨some 63, .bin .eql (.t 57) (.t 62), none⟩]
@[simp] def f183r18 : List ROper := [
  ⟨some 4, .mv (.c .nilp), none⟩,
  ⟨some 5, .mv (.c (.int .i64 (.ofNat 7))), none⟩]
@[simp] def f183r19 : List ROper := [
  ⟨some 51, .mv (.t 9), none⟩,
  ⟨some 52, .bin .add (.t 51) (.c (.int .i64 (.ofNat 1))), none⟩,
  ⟨some 9, .mv (.t 52), none⟩]
def f183B2 : RC := (.seq (.seq (.region f183r16 [0, 1, 8, 9, 50]) (.cond (.t 50) .skip (.exit 6))) (.seq (.block 7 (.seq (.dregion f183r17 [] [] [0, 1, 8, 9, 63]) (.cond (.t 63) (.seq (.region f183r18 [4, 5]) .ret) .skip))) (.region f183r19 [0, 1, 8, 9])))
def f183L2 : RC := .loop [0, 1, 8, 9] f183B2
@[simp] def f183r20 : List ROper := [
  ⟨some 46, .mv (.t 8), none⟩,
  ⟨some 47, .bin .add (.t 46) (.c (.int .i64 (.ofNat 1))), none⟩,
  ⟨some 8, .mv (.t 47), none⟩]
def f183B3 : RC := (.seq (.seq (.region f183r14 [0, 1, 8, 45]) (.cond (.t 45) .skip (.exit 4))) (.seq (.block 5 (.seq (.region f183r15 [0, 1, 8, 9]) (.block 6 f183L2))) (.region f183r20 [0, 1, 8])))
def f183L3 : RC := .loop [0, 1, 8] f183B3
@[simp] def f183r21 : List ROper := [
  ⟨some 64, .lit 1 false [(.str [])] 0 [], none⟩,
  ⟨some 65, .mv (.t 0), none⟩,
  ⟨some 66, .append 1 false 16 (.t 64) (.t 65), none⟩,
  ⟨some 67, .lit 1 false [(.str [])] 0 [], none⟩,
  ⟨some 68, .mv (.t 1), none⟩,
  ⟨some 69, .append 1 false 16 (.t 67) (.t 68), none⟩,
  ⟨some 70, .build [(.list 0 0 .no false []), (.list 0 0 .no false [])] [(0, 1, (.t 66)), (1, 1, (.t 69))], none⟩,
  ⟨some 71, .box 2 (.t 70), none⟩,
  ⟨some 4, .mv (.t 71), none⟩,
  ⟨some 5, .mv (.c (.int .i64 (.ofNat 0))), none⟩]
def f183 : RFunc := ⟨[.t 4, .t 5], (.seq (.region f183r0 [0, 1]) (.seq (.seq (.region f183r1 [0, 1, 17]) (.cond (.t 17) (.seq (.region f183r2 [4, 5]) .ret) .skip)) (.seq (.seq (.region f183r3 [0, 1, 6]) (.block 0 f183L0)) (.seq (.seq (.region f183r8 [0, 1, 7]) (.block 2 f183L1)) (.seq (.seq (.region f183r13 [0, 1, 8]) (.block 4 f183L3)) (.seq (.region f183r21 [4, 5]) .ret)))))), false⟩

/-! quire/quirekit.KeptTexts -/
@[simp] def f184r0 : List ROper := [
  ⟨some 4, .mv (.c (.bool false)), none⟩]
@[simp] def f184r1 : List ROper := [
  ⟨some 5, .mv (.t 0), none⟩,
  ⟨some 6, .len .slice (.t 5), none⟩,
  ⟨some 7, .mv (.t 1), none⟩,
  ⟨some 8, .len .slice (.t 7), none⟩,
  ⟨some 9, .bin .eql (.t 6) (.t 8), none⟩,
  ⟨some 10, .mv (.t 9), none⟩,
  ⟨some 11, .mv (.t 0), some (10, true)⟩,
  ⟨some 12, .mv (.t 0), some (10, true)⟩,
  ⟨some 13, .cap (.t 12), some (10, true)⟩,
  ⟨some 14, .slice false 1 (.t 11) none (some (.t 13)) none, some (10, true)⟩,
  ⟨some 15, .mv (.t 1), some (10, true)⟩,
  ⟨some 16, .call 182 [(.t 15)], some (10, true)⟩,
  ⟨some 17, .mv (.t 1), some (10, true)⟩,
  ⟨some 18, .len .slice (.t 17), some (10, true)⟩,
  ⟨some 19, .bin .add (.t 18) (.c (.int .i64 (.ofNat 3))), some (10, true)⟩,
  ⟨some 20, .slice false 1 (.t 16) none (some (.t 19)) none, some (10, true)⟩,
  ⟨some 21, .call 50 [(.t 14), (.t 20)], some (10, true)⟩,
  ⟨some 22, .pick (.t 10) (.t 21) (.c (.bool false)), none⟩,
  ⟨some 4, .mv (.t 22), none⟩]
def f184 : RFunc := ⟨[.t 4], (.seq (.region f184r0 [0, 1]) (.seq (.dregion f184r1 [] [(13, [0])] [4]) .ret)), true⟩

/-! quire/quirekit.OverTexts -/
@[simp] def f185r0 : List ROper := [
  ⟨some 4, .mv (.t 0), none⟩,
  ⟨some 5, .mv (.t 0), none⟩,
  ⟨some 6, .cap (.t 5), none⟩,
  ⟨some 7, .slice false 1 (.t 4) none (some (.t 6)) none, none⟩,
  ⟨some 2, .mv (.t 7), none⟩]
@[simp] def f185r1 : List ROper := [
  ⟨some 3, .mv (.c (.int .i64 (.ofNat 0))), none⟩]
@[simp] def f185r2 : List ROper := [
  ⟨some 8, .mv (.t 3), none⟩,
  ⟨some 9, .mv (.t 2), none⟩,
  ⟨some 10, .len .slice (.t 9), none⟩,
  ⟨some 11, .bin .lss (.t 8) (.t 10), none⟩]
@[simp] def f185r3 : List ROper := [
  ⟨some 14, .mv (.t 2), none⟩,
  ⟨some 15, .mv (.t 3), none⟩,
  ⟨some 16, .mv (.t 2), none⟩,
  ⟨some 17, .mv (.t 3), none⟩,
  ⟨some 18, .iaddr 1 (.t 16) (.t 17), none⟩,
  ⟨some 19, .load 1 false (.t 18), none⟩,
  ⟨some 20, .bin .add (.t 19) (.c (.str [33])), none⟩,
  ⟨some 21, .iaddr 1 (.t 14) (.t 15), none⟩,
  ⟨none, .store 1 (.t 21) (.t 20), none⟩]
@[simp] def f185r4 : List ROper := [
  ⟨some 12, .mv (.t 3), none⟩,
  ⟨some 13, .bin .add (.t 12) (.c (.int .i64 (.ofNat 1))), none⟩,
  ⟨some 3, .mv (.t 13), none⟩]
def f185B0 : RC := (.seq (.seq (.region f185r2 [2, 3, 11]) (.cond (.t 11) .skip (.exit 0))) (.seq (.block 1 (.region f185r3 [2, 3])) (.region f185r4 [2, 3])))
def f185L0 : RC := .loop [2, 3] f185B0
def f185 : RFunc := ⟨[], (.seq (.region f185r0 [2]) (.seq (.region f185r1 [2, 3]) (.block 0 f185L0))), false⟩

/-! (*quire/quireref09.Hyph).Points -/
@[simp] def f186r0 : List ROper := [
  ⟨some 4, .mv (.c (.list 0 0 .no false [])), none⟩,
  ⟨some 5, .mv (.c (.int .i64 (.ofNat 0))), none⟩]
@[simp] def f186r1 : List ROper := [
  ⟨some 16, .mv (.t 1), none⟩,
  ⟨some 17, .call 194 [(.t 16)], none⟩,
  ⟨some 15, .mv (.t 17), none⟩,
  ⟨some 18, .extract (.t 15) 0, none⟩,
  ⟨some 19, .extract (.t 15) 1, none⟩,
  ⟨some 6, .mv (.t 18), none⟩,
  ⟨some 7, .mv (.t 19), none⟩]
@[simp] def f186r2 : List ROper := [
  ⟨some 20, .mv (.t 7), none⟩,
  ⟨some 21, .un .not (.t 20), none⟩]
@[simp] def f186r3 : List ROper := [
  ⟨some 4, .mv (.c (.list 0 0 .no false [])), none⟩,
  ⟨some 5, .mv (.c (.int .i64 (.ofNat 4))), none⟩]
@[simp] def f186r4 : List ROper := [
  ⟨some 8, .mv (.c (.list 0 0 .no false [])), none⟩]
@[simp] def f186r5 : List ROper := [
  ⟨some 9, .mv (.c (.int .i64 (.ofNat 0))), none⟩]
@[simp] def f186r6 : List ROper := [
  ⟨some 22, .mv (.t 9), none⟩,
  ⟨some 23, .mv (.t 0), none⟩,
  ⟨some 24, .nilchk (.t 23), none⟩,
  ⟨some 25, .faddr 1 (.t 24), none⟩,
  ⟨some 26, .load 1 false (.t 25), none⟩,
  ⟨some 27, .len .slice (.t 26), none⟩,
  ⟨some 28, .bin .lss (.t 22) (.t 27), none⟩]
@[simp] def f186r7 : List ROper := [
  ⟨some 31, .mv (.t 0), none⟩,
  ⟨some 32, .nilchk (.t 31), none⟩,
  ⟨some 33, .faddr 1 (.t 32), none⟩,
  ⟨some 34, .load 1 false (.t 33), none⟩,
  ⟨some 35, .mv (.t 9), none⟩,
  ⟨some 36, .iaddr 1 (.t 34) (.t 35), none⟩,
  ⟨some 37, .load 1 false (.t 36), none⟩,
  ⟨some 10, .mv (.t 37), none⟩]
@[simp] def f186r8 : List ROper := [
  ⟨some 38, .mv (.t 10), none⟩,
  ⟨some 39, .call 195 [(.t 38)], none⟩,
  ⟨some 40, .mv (.t 6), none⟩,
  ⟨some 41, .bin .neq (.t 39) (.t 40), none⟩]
@[simp] def f186r9 : List ROper := [
  ⟨some 11, .mv (.c (.int .i64 (.ofNat 0))), none⟩]
@[simp] def f186r10 : List ROper := [
  ⟨some 12, .mv (.c (.int .i64 (.ofNat 0))), none⟩]
@[simp] def f186r11 : List ROper := [
  ⟨some 42, .mv (.t 12), none⟩,
  ⟨some 43, .mv (.t 10), none⟩,
  ⟨some 44, .len .str (.t 43), none⟩,
  ⟨some 45, .bin .lss (.t 42) (.t 44), none⟩]
@[simp] def f186r12 : List ROper := [
  ⟨some 48, .mv (.t 10), none⟩,
  ⟨some 49, .mv (.t 12), none⟩,
  ⟨some 50, .index (.t 48) (.t 49), none⟩,
  ⟨some 51, .bin .eql (.t 50) (.c (.int .u8 (.ofNat 45))), none⟩]
@[simp] def f186r13 : List ROper := [
  ⟨some 52, .mv (.t 8), none⟩,
  ⟨some 53, .mv (.t 11), none⟩,
  ⟨some 54, .lit 1 false [(.int .i64 (.ofNat 0))] 1 [(0, (.t 53))], none⟩,
  ⟨some 55, .append 1 false 8 (.t 52) (.t 54), none⟩,
  ⟨some 8, .mv (.t 55), none⟩]
@[simp] def f186r14 : List ROper := [
  ⟨some 56, .mv (.t 11), none⟩,
  ⟨some 57, .bin .add (.t 56) (.c (.int .i64 (.ofNat 1))), none⟩,
  ⟨some 11, .mv (.t 57), none⟩]
@[simp] def f186r15 : List ROper := [
  ⟨some 46, .mv (.t 12), none⟩,
  ⟨some 47, .bin .add (.t 46) (.c (.int .i64 (.ofNat 1))), none⟩,
  ⟨some 12, .mv (.t 47), none⟩]
def f186B0 : RC := (.seq (.seq (.region f186r11 [8, 10, 11, 12, 45]) (.cond (.t 45) .skip (.exit 2))) (.seq (.block 3 (.seq (.region f186r12 [8, 10, 11, 12, 51]) (.cond (.t 51) (.region f186r13 [8, 10, 11, 12]) (.region f186r14 [8, 10, 11, 12])))) (.region f186r15 [8, 10, 11, 12])))
def f186L0 : RC := .loop [8, 10, 11, 12] f186B0
@[simp] def f186r16 : List ROper := [
  ⟨some 58, .mv (.t 8), none⟩,
  ⟨some 4, .mv (.t 58), none⟩,
  ⟨some 5, .mv (.c (.int .i64 (.ofNat 0))), none⟩]
@[simp] def f186r17 : List ROper := [
  ⟨some 29, .mv (.t 9), none⟩,
  ⟨some 30, .bin .add (.t 29) (.c (.int .i64 (.ofNat 1))), none⟩,
  ⟨some 9, .mv (.t 30), none⟩]
def f186B1 : RC := (.seq (.seq (.region f186r6 [0, 6, 8, 9, 28]) (.cond (.t 28) .skip (.exit 0))) (.seq (.block 1 (.seq (.region f186r7 [0, 6, 8, 9, 10]) (.seq (.seq (.region f186r8 [0, 6, 8, 9, 10, 41]) (.cond (.t 41) (.exit 1) .skip)) (.seq (.region f186r9 [8, 10, 11]) (.seq (.seq (.region f186r10 [8, 10, 11, 12]) (.block 2 f186L0)) (.seq (.region f186r16 [4, 5]) .ret)))))) (.region f186r17 [0, 6, 8, 9])))
def f186L1 : RC := .loop [0, 6, 8, 9] f186B1
@[simp] def f186r18 : List ROper := [
  ⟨some 59, .mv (.t 0), none⟩,
  ⟨some 60, .nilchk (.t 59), none⟩,
  ⟨some 61, .faddr 0 (.t 60), none⟩,
  ⟨some 62, .load 1 false (.t 61), none⟩,
  ⟨some 63, .mv (.t 6), none⟩,
  ⟨some 64, .call 198 [(.t 62), (.t 63)], none⟩,
  ⟨some 13, .mv (.t 64), none⟩]
@[simp] def f186r19 : List ROper := [
  ⟨some 14, .mv (.c (.int .i64 (.ofNat 2))), none⟩]
@[simp] def f186r20 : List ROper := [
  ⟨some 65, .mv (.t 14), none⟩,
  ⟨some 66, .bin .add (.t 65) (.c (.int .i64 (.ofNat 3))), none⟩,
  ⟨some 67, .mv (.t 6), none⟩,
  ⟨some 68, .len .str (.t 67), none⟩,
  ⟨some 69, .bin .leq (.t 66) (.t 68), none⟩]
@[simp] def f186r21 : List ROper := [
  ⟨some 72, .mv (.t 13), none⟩,
  ⟨some 73, .mv (.t 14), none⟩,
  ⟨some 74, .iaddr 1 (.t 72) (.t 73), none⟩,
  ⟨some 75, .load 1 false (.t 74), none⟩,
  ⟨some 76, .bin .rem (.t 75) (.c (.int .i64 (.ofNat 2))), none⟩,
  ⟨some 77, .bin .eql (.t 76) (.c (.int .i64 (.ofNat 1))), none⟩]
@[simp] def f186r22 : List ROper := [
  ⟨some 78, .mv (.t 8), none⟩,
  ⟨some 79, .mv (.t 14), none⟩,
  ⟨some 80, .lit 1 false [(.int .i64 (.ofNat 0))] 1 [(0, (.t 79))], none⟩,
  ⟨some 81, .append 1 false 8 (.t 78) (.t 80), none⟩,
  ⟨some 8, .mv (.t 81), none⟩]
@[simp] def f186r23 : List ROper := [
  ⟨some 70, .mv (.t 14), none⟩,
  ⟨some 71, .bin .add (.t 70) (.c (.int .i64 (.ofNat 1))), none⟩,
  ⟨some 14, .mv (.t 71), none⟩]
def f186B2 : RC := (.seq (.seq (.region f186r20 [6, 8, 13, 14, 69]) (.cond (.t 69) .skip (.exit 4))) (.seq (.block 5 (.seq (.region f186r21 [6, 8, 13, 14, 77]) (.cond (.t 77) (.region f186r22 [6, 8, 13, 14]) .skip))) (.region f186r23 [6, 8, 13, 14])))
def f186L2 : RC := .loop [6, 8, 13, 14] f186B2
@[simp] def f186r24 : List ROper := [
  ⟨some 82, .mv (.t 8), none⟩,
  ⟨some 4, .mv (.t 82), none⟩,
  ⟨some 5, .mv (.c (.int .i64 (.ofNat 0))), none⟩]
def f186 : RFunc := ⟨[.t 4, .t 5], (.seq (.region f186r0 [0, 1]) (.seq (.region f186r1 [0, 6, 7]) (.seq (.seq (.region f186r2 [0, 6, 21]) (.cond (.t 21) (.seq (.region f186r3 [4, 5]) .ret) .skip)) (.seq (.region f186r4 [0, 6, 8]) (.seq (.seq (.region f186r5 [0, 6, 8, 9]) (.block 0 f186L1)) (.seq (.region f186r18 [6, 8, 13]) (.seq (.seq (.region f186r19 [6, 8, 13, 14]) (.block 4 f186L2)) (.seq (.region f186r24 [4, 5]) .ret)))))))), false⟩

/-! quire/quirekit.SameInts -/
@[simp] def f187r0 : List ROper := [
  ⟨some 4, .mv (.c (.bool false)), none⟩]
@[simp] def f187r1 : List ROper := [
  ⟨some 6, .mv (.t 0), none⟩,
  ⟨some 7, .len .slice (.t 6), none⟩,
  ⟨some 8, .mv (.t 1), none⟩,
  ⟨some 9, .len .slice (.t 8), none⟩,
  ⟨some 10, .bin .neq (.t 7) (.t 9), none⟩]
@[simp] def f187r2 : List ROper := [
  ⟨some 4, .mv (.c (.bool false)), none⟩]
@[simp] def f187r3 : List ROper := [
  ⟨some 5, .mv (.c (.int .i64 (.ofNat 0))), none⟩]
@[simp] def f187r4 : List ROper := [
  ⟨some 11, .mv (.t 5), none⟩,
  ⟨some 12, .mv (.t 0), none⟩,
  ⟨some 13, .len .slice (.t 12), none⟩,
  ⟨some 14, .bin .lss (.t 11) (.t 13), none⟩]
@[simp] def f187r5 : List ROper := [
  ⟨some 17, .mv (.t 0), none⟩,
  ⟨some 18, .mv (.t 5), none⟩,
  ⟨some 19, .iaddr 1 (.t 17) (.t 18), none⟩,
  ⟨some 20, .load 1 false (.t 19), none⟩,
  ⟨some 21, .mv (.t 1), none⟩,
  ⟨some 22, .mv (.t 5), none⟩,
  ⟨some 23, .iaddr 1 (.t 21) (.t 22), none⟩,
  ⟨some 24, .load 1 false (.t 23), none⟩,
  ⟨some 25, .bin .neq (.t 20) (.t 24), none⟩]
@[simp] def f187r6 : List ROper := [
  ⟨some 4, .mv (.c (.bool false)), none⟩]
@[simp] def f187r7 : List ROper := [
  ⟨some 15, .mv (.t 5), none⟩,
  ⟨some 16, .bin .add (.t 15) (.c (.int .i64 (.ofNat 1))), none⟩,
  ⟨some 5, .mv (.t 16), none⟩]
def f187B0 : RC := (.seq (.seq (.region f187r4 [0, 1, 5, 14]) (.cond (.t 14) .skip (.exit 0))) (.seq (.block 1 (.seq (.dregion f187r5 [] [] [0, 1, 5, 25]) (.cond (.t 25) (.seq (.region f187r6 [4]) .ret) .skip))) (.region f187r7 [0, 1, 5])))
def f187L0 : RC := .loop [0, 1, 5] f187B0
@[simp] def f187r8 : List ROper := [
  ⟨some 4, .mv (.c (.bool true)), none⟩]
def f187 : RFunc := ⟨[.t 4], (.seq (.region f187r0 [0, 1]) (.seq (.seq (.region f187r1 [0, 1, 10]) (.cond (.t 10) (.seq (.region f187r2 [4]) .ret) .skip)) (.seq (.seq (.region f187r3 [0, 1, 5]) (.block 0 f187L0)) (.seq (.region f187r8 [4]) .ret)))), true⟩

/-! quire/quireref09.Plain -/
@[simp] def f188r0 : List ROper := [
  ⟨some 0, .mv (.c .nilp), none⟩]
@[simp] def f188r1 : List ROper := [
  ⟨some 4, .lit 1 false [(.str [])] 30 [(0, (.c (.str [49, 116, 97]))), (1, (.c (.str [49, 116, 101]))), (2, (.c (.str [49, 116, 105]))), (3, (.c (.str [49, 116, 111]))), (4, (.c (.str [49, 110, 97]))), (5, (.c (.str [49, 110, 101]))), (6, (.c (.str [49, 110, 105]))), (7, (.c (.str [49, 108, 97]))), (8, (.c (.str [49, 108, 101]))), (9, (.c (.str [49, 108, 105]))), (10, (.c (.str [49, 114, 97]))), (11, (.c (.str [49, 114, 101]))), (12, (.c (.str [49, 109, 97]))), (13, (.c (.str [49, 109, 101]))), (14, (.c (.str [49, 112, 97]))), (15, (.c (.str [49, 112, 101]))), (16, (.c (.str [49, 99, 97]))), (17, (.c (.str [49, 99, 111]))), (18, (.c (.str [49, 100, 101]))), (19, (.c (.str [49, 115, 97]))), (20, (.c (.str [49, 103, 101]))), (21, (.c (.str [49, 98, 108]))), (22, (.c (.str [116, 50, 116, 101]))), (23, (.c (.str [108, 50, 108, 101]))), (24, (.c (.str [110, 50, 110, 101]))), (25, (.c (.str [114, 50, 114, 101]))), (26, (.c (.str [50, 98, 108, 101, 46]))), (27, (.c (.str [52, 108, 101, 46]))), (28, (.c (.str [46, 114, 101, 51, 97]))), (29, (.c (.str [49, 112, 104, 101])))], none⟩,
  ⟨some 5, .lit 1 false [(.str [])] 3 [(0, (.c (.str [116, 97, 45, 98, 108, 101]))), (1, (.c (.str [112, 114, 111, 45, 106, 101, 99, 116]))), (2, (.c (.str [104, 121, 45, 112, 104, 101, 110, 45, 97, 45, 116, 105, 111, 110])))], none⟩,
  ⟨some 6, .call 183 [(.t 4), (.t 5)], none⟩,
  ⟨some 3, .mv (.t 6), none⟩,
  ⟨some 7, .extract (.t 3) 0, none⟩,
  ⟨some 8, .extract (.t 3) 1, none⟩,
  ⟨some 1, .mv (.t 7), none⟩,
  ⟨some 2, .mv (.t 8), none⟩]
@[simp] def f188r2 : List ROper := [
  ⟨some 9, .mv (.t 1), none⟩,
  ⟨some 0, .mv (.t 9), none⟩]
def f188 : RFunc := ⟨[.t 0], (.seq (.region f188r0 []) (.seq (.region f188r1 [1]) (.seq (.region f188r2 [0]) .ret))), false⟩

/-! quire/quirelaw09.awake -/
@[simp] def f189r0 : List ROper := [
  ⟨some 0, .mv (.c (.bool false)), none⟩]
@[simp] def f189r1 : List ROper := [
  ⟨some 1, .lit 1 false [(.int .i64 (.ofNat 0))] 1 [(0, (.c (.int .i64 (.ofNat 2))))], none⟩,
  ⟨some 2, .call 190 [(.c (.str [116, 97, 98, 108, 101])), (.t 1)], none⟩,
  ⟨some 3, .mv (.t 2), none⟩,
  ⟨some 4, .lit 1 false [(.int .i64 (.ofNat 0))] 3 [(0, (.c (.int .i64 (.ofNat 2)))), (1, (.c (.int .i64 (.ofNat 6)))), (2, (.c (.int .i64 (.ofNat 7))))], some (3, true)⟩,
  ⟨some 5, .call 190 [(.c (.str [104, 121, 112, 104, 101, 110, 97, 116, 105, 111, 110])), (.t 4)], some (3, true)⟩,
  ⟨some 6, .pick (.t 3) (.t 5) (.c (.bool false)), none⟩,
  ⟨some 0, .mv (.t 6), none⟩]
def f189 : RFunc := ⟨[.t 0], (.seq (.region f189r0 []) (.seq (.region f189r1 [0]) .ret)), true⟩

/-! quire/quirelaw09.plain -/
@[simp] def f190r0 : List ROper := [
  ⟨some 4, .mv (.c (.bool false)), none⟩]
@[simp] def f190r1 : List ROper := [
  ⟨some 8, .call 143 [], none⟩,
  ⟨some 9, .mv (.t 0), none⟩,
  ⟨some 10, .call 144 [(.t 8), (.t 9)], none⟩,
  ⟨some 7, .mv (.t 10), none⟩,
  ⟨some 11, .extract (.t 7) 0, none⟩,
  ⟨some 12, .extract (.t 7) 1, none⟩,
  ⟨some 5, .mv (.t 11), none⟩,
  ⟨some 6, .mv (.t 12), none⟩]
@[simp] def f190r2 : List ROper := [
  ⟨some 13, .mv (.t 6), none⟩,
  ⟨some 14, .bin .eql (.t 13) (.c (.int .i64 (.ofNat 0))), none⟩,
  ⟨some 15, .mv (.t 14), none⟩,
  ⟨some 16, .mv (.t 5), some (15, true)⟩,
  ⟨some 17, .mv (.t 1), some (15, true)⟩,
  ⟨some 18, .call 187 [(.t 16), (.t 17)], some (15, true)⟩,
  ⟨some 19, .pick (.t 15) (.t 18) (.c (.bool false)), none⟩,
  ⟨some 4, .mv (.t 19), none⟩]
def f190 : RFunc := ⟨[.t 4], (.seq (.region f190r0 [0, 1]) (.seq (.region f190r1 [1, 5, 6]) (.seq (.region f190r2 [4]) .ret))), true⟩

/-! quire/quirelaw09.points -/
@[simp] def f191r0 : List ROper := [
  ⟨some 8, .mv (.c (.bool false)), none⟩]
@[simp] def f191r1 : List ROper := [
  ⟨some 14, .mv (.t 0), none⟩,
  ⟨some 15, .mv (.t 1), none⟩,
  ⟨some 16, .call 147 [(.t 14), (.t 15)], none⟩,
  ⟨some 13, .mv (.t 16), none⟩,
  ⟨some 17, .extract (.t 13) 0, none⟩,
  ⟨some 18, .extract (.t 13) 1, none⟩,
  ⟨some 9, .mv (.t 17), none⟩,
  ⟨some 10, .mv (.t 18), none⟩]
@[simp] def f191r2 : List ROper := [
  ⟨some 19, .mv (.t 9), none⟩,
  ⟨some 20, .eq .ptr false (.t 19) (.c .nilp), none⟩,
  ⟨some 21, .mv (.t 20), none⟩,
  ⟨some 22, .mv (.t 10), some (21, false)⟩,
  ⟨some 23, .bin .neq (.t 22) (.c (.int .i64 (.ofNat 0))), some (21, false)⟩,
  ⟨some 24, .pick (.t 21) (.c (.bool true)) (.t 23), none⟩]
@[simp] def f191r3 : List ROper := [
  ⟨some 8, .mv (.c (.bool false)), none⟩]
@[simp] def f191r4 : List ROper := [
  ⟨some 26, .mv (.t 9), none⟩,
  ⟨some 27, .mv (.t 2), none⟩,
  ⟨some 28, .call 144 [(.t 26), (.t 27)], none⟩,
  ⟨some 25, .mv (.t 28), none⟩,
  ⟨some 29, .extract (.t 25) 0, none⟩,
  ⟨some 30, .extract (.t 25) 1, none⟩,
  ⟨some 11, .mv (.t 29), none⟩,
  ⟨some 12, .mv (.t 30), none⟩]
@[simp] def f191r5 : List ROper := [
  ⟨some 31, .mv (.t 12), none⟩,
  ⟨some 32, .bin .eql (.t 31) (.c (.int .i64 (.ofNat 0))), none⟩,
  ⟨some 33, .mv (.t 32), none⟩,
  ⟨some 34, .mv (.t 11), some (33, true)⟩,
  ⟨some 35, .mv (.t 3), some (33, true)⟩,
  ⟨some 36, .call 187 [(.t 34), (.t 35)], some (33, true)⟩,
  ⟨some 37, .pick (.t 33) (.t 36) (.c (.bool false)), none⟩,
  ⟨some 8, .mv (.t 37), none⟩]
def f191 : RFunc := ⟨[.t 8], (.seq (.region f191r0 [0, 1, 2, 3]) (.seq (.region f191r1 [2, 3, 9, 10]) (.seq (.seq (.region f191r2 [2, 3, 9, 24]) (.cond (.t 24) (.seq (.region f191r3 [8]) .ret) .skip)) (.seq (.region f191r4 [3, 11, 12]) (.seq (.region f191r5 [8]) .ret))))), true⟩

/-! quire/quirelaw09.bad -/
@[simp] def f192r0 : List ROper := [
  ⟨some 6, .mv (.c (.bool false)), none⟩]
@[simp] def f192r1 : List ROper := [
  ⟨some 10, .mv (.t 0), none⟩,
  ⟨some 11, .mv (.t 1), none⟩,
  ⟨some 12, .call 147 [(.t 10), (.t 11)], none⟩,
  ⟨some 9, .mv (.t 12), none⟩,
  ⟨some 13, .extract (.t 9) 0, none⟩,
  ⟨some 14, .extract (.t 9) 1, none⟩,
  ⟨some 7, .mv (.t 13), none⟩,
  ⟨some 8, .mv (.t 14), none⟩]
@[simp] def f192r2 : List ROper := [
  ⟨some 15, .mv (.t 7), none⟩,
  ⟨some 16, .eq .ptr false (.t 15) (.c .nilp), none⟩,
  ⟨some 17, .mv (.t 16), none⟩,
  ⟨some 18, .mv (.t 8), some (17, true)⟩,
  ⟨some 19, .mv (.t 2), some (17, true)⟩,
  ⟨some 20, .bin .eql (.t 18) (.t 19), some (17, true)⟩,
  ⟨some 21, .pick (.t 17) (.t 20) (.c (.bool false)), none⟩,
  ⟨some 6, .mv (.t 21), none⟩]
def f192 : RFunc := ⟨[.t 6], (.seq (.region f192r0 [0, 1, 2]) (.seq (.region f192r1 [2, 7, 8]) (.seq (.region f192r2 [6]) .ret))), true⟩

/-! quire/quirelaw09.turned -/
@[simp] def f193r0 : List ROper := [
  ⟨some 4, .mv (.c (.str [])), none⟩]
@[simp] def f193r1 : List ROper := [
  ⟨some 8, .mv (.t 0), none⟩,
  ⟨some 9, .s2h (.t 8), none⟩,
  ⟨some 5, .mv (.t 9), none⟩]
@[simp] def f193r2 : List ROper := [
  ⟨some 6, .mv (.c (.int .i64 (.ofNat 0))), none⟩]
@[simp] def f193r3 : List ROper := [
  ⟨some 10, .mv (.t 6), none⟩,
  ⟨some 11, .mv (.t 5), none⟩,
  ⟨some 12, .len .slice (.t 11), none⟩,
  ⟨some 13, .bin .lss (.t 10) (.t 12), none⟩]
@[simp] def f193r4 : List ROper := [
  ⟨some 16, .mv (.t 5), none⟩,
  ⟨some 17, .mv (.t 6), none⟩,
  ⟨some 18, .iaddr 1 (.t 16) (.t 17), none⟩,
  ⟨some 19, .load 1 false (.t 18), none⟩,
  ⟨some 7, .mv (.t 19), none⟩]
@[simp] def f193r5 : List ROper := [
  ⟨some 20, .mv (.t 1), none⟩,
  ⟨some 21, .mv (.t 6), none⟩,
  ⟨some 22, .bin .rem (.t 21) (.c (.int .i64 (.ofNat 64))), none⟩,
  ⟨some 23, .bin .shr (.t 20) (.t 22), none⟩,
  ⟨some 24, .bin .and (.t 23) (.c (.int .u64 (.ofNat 1))), none⟩,
  ⟨some 25, .bin .eql (.t 24) (.c (.int .u64 (.ofNat 1))), none⟩,
  ⟨some 26, .mv (.t 25), none⟩,
  ⟨some 27, .mv (.t 7), some (26, true)⟩,
  ⟨some 28, .bin .geq (.t 27) (.c (.int .u8 (.ofNat 97))), some (26, true)⟩,
  ⟨some 29, .mv (.t 28), some (26, true)⟩,
  ⟨some 30, .mv (.t 7), some (29, true)⟩,
  ⟨some 31, .bin .leq (.t 30) (.c (.int .u8 (.ofNat 122))), some (29, true)⟩,
  ⟨some 32, .pick (.t 29) (.t 31) (.c (.bool false)), some (26, true)⟩,
  ⟨some 33, .mv (.t 32), some (26, true)⟩,
  ⟨some 34, .mv (.t 7), some (33, false)⟩,
  ⟨some 35, .bin .geq (.t 34) (.c (.int .u8 (.ofNat 65))), some (33, false)⟩,
  ⟨some 36, .mv (.t 35), some (33, false)⟩,
  ⟨some 37, .mv (.t 7), some (36, true)⟩,
  ⟨some 38, .bin .leq (.t 37) (.c (.int .u8 (.ofNat 90))), some (36, true)⟩,
  ⟨some 39, .pick (.t 36) (.t 38) (.c (.bool false)), some (33, false)⟩,
  ⟨some 40, .pick (.t 33) (.c (.bool true)) (.t 39), some (26, true)⟩,
  ⟨some 41, .pick (.t 26) (.t 40) (.c (.bool false)), none⟩]
@[simp] def f193r6 : List ROper := [
  ⟨some 42, .mv (.t 5), none⟩,
  ⟨some 43, .mv (.t 6), none⟩,
  ⟨some 44, .mv (.t 7), none⟩,
  ⟨some 45, .bin .xor (.t 44) (.c (.int .u8 (.ofNat 32))), none⟩,
  ⟨some 46, .iaddr 1 (.t 42) (.t 43), none⟩,
  ⟨none, .store 1 (.t 46) (.t 45), none⟩]
@[simp] def f193r7 : List ROper := [
  ⟨some 14, .mv (.t 6), none⟩,
  ⟨some 15, .bin .add (.t 14) (.c (.int .i64 (.ofNat 1))), none⟩,
  ⟨some 6, .mv (.t 15), none⟩]
def f193B0 : RC := (.seq (.seq (.region f193r3 [1, 5, 6, 13]) (.cond (.t 13) .skip (.exit 0))) (.seq (.block 1 (.seq (.region f193r4 [1, 5, 6, 7]) (.seq (.region f193r5 [1, 5, 6, 7, 41]) (.cond (.t 41) (.region f193r6 [1, 5, 6]) .skip)))) (.region f193r7 [1, 5, 6])))
def f193L0 : RC := .loop [1, 5, 6] f193B0
@[simp] def f193r8 : List ROper := [
  ⟨some 47, .mv (.t 5), none⟩,
  ⟨some 48, .b2s (.t 47), none⟩,
  ⟨some 4, .mv (.t 48), none⟩]
def f193 : RFunc := ⟨[.t 4], (.seq (.region f193r0 [0, 1]) (.seq (.region f193r1 [1, 5]) (.seq (.seq (.region f193r2 [1, 5, 6]) (.block 0 f193L0)) (.seq (.region f193r8 [4]) .ret)))), true⟩

/-! quire/quireref09.Lower -/
@[simp] def f194r0 : List ROper := [
  ⟨some 2, .mv (.c (.str [])), none⟩,
  ⟨some 3, .mv (.c (.bool false)), none⟩]
@[simp] def f194r1 : List ROper := [
  ⟨some 4, .mv (.c (.str [])), none⟩]
@[simp] def f194r2 : List ROper := [
  ⟨some 5, .mv (.c (.int .i64 (.ofNat 0))), none⟩]
@[simp] def f194r3 : List ROper := [
  ⟨some 7, .mv (.t 5), none⟩,
  ⟨some 8, .mv (.t 0), none⟩,
  ⟨some 9, .len .str (.t 8), none⟩,
  ⟨some 10, .bin .lss (.t 7) (.t 9), none⟩]
@[simp] def f194r4 : List ROper := [
  ⟨some 13, .mv (.t 0), none⟩,
  ⟨some 14, .mv (.t 5), none⟩,
  ⟨some 15, .index (.t 13) (.t 14), none⟩,
  ⟨some 6, .mv (.t 15), none⟩]
@[simp] def f194r5 : List ROper := [
  ⟨some 16, .mv (.t 6), none⟩,
  ⟨some 17, .bin .geq (.t 16) (.c (.int .u8 (.ofNat 65))), none⟩,
  ⟨some 18, .mv (.t 17), none⟩,
  ⟨some 19, .mv (.t 6), some (18, true)⟩,
  ⟨some 20, .bin .leq (.t 19) (.c (.int .u8 (.ofNat 90))), some (18, true)⟩,
  ⟨some 21, .pick (.t 18) (.t 20) (.c (.bool false)), none⟩]
@[simp] def f194r6 : List ROper := [
  ⟨some 22, .mv (.t 6), none⟩,
  ⟨some 23, .bin .add (.t 22) (.c (.int .u8 (.ofNat 32))), none⟩,
  ⟨some 6, .mv (.t 23), none⟩]
@[simp] def f194r7 : List ROper := [
  ⟨some 24, .mv (.t 6), none⟩,
  ⟨some 25, .call 199 [(.t 24)], none⟩,
  ⟨some 26, .un .not (.t 25), none⟩]
@[simp] def f194r8 : List ROper := [
  ⟨some 2, .mv (.c (.str [])), none⟩,
  ⟨some 3, .mv (.c (.bool false)), none⟩]
@[simp] def f194r9 : List ROper := [
  ⟨some 27, .mv (.t 4), none⟩,
  ⟨some 28, .mv (.t 6), none⟩,
  ⟨some 29, .lit 1 false [(.int .u8 (.ofNat 0))] 1 [(0, (.t 28))], none⟩,
  ⟨some 30, .b2s (.t 29), none⟩,
  ⟨some 31, .bin .add (.t 27) (.t 30), none⟩,
  ⟨some 4, .mv (.t 31), none⟩]
@[simp] def f194r10 : List ROper := [
  ⟨some 11, .mv (.t 5), none⟩,
  ⟨some 12, .bin .add (.t 11) (.c (.int .i64 (.ofNat 1))), none⟩,
  ⟨some 5, .mv (.t 12), none⟩]
def f194B0 : RC := (.seq (.seq (.region f194r3 [0, 4, 5, 10]) (.cond (.t 10) .skip (.exit 0))) (.seq (.block 1 (.seq (.region f194r4 [0, 4, 5, 6]) (.seq (.seq (.region f194r5 [0, 4, 5, 6, 21]) (.cond (.t 21) (.region f194r6 [0, 4, 5, 6]) .skip)) (.seq (.seq (.region f194r7 [0, 4, 5, 6, 26]) (.cond (.t 26) (.seq (.region f194r8 [2, 3]) .ret) .skip)) (.region f194r9 [0, 4, 5]))))) (.region f194r10 [0, 4, 5])))
def f194L0 : RC := .loop [0, 4, 5] f194B0
@[simp] def f194r11 : List ROper := [
  ⟨some 32, .mv (.t 4), none⟩,
  ⟨some 33, .mv (.t 0), none⟩,
  ⟨some 34, .len .str (.t 33), none⟩,
  ⟨some 35, .bin .geq (.t 34) (.c (.int .i64 (.ofNat 1))), none⟩,
  ⟨some 36, .mv (.t 35), none⟩,
  ⟨some 37, .mv (.t 0), some (36, true)⟩,
  ⟨some 38, .len .str (.t 37), some (36, true)⟩,
  ⟨some 39, .bin .leq (.t 38) (.c (.int .i64 (.ofNat 64))), some (36, true)⟩,
  ⟨some 40, .pick (.t 36) (.t 39) (.c (.bool false)), none⟩,
  ⟨some 2, .mv (.t 32), none⟩,
  ⟨some 3, .mv (.t 40), none⟩]
def f194 : RFunc := ⟨[.t 2, .t 3], (.seq (.region f194r0 [0]) (.seq (.region f194r1 [0, 4]) (.seq (.seq (.region f194r2 [0, 4, 5]) (.block 0 f194L0)) (.seq (.region f194r11 [2, 3]) .ret)))), true⟩

/-! quire/quireref09.Bare -/
@[simp] def f195r0 : List ROper := [
  ⟨some 2, .mv (.c (.str [])), none⟩]
@[simp] def f195r1 : List ROper := [
  ⟨some 3, .mv (.c (.str [])), none⟩]
@[simp] def f195r2 : List ROper := [
  ⟨some 4, .mv (.c (.int .i64 (.ofNat 0))), none⟩]
@[simp] def f195r3 : List ROper := [
  ⟨some 5, .mv (.t 4), none⟩,
  ⟨some 6, .mv (.t 0), none⟩,
  ⟨some 7, .len .str (.t 6), none⟩,
  ⟨some 8, .bin .lss (.t 5) (.t 7), none⟩]
@[simp] def f195r4 : List ROper := [
  ⟨some 11, .mv (.t 0), none⟩,
  ⟨some 12, .mv (.t 4), none⟩,
  ⟨some 13, .index (.t 11) (.t 12), none⟩,
  ⟨some 14, .bin .neq (.t 13) (.c (.int .u8 (.ofNat 45))), none⟩]
@[simp] def f195r5 : List ROper := [
  ⟨some 15, .mv (.t 3), none⟩,
  ⟨some 16, .mv (.t 0), none⟩,
  ⟨some 17, .mv (.t 4), none⟩,
  ⟨some 18, .mv (.t 4), none⟩,
  ⟨some 19, .bin .add (.t 18) (.c (.int .i64 (.ofNat 1))), none⟩,
  ⟨some 20, .slice true 1 (.t 16) (some (.t 17)) (some (.t 19)) none, none⟩,
  ⟨some 21, .bin .add (.t 15) (.t 20), none⟩,
  ⟨some 3, .mv (.t 21), none⟩]
@[simp] def f195r6 : List ROper := [
  ⟨some 9, .mv (.t 4), none⟩,
  ⟨some 10, .bin .add (.t 9) (.c (.int .i64 (.ofNat 1))), none⟩,
  ⟨some 4, .mv (.t 10), none⟩]
def f195B0 : RC := (.seq (.seq (.region f195r3 [0, 3, 4, 8]) (.cond (.t 8) .skip (.exit 0))) (.seq (.block 1 (.seq (.region f195r4 [0, 3, 4, 14]) (.cond (.t 14) (.region f195r5 [0, 3, 4]) .skip))) (.region f195r6 [0, 3, 4])))
def f195L0 : RC := .loop [0, 3, 4] f195B0
@[simp] def f195r7 : List ROper := [
  ⟨some 22, .mv (.t 3), none⟩,
  ⟨some 2, .mv (.t 22), none⟩]
def f195 : RFunc := ⟨[.t 2], (.seq (.region f195r0 [0]) (.seq (.region f195r1 [0, 3]) (.seq (.seq (.region f195r2 [0, 3, 4]) (.block 0 f195L0)) (.seq (.region f195r7 [2]) .ret)))), true⟩

/-! quire/quireref09.pattern -/
@[simp] def f196r0 : List ROper := [
  ⟨some 2, .mv (.c (.bool false)), none⟩]
@[simp] def f196r1 : List ROper := [
  ⟨some 8, .mv (.t 0), none⟩,
  ⟨some 9, .len .str (.t 8), none⟩,
  ⟨some 10, .bin .lss (.t 9) (.c (.int .i64 (.ofNat 1))), none⟩,
  ⟨some 11, .mv (.t 10), none⟩,
  ⟨some 12, .mv (.t 0), some (11, false)⟩,
  ⟨some 13, .len .str (.t 12), some (11, false)⟩,
  ⟨some 14, .bin .gtr (.t 13) (.c (.int .i64 (.ofNat 16))), some (11, false)⟩,
  ⟨some 15, .pick (.t 11) (.c (.bool true)) (.t 14), none⟩]
@[simp] def f196r2 : List ROper := [
  ⟨some 2, .mv (.c (.bool false)), none⟩]
@[simp] def f196r3 : List ROper := [
  ⟨some 3, .mv (.c (.int .i64 (.ofNat 0))), none⟩]
@[simp] def f196r4 : List ROper := [
  ⟨some 4, .mv (.c (.int .i64 (.ofNat 0))), none⟩]
@[simp] def f196r5 : List ROper := [
  ⟨some 16, .mv (.t 4), none⟩,
  ⟨some 17, .mv (.t 0), none⟩,
  ⟨some 18, .len .str (.t 17), none⟩,
  ⟨some 19, .bin .lss (.t 16) (.t 18), none⟩]
@[simp] def f196r6 : List ROper := [
  ⟨some 22, .mv (.t 0), none⟩,
  ⟨some 23, .mv (.t 4), none⟩,
  ⟨some 24, .index (.t 22) (.t 23), none⟩,
  ⟨some 5, .mv (.t 24), none⟩]
@[simp] def f196r7 : List ROper := [
  ⟨some 25, .mv (.t 5), none⟩,
  ⟨some 26, .call 199 [(.t 25)], none⟩]
@[simp] def f196r8 : List ROper := [
  ⟨some 27, .mv (.t 3), none⟩,
  ⟨some 28, .bin .add (.t 27) (.c (.int .i64 (.ofNat 1))), none⟩,
  ⟨some 3, .mv (.t 28), none⟩]
@[simp] def f196r9 : List ROper := [
  ⟨some 29, .mv (.t 4), none⟩,
  ⟨some 30, .bin .eql (.t 29) (.c (.int .i64 (.ofNat 0))), none⟩,
  ⟨some 31, .mv (.t 4), none⟩,
  ⟨some 32, .mv (.t 0), none⟩,
  ⟨some 33, .len .str (.t 32), none⟩,
  ⟨some 34, .bin .sub (.t 33) (.c (.int .i64 (.ofNat 1))), none⟩,
  ⟨some 35, .bin .eql (.t 31) (.t 34), none⟩,
  ⟨some 6, .mv (.t 30), none⟩,
  ⟨some 7, .mv (.t 35), none⟩]
@[simp] def f196r10 : List ROper := [
  ⟨some 36, .mv (.t 5), none⟩,
  ⟨some 37, .call 199 [(.t 36)], none⟩,
  ⟨some 38, .un .not (.t 37), none⟩,
  ⟨some 39, .mv (.t 38), none⟩,
  ⟨some 40, .mv (.t 5), some (39, true)⟩,
  ⟨some 41, .call 200 [(.t 40)], some (39, true)⟩,
  ⟨some 42, .un .not (.t 41), some (39, true)⟩,
  ⟨some 43, .pick (.t 39) (.t 42) (.c (.bool false)), none⟩,
  ⟨some 44, .mv (.t 43), none⟩,
  ⟨some 45, .mv (.t 5), some (44, true)⟩,
  ⟨some 46, .bin .eql (.t 45) (.c (.int .u8 (.ofNat 46))), some (44, true)⟩,
  ⟨some 47, .mv (.t 46), some (44, true)⟩,
  ⟨some 48, .mv (.t 6), some (47, true)⟩,
  ⟨some 49, .mv (.t 48), some (47, true)⟩,
  ⟨some 50, .mv (.t 7), some (49, false)⟩,
  ⟨some 51, .pick (.t 49) (.c (.bool true)) (.t 50), some (47, true)⟩,
  ⟨some 52, .pick (.t 47) (.t 51) (.c (.bool false)), some (44, true)⟩,
  ⟨some 53, .un .not (.t 52), some (44, true)⟩,
  ⟨some 54, .pick (.t 44) (.t 53) (.c (.bool false)), none⟩]
@[simp] def f196r11 : List ROper := [
  ⟨some 2, .mv (.c (.bool false)), none⟩]
@[simp] def f196r12 : List ROper := [
  ⟨some 55, .mv (.t 5), none⟩,
  ⟨some 56, .call 200 [(.t 55)], none⟩,
  ⟨some 57, .mv (.t 56), none⟩,
  ⟨some 58, .mv (.t 4), some (57, true)⟩,
  ⟨some 59, .bin .gtr (.t 58) (.c (.int .i64 (.ofNat 0))), some (57, true)⟩,
  ⟨some 60, .mv (.t 59), some (57, true)⟩,
  ⟨some 61, .mv (.t 0), some (60, true)⟩,
  ⟨some 62, .mv (.t 4), some (60, true)⟩,
  ⟨some 63, .bin .sub (.t 62) (.c (.int .i64 (.ofNat 1))), some (60, true)⟩,
  ⟨some 64, .index (.t 61) (.t 63), some (60, true)⟩,
  ⟨some 65, .call 200 [(.t 64)], some (60, true)⟩,
  ⟨some 66, .pick (.t 60) (.t 65) (.c (.bool false)), some (57, true)⟩,
  ⟨some 67, .mv (.t 66), some (57, true)⟩,
  ⟨some 68, .mv (.t 7), some (67, false)⟩,
  ⟨some 69, .mv (.t 68), some (67, false)⟩,
  ⟨some 70, .mv (.t 4), some (69, true)⟩,
  ⟨some 71, .bin .gtr (.t 70) (.c (.int .i64 (.ofNat 0))), some (69, true)⟩,
  ⟨some 72, .pick (.t 69) (.t 71) (.c (.bool false)), some (67, false)⟩,
  ⟨some 73, .mv (.t 72), some (67, false)⟩,
  ⟨some 74, .mv (.t 0), some (73, true)⟩,
  ⟨some 75, .mv (.t 4), some (73, true)⟩,
  ⟨some 76, .bin .sub (.t 75) (.c (.int .i64 (.ofNat 1))), some (73, true)⟩,
  ⟨some 77, .index (.t 74) (.t 76), some (73, true)⟩,
  ⟨some 78, .bin .eql (.t 77) (.c (.int .u8 (.ofNat 46))), some (73, true)⟩,
  ⟨some 79, .pick (.t 73) (.t 78) (.c (.bool false)), some (67, false)⟩,
  ⟨some 80, .pick (.t 67) (.c (.bool true)) (.t 79), some (57, true)⟩,
  ⟨some 81, .mv (.t 80), some (57, true)⟩,
  ⟨some 82, .mv (.t 6), some (81, false)⟩,
  ⟨some 83, .mv (.t 82), some (81, false)⟩,
  ⟨some 84, .mv (.t 0), some (83, true)⟩,
  ⟨some 85, .len .str (.t 84), some (83, true)⟩,
  ⟨some 86, .bin .gtr (.t 85) (.c (.int .i64 (.ofNat 1))), some (83, true)⟩,
  ⟨some 87, .pick (.t 83) (.t 86) (.c (.bool false)), some (81, false)⟩,
  ⟨some 88, .mv (.t 87), some (81, false)⟩,
  ⟨some 89, .mv (.t 0), some (88, true)⟩,
  ⟨some 90, .index (.t 89) (.c (.int .i64 (.ofNat 1))), some (88, true)⟩,
  ⟨some 91, .bin .eql (.t 90) (.c (.int .u8 (.ofNat 46))), some (88, true)⟩,
  ⟨some 92, .pick (.t 88) (.t 91) (.c (.bool false)), some (81, false)⟩,
  ⟨some 93, .pick (.t 81) (.c (.bool true)) (.t 92), some (57, true)⟩,
  ⟨some 94, .pick (.t 57) (.t 93) (.c (.bool false)), none⟩]
@[simp] def f196r13 : List ROper := [
  ⟨some 2, .mv (.c (.bool false)), none⟩]
@[simp] def f196r14 : List ROper := [
  ⟨some 20, .mv (.t 4), none⟩,
  ⟨some 21, .bin .add (.t 20) (.c (.int .i64 (.ofNat 1))), none⟩,
  ⟨some 4, .mv (.t 21), none⟩]
def f196B0 : RC := (.seq (.seq (.region f196r5 [0, 3, 4, 19]) (.cond (.t 19) .skip (.exit 0))) (.seq (.block 1 (.seq (.region f196r6 [0, 3, 4, 5]) (.seq (.seq (.region f196r7 [0, 3, 4, 5, 26]) (.cond (.t 26) (.region f196r8 [0, 3, 4, 5]) .skip)) (.seq (.region f196r9 [0, 3, 4, 5, 6, 7]) (.seq (.seq (.region f196r10 [0, 3, 4, 5, 6, 7, 54]) (.cond (.t 54) (.seq (.region f196r11 [2]) .ret) .skip)) (.seq (.region f196r12 [0, 3, 4, 94]) (.cond (.t 94) (.seq (.region f196r13 [2]) .ret) .skip))))))) (.region f196r14 [0, 3, 4])))
def f196L0 : RC := .loop [0, 3, 4] f196B0
@[simp] def f196r15 : List ROper := [
  ⟨some 95, .mv (.t 3), none⟩,
  ⟨some 96, .bin .gtr (.t 95) (.c (.int .i64 (.ofNat 0))), none⟩,
  ⟨some 2, .mv (.t 96), none⟩]
def f196 : RFunc := ⟨[.t 2], (.seq (.region f196r0 [0]) (.seq (.seq (.region f196r1 [0, 15]) (.cond (.t 15) (.seq (.region f196r2 [2]) .ret) .skip)) (.seq (.region f196r3 [0, 3]) (.seq (.seq (.region f196r4 [0, 3, 4]) (.block 0 f196L0)) (.seq (.region f196r15 [2]) .ret))))), true⟩

/-! quire/quireref09.exception -/
@[simp] def f197r0 : List ROper := [
  ⟨some 2, .mv (.c (.bool false)), none⟩]
@[simp] def f197r1 : List ROper := [
  ⟨some 5, .mv (.t 0), none⟩,
  ⟨some 6, .call 195 [(.t 5)], none⟩,
  ⟨some 7, .len .str (.t 6), none⟩,
  ⟨some 3, .mv (.t 7), none⟩]
@[simp] def f197r2 : List ROper := [
  ⟨some 8, .mv (.t 3), none⟩,
  ⟨some 9, .bin .lss (.t 8) (.c (.int .i64 (.ofNat 2))), none⟩,
  ⟨some 10, .mv (.t 9), none⟩,
  ⟨some 11, .mv (.t 3), some (10, false)⟩,
  ⟨some 12, .bin .gtr (.t 11) (.c (.int .i64 (.ofNat 64))), some (10, false)⟩,
  ⟨some 13, .pick (.t 10) (.c (.bool true)) (.t 12), none⟩,
  ⟨some 14, .mv (.t 13), none⟩,
  ⟨some 15, .mv (.t 0), some (14, false)⟩,
  ⟨some 16, .len .str (.t 15), some (14, false)⟩,
  ⟨some 17, .bin .gtr (.t 16) (.c (.int .i64 (.ofNat 128))), some (14, false)⟩,
  ⟨some 18, .pick (.t 14) (.c (.bool true)) (.t 17), none⟩,
  ⟨some 19, .mv (.t 18), none⟩,
  ⟨some 20, .mv (.t 0), some (19, false)⟩,
  ⟨some 21, .index (.t 20) (.c (.int .i64 (.ofNat 0))), some (19, false)⟩,
  ⟨some 22, .bin .eql (.t 21) (.c (.int .u8 (.ofNat 45))), some (19, false)⟩,
  ⟨some 23, .pick (.t 19) (.c (.bool true)) (.t 22), none⟩,
  ⟨some 24, .mv (.t 23), none⟩,
  ⟨some 25, .mv (.t 0), some (24, false)⟩,
  ⟨some 26, .mv (.t 0), some (24, false)⟩,
  ⟨some 27, .len .str (.t 26), some (24, false)⟩,
  ⟨some 28, .bin .sub (.t 27) (.c (.int .i64 (.ofNat 1))), some (24, false)⟩,
  ⟨some 29, .index (.t 25) (.t 28), some (24, false)⟩,
  ⟨some 30, .bin .eql (.t 29) (.c (.int .u8 (.ofNat 45))), some (24, false)⟩,
  ⟨some 31, .pick (.t 24) (.c (.bool true)) (.t 30), none⟩]
@[simp] def f197r3 : List ROper := [
  ⟨some 2, .mv (.c (.bool false)), none⟩]
@[simp] def f197r4 : List ROper := [
  ⟨some 4, .mv (.c (.int .i64 (.ofNat 0))), none⟩]
@[simp] def f197r5 : List ROper := [
  ⟨some 32, .mv (.t 4), none⟩,
  ⟨some 33, .mv (.t 0), none⟩,
  ⟨some 34, .len .str (.t 33), none⟩,
  ⟨some 35, .bin .lss (.t 32) (.t 34), none⟩]
@[simp] def f197r6 : List ROper := [
  ⟨some 38, .mv (.t 0), none⟩,
  ⟨some 39, .mv (.t 4), none⟩,
  ⟨some 40, .index (.t 38) (.t 39), none⟩,
  ⟨some 41, .call 199 [(.t 40)], none⟩,
  ⟨some 42, .un .not (.t 41), none⟩,
  ⟨some 43, .mv (.t 42), none⟩,
  ⟨some 44, .mv (.t 0), some (43, true)⟩,
  ⟨some 45, .mv (.t 4), some (43, true)⟩,
  ⟨some 46, .index (.t 44) (.t 45), some (43, true)⟩,
  ⟨some 47, .bin .neq (.t 46) (.c (.int .u8 (.ofNat 45))), some (43, true)⟩,
  ⟨some 48, .pick (.t 43) (.t 47) (.c (.bool false)), none⟩,
  ⟨some 49, .mv (.t 48), none⟩,
  ⟨some 50, .mv (.t 4), some (49, false)⟩,
  ⟨some 51, .bin .gtr (.t 50) (.c (.int .i64 (.ofNat 0))), some (49, false)⟩,
  ⟨some 52, .mv (.t 51), some (49, false)⟩,
  ⟨some 53, .mv (.t 0), some (52, true)⟩,
  ⟨some 54, .mv (.t 4), some (52, true)⟩,
  ⟨some 55, .index (.t 53) (.t 54), some (52, true)⟩,
  ⟨some 56, .bin .eql (.t 55) (.c (.int .u8 (.ofNat 45))), some (52, true)⟩,
  ⟨some 57, .pick (.t 52) (.t 56) (.c (.bool false)), some (49, false)⟩,
  ⟨some 58, .mv (.t 57), some (49, false)⟩,
  ⟨some 59, .mv (.t 0), some (58, true)⟩,
  ⟨some 60, .mv (.t 4), some (58, true)⟩,
  ⟨some 61, .bin .sub (.t 60) (.c (.int .i64 (.ofNat 1))), some (58, true)⟩,
  ⟨some 62, .index (.t 59) (.t 61), some (58, true)⟩,
  ⟨some 63, .bin .eql (.t 62) (.c (.int .u8 (.ofNat 45))), some (58, true)⟩,
  ⟨some 64, .pick (.t 58) (.t 63) (.c (.bool false)), some (49, false)⟩,
  ⟨some 65, .pick (.t 49) (.c (.bool true)) (.t 64), none⟩]
@[simp] def f197r7 : List ROper := [
  ⟨some 2, .mv (.c (.bool false)), none⟩]
@[simp] def f197r8 : List ROper := [
  ⟨some 36, .mv (.t 4), none⟩,
  ⟨some 37, .bin .add (.t 36) (.c (.int .i64 (.ofNat 1))), none⟩,
  ⟨some 4, .mv (.t 37), none⟩]
def f197B0 : RC := (.seq (.seq (.region f197r5 [0, 4, 35]) (.cond (.t 35) .skip (.exit 0))) (.seq (.block 1 (.seq (.region f197r6 [0, 4, 65]) (.cond (.t 65) (.seq (.region f197r7 [2]) .ret) .skip))) (.region f197r8 [0, 4])))
def f197L0 : RC := .loop [0, 4] f197B0
@[simp] def f197r9 : List ROper := [
  ⟨some 2, .mv (.c (.bool true)), none⟩]
def f197 : RFunc := ⟨[.t 2], (.seq (.region f197r0 [0]) (.seq (.region f197r1 [0, 3]) (.seq (.seq (.region f197r2 [0, 31]) (.cond (.t 31) (.seq (.region f197r3 [2]) .ret) .skip)) (.seq (.seq (.region f197r4 [0, 4]) (.block 0 f197L0)) (.seq (.region f197r9 [2]) .ret))))), true⟩

/-! quire/quireref09.Values -/
@[simp] def f198r0 : List ROper := [
  ⟨some 4, .mv (.c (.list 0 0 .no false [])), none⟩]
@[simp] def f198r1 : List ROper := [
  ⟨some 13, .mv (.t 1), none⟩,
  ⟨some 14, .len .str (.t 13), none⟩,
  ⟨some 15, .bin .add (.t 14) (.c (.int .i64 (.ofNat 1))), none⟩,
  ⟨some 16, .mkslice 1 false 8 [(.int .i64 (.ofNat 0))] (.t 15) (.t 15), none⟩,
  ⟨some 5, .mv (.t 16), none⟩]
@[simp] def f198r2 : List ROper := [
  ⟨some 17, .mv (.t 1), none⟩,
  ⟨some 18, .bin .add (.c (.str [46])) (.t 17), none⟩,
  ⟨some 19, .bin .add (.t 18) (.c (.str [46])), none⟩,
  ⟨some 6, .mv (.t 19), none⟩]
@[simp] def f198r3 : List ROper := [
  ⟨some 7, .mv (.c (.int .i64 (.ofNat 0))), none⟩]
@[simp] def f198r4 : List ROper := [
  ⟨some 20, .mv (.t 7), none⟩,
  ⟨some 21, .mv (.t 0), none⟩,
  ⟨some 22, .len .slice (.t 21), none⟩,
  ⟨some 23, .bin .lss (.t 20) (.t 22), none⟩]
@[simp] def f198r5 : List ROper := [
  ⟨some 26, .mv (.t 0), none⟩,
  ⟨some 27, .mv (.t 7), none⟩,
  ⟨some 28, .iaddr 1 (.t 26) (.t 27), none⟩,
  ⟨some 29, .load 1 false (.t 28), none⟩,
  ⟨some 30, .call 201 [(.t 29)], none⟩,
  ⟨some 8, .mv (.t 30), none⟩]
@[simp] def f198r6 : List ROper := [
  ⟨some 9, .mv (.c (.int .i64 (.ofNat 0))), none⟩]
@[simp] def f198r7 : List ROper := [
  ⟨some 31, .mv (.t 9), none⟩,
  ⟨some 32, .mv (.t 8), none⟩,
  ⟨some 33, .len .str (.t 32), none⟩,
  ⟨some 34, .bin .add (.t 31) (.t 33), none⟩,
  ⟨some 35, .mv (.t 6), none⟩,
  ⟨some 36, .len .str (.t 35), none⟩,
  ⟨some 37, .bin .leq (.t 34) (.t 36), none⟩]
@[simp] def f198r8 : List ROper := [
  ⟨some 40, .mv (.t 6), none⟩,
  ⟨some 41, .mv (.t 9), none⟩,
  ⟨some 42, .mv (.t 9), none⟩,
  ⟨some 43, .mv (.t 8), none⟩,
  ⟨some 44, .len .str (.t 43), none⟩,
  ⟨some 45, .bin .add (.t 42) (.t 44), none⟩,
  ⟨some 46, .slice true 1 (.t 40) (some (.t 41)) (some (.t 45)) none, none⟩,
  ⟨some 47, .mv (.t 8), none⟩,
  ⟨some 48, .bin .neq (.t 46) (.t 47), none⟩]
@[simp] def f198r9 : List ROper := [
  ⟨some 49, .mv (.t 9), none⟩,
  ⟨some 50, .bin .sub (.t 49) (.c (.int .i64 (.ofNat 1))), none⟩,
  ⟨some 10, .mv (.t 50), none⟩]
@[simp] def f198r10 : List ROper := [
  ⟨some 11, .mv (.c (.int .i64 (.ofNat 0))), none⟩]
@[simp] def f198r11 : List ROper := [
  ⟨some 51, .mv (.t 11), none⟩,
  ⟨some 52, .mv (.t 0), none⟩,
  ⟨some 53, .mv (.t 7), none⟩,
  ⟨some 54, .iaddr 1 (.t 52) (.t 53), none⟩,
  ⟨some 55, .load 1 false (.t 54), none⟩,
  ⟨some 56, .len .str (.t 55), none⟩,
  ⟨some 57, .bin .lss (.t 51) (.t 56), none⟩]
@[simp] def f198r12 : List ROper := [
  ⟨some 60, .mv (.t 0), none⟩,
  ⟨some 61, .mv (.t 7), none⟩,
  ⟨some 62, .iaddr 1 (.t 60) (.t 61), none⟩,
  ⟨some 63, .load 1 false (.t 62), none⟩,
  ⟨some 64, .mv (.t 11), none⟩,
  ⟨some 65, .index (.t 63) (.t 64), none⟩,
  ⟨some 12, .mv (.t 65), none⟩]
@[simp] def f198r13 : List ROper := [
  ⟨some 66, .mv (.t 12), none⟩,
  ⟨some 67, .call 200 [(.t 66)], none⟩,
  ⟨some 68, .un .not (.t 67), none⟩]
@[simp] def f198r14 : List ROper := [
  ⟨some 69, .mv (.t 10), none⟩,
  ⟨some 70, .bin .add (.t 69) (.c (.int .i64 (.ofNat 1))), none⟩,
  ⟨some 10, .mv (.t 70), none⟩]
@[simp] def f198r15 : List ROper := [
  ⟨some 71, .mv (.t 10), none⟩,
  ⟨some 72, .bin .geq (.t 71) (.c (.int .i64 (.ofNat 0))), none⟩,
  ⟨some 73, .mv (.t 72), none⟩,
  ⟨some 74, .mv (.t 10), some (73, true)⟩,
  ⟨some 75, .mv (.t 1), some (73, true)⟩,
  ⟨some 76, .len .str (.t 75), some (73, true)⟩,
  ⟨some 77, .bin .leq (.t 74) (.t 76), some (73, true)⟩,
  ⟨some 78, .pick (.t 73) (.t 77) (.c (.bool false)), none⟩]
@[simp] def f198r16 : List ROper := [
  ⟨some 79, .mv (.t 5), none⟩,
  ⟨some 80, .mv (.t 10), none⟩,
  ⟨some 81, .mv (.t 5), none⟩,
  ⟨some 82, .mv (.t 10), none⟩,
  ⟨some 83, .iaddr 1 (.t 81) (.t 82), none⟩,
  ⟨some 84, .load 1 false (.t 83), none⟩,
  ⟨some 85, .mv (.t 12), none⟩,
  ⟨some 86, .bin .sub (.t 85) (.c (.int .u8 (.ofNat 48))), none⟩,
  ⟨some 87, .i2i .i64 (.t 86), none⟩,
  ⟨some 88, .max [(.t 84), (.t 87)], none⟩,
  ⟨some 89, .iaddr 1 (.t 79) (.t 80), none⟩,
  ⟨none, .store 1 (.t 89) (.t 88), none⟩]
@[simp] def f198r17 : List ROper := [
  ⟨some 58, .mv (.t 11), none⟩,
  ⟨some 59, .bin .add (.t 58) (.c (.int .i64 (.ofNat 1))), none⟩,
  ⟨some 11, .mv (.t 59), none⟩]
def f198B0 : RC := (.seq (.seq (.region f198r11 [0, 1, 5, 6, 7, 8, 9, 10, 11, 57]) (.cond (.t 57) .skip (.exit 4))) (.seq (.block 5 (.seq (.region f198r12 [0, 1, 5, 6, 7, 8, 9, 10, 11, 12]) (.seq (.seq (.region f198r13 [0, 1, 5, 6, 7, 8, 9, 10, 11, 12, 68]) (.cond (.t 68) (.seq (.region f198r14 [0, 1, 5, 6, 7, 8, 9, 10, 11]) (.exit 5)) .skip)) (.seq (.region f198r15 [0, 1, 5, 6, 7, 8, 9, 10, 11, 12, 78]) (.cond (.t 78) (.region f198r16 [0, 1, 5, 6, 7, 8, 9, 10, 11]) .skip))))) (.region f198r17 [0, 1, 5, 6, 7, 8, 9, 10, 11])))
def f198L0 : RC := .loop [0, 1, 5, 6, 7, 8, 9, 10, 11] f198B0
@[simp] def f198r18 : List ROper := [
  ⟨some 38, .mv (.t 9), none⟩,
  ⟨some 39, .bin .add (.t 38) (.c (.int .i64 (.ofNat 1))), none⟩,
  ⟨some 9, .mv (.t 39), none⟩]
def f198B1 : RC := (.seq (.seq (.region f198r7 [0, 1, 5, 6, 7, 8, 9, 37]) (.cond (.t 37) .skip (.exit 2))) (.seq (.block 3 (.seq (.seq (.region f198r8 [0, 1, 5, 6, 7, 8, 9, 48]) (.cond (.t 48) (.exit 3) .skip)) (.seq (.region f198r9 [0, 1, 5, 6, 7, 8, 9, 10]) (.seq (.region f198r10 [0, 1, 5, 6, 7, 8, 9, 10, 11]) (.block 4 f198L0))))) (.region f198r18 [0, 1, 5, 6, 7, 8, 9])))
def f198L1 : RC := .loop [0, 1, 5, 6, 7, 8, 9] f198B1
@[simp] def f198r19 : List ROper := [
  ⟨some 24, .mv (.t 7), none⟩,
  ⟨some 25, .bin .add (.t 24) (.c (.int .i64 (.ofNat 1))), none⟩,
  ⟨some 7, .mv (.t 25), none⟩]
def f198B2 : RC := (.seq (.seq (.region f198r4 [0, 1, 5, 6, 7, 23]) (.cond (.t 23) .skip (.exit 0))) (.seq (.block 1 (.seq (.region f198r5 [0, 1, 5, 6, 7, 8]) (.seq (.region f198r6 [0, 1, 5, 6, 7, 8, 9]) (.block 2 f198L1)))) (.region f198r19 [0, 1, 5, 6, 7])))
def f198L2 : RC := .loop [0, 1, 5, 6, 7] f198B2
@[simp] def f198r20 : List ROper := [
  ⟨some 90, .mv (.t 5), none⟩,
  ⟨some 4, .mv (.t 90), none⟩]
def f198 : RFunc := ⟨[.t 4], (.seq (.region f198r0 [0, 1]) (.seq (.region f198r1 [0, 1, 5]) (.seq (.region f198r2 [0, 1, 5, 6]) (.seq (.seq (.region f198r3 [0, 1, 5, 6, 7]) (.block 0 f198L2)) (.seq (.region f198r20 [4]) .ret))))), true⟩

/-! quire/quireref09.small -/
@[simp] def f199r0 : List ROper := [
  ⟨some 2, .mv (.c (.bool false)), none⟩]
@[simp] def f199r1 : List ROper := [
  ⟨some 3, .mv (.t 0), none⟩,
  ⟨some 4, .bin .geq (.t 3) (.c (.int .u8 (.ofNat 97))), none⟩,
  ⟨some 5, .mv (.t 4), none⟩,
  ⟨some 6, .mv (.t 0), some (5, true)⟩,
  ⟨some 7, .bin .leq (.t 6) (.c (.int .u8 (.ofNat 122))), some (5, true)⟩,
  ⟨some 8, .pick (.t 5) (.t 7) (.c (.bool false)), none⟩,
  ⟨some 2, .mv (.t 8), none⟩]
def f199 : RFunc := ⟨[.t 2], (.seq (.region f199r0 [0]) (.seq (.region f199r1 [2]) .ret)), true⟩

/-! quire/quireref09.digit -/
@[simp] def f200r0 : List ROper := [
  ⟨some 2, .mv (.c (.bool false)), none⟩]
@[simp] def f200r1 : List ROper := [
  ⟨some 3, .mv (.t 0), none⟩,
  ⟨some 4, .bin .geq (.t 3) (.c (.int .u8 (.ofNat 48))), none⟩,
  ⟨some 5, .mv (.t 4), none⟩,
  ⟨some 6, .mv (.t 0), some (5, true)⟩,
  ⟨some 7, .bin .leq (.t 6) (.c (.int .u8 (.ofNat 57))), some (5, true)⟩,
  ⟨some 8, .pick (.t 5) (.t 7) (.c (.bool false)), none⟩,
  ⟨some 2, .mv (.t 8), none⟩]
def f200 : RFunc := ⟨[.t 2], (.seq (.region f200r0 [0]) (.seq (.region f200r1 [2]) .ret)), true⟩

/-! quire/quireref09.Letters -/
@[simp] def f201r0 : List ROper := [
  ⟨some 2, .mv (.c (.str [])), none⟩]
@[simp] def f201r1 : List ROper := [
  ⟨some 3, .mv (.c (.str [])), none⟩]
@[simp] def f201r2 : List ROper := [
  ⟨some 4, .mv (.c (.int .i64 (.ofNat 0))), none⟩]
@[simp] def f201r3 : List ROper := [
  ⟨some 5, .mv (.t 4), none⟩,
  ⟨some 6, .mv (.t 0), none⟩,
  ⟨some 7, .len .str (.t 6), none⟩,
  ⟨some 8, .bin .lss (.t 5) (.t 7), none⟩]
@[simp] def f201r4 : List ROper := [
  ⟨some 11, .mv (.t 0), none⟩,
  ⟨some 12, .mv (.t 4), none⟩,
  ⟨some 13, .index (.t 11) (.t 12), none⟩,
  ⟨some 14, .call 200 [(.t 13)], none⟩,
  ⟨some 15, .un .not (.t 14), none⟩]
@[simp] def f201r5 : List ROper := [
  ⟨some 16, .mv (.t 3), none⟩,
  ⟨some 17, .mv (.t 0), none⟩,
  ⟨some 18, .mv (.t 4), none⟩,
  ⟨some 19, .mv (.t 4), none⟩,
  ⟨some 20, .bin .add (.t 19) (.c (.int .i64 (.ofNat 1))), none⟩,
  ⟨some 21, .slice true 1 (.t 17) (some (.t 18)) (some (.t 20)) none, none⟩,
  ⟨some 22, .bin .add (.t 16) (.t 21), none⟩,
  ⟨some 3, .mv (.t 22), none⟩]
@[simp] def f201r6 : List ROper := [
  ⟨some 9, .mv (.t 4), none⟩,
  ⟨some 10, .bin .add (.t 9) (.c (.int .i64 (.ofNat 1))), none⟩,
  ⟨some 4, .mv (.t 10), none⟩]
def f201B0 : RC := (.seq (.seq (.region f201r3 [0, 3, 4, 8]) (.cond (.t 8) .skip (.exit 0))) (.seq (.block 1 (.seq (.region f201r4 [0, 3, 4, 15]) (.cond (.t 15) (.region f201r5 [0, 3, 4]) .skip))) (.region f201r6 [0, 3, 4])))
def f201L0 : RC := .loop [0, 3, 4] f201B0
@[simp] def f201r7 : List ROper := [
  ⟨some 23, .mv (.t 3), none⟩,
  ⟨some 2, .mv (.t 23), none⟩]
def f201 : RFunc := ⟨[.t 2], (.seq (.region f201r0 [0]) (.seq (.region f201r1 [0, 3]) (.seq (.seq (.region f201r2 [0, 3, 4]) (.block 0 f201L0)) (.seq (.region f201r7 [2]) .ret)))), true⟩

def tree : TT := (.node 179 (.node 157 (.node 148 (.node 143 (.node 50 (.leaf 28 (.code f28)) (.leaf 50 (.code f50))) (.node 144 (.leaf 143 (.code f143)) (.node 147 (.leaf 144 (.code f144)) (.leaf 147 (.code f147))))) (.node 151 (.node 149 (.leaf 148 (.code f148)) (.node 150 (.leaf 149 (.code f149)) (.leaf 150 (.code f150)))) (.node 152 (.leaf 151 (.code f151)) (.node 156 (.leaf 152 (.code f152)) (.leaf 156 (.code f156)))))) (.node 164 (.node 160 (.node 158 (.leaf 157 (.code f157)) (.node 159 (.leaf 158 (.code f158)) (.leaf 159 (.code f159)))) (.node 161 (.leaf 160 (.code f160)) (.node 163 (.leaf 161 (.code f161)) (.leaf 163 (.code f163))))) (.node 167 (.node 165 (.leaf 164 (.code f164)) (.node 166 (.leaf 165 (.code f165)) (.leaf 166 (.code f166)))) (.node 176 (.leaf 167 (.code f167)) (.node 178 (.leaf 176 (.code f176)) (.leaf 178 (.code f178))))))) (.node 190 (.node 184 (.node 181 (.node 180 (.leaf 179 (.code f179)) (.leaf 180 (.code f180))) (.node 182 (.leaf 181 (.code f181)) (.node 183 (.leaf 182 (.code f182)) (.leaf 183 (.code f183))))) (.node 187 (.node 185 (.leaf 184 (.code f184)) (.node 186 (.leaf 185 (.code f185)) (.leaf 186 (.code f186)))) (.node 188 (.leaf 187 (.code f187)) (.node 189 (.leaf 188 (.code f188)) (.leaf 189 (.code f189)))))) (.node 196 (.node 193 (.node 191 (.leaf 190 (.code f190)) (.node 192 (.leaf 191 (.code f191)) (.leaf 192 (.code f192)))) (.node 194 (.leaf 193 (.code f193)) (.node 195 (.leaf 194 (.code f194)) (.leaf 195 (.code f195))))) (.node 199 (.node 197 (.leaf 196 (.code f196)) (.node 198 (.leaf 197 (.code f197)) (.leaf 198 (.code f198)))) (.node 200 (.leaf 199 (.code f199)) (.node 201 (.leaf 200 (.code f200)) (.leaf 201 (.code f201))))))))

def fms : List (Nat × FuncId) := [(192, 22), (193, 23), (194, 24), (195, 25), (196, 30), (197, 31), (198, 37), (199, 39), (200, 43), (201, 44), (143, 17), (144, 14), (147, 10), (148, 38), (149, 33), (150, 34), (151, 35), (152, 36), (28, 26), (156, 27), (157, 28), (158, 29), (159, 45), (160, 46), (161, 40), (163, 41), (164, 42), (165, 47), (166, 48), (167, 49), (176, 3), (50, 32), (178, 5), (179, 6), (180, 7), (181, 8), (182, 9), (183, 11), (184, 12), (185, 13), (186, 15), (187, 16), (188, 18), (189, 19), (190, 20), (191, 21)]

def env : List (Nat × List Nat) := [(0, asciiSpaceL)]

end Go.D.Tab
